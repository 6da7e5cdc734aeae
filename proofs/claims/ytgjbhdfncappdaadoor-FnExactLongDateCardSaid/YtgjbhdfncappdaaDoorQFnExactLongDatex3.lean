-- Written by a program of this session.
import Derived.Test.YtgjbhdfncappdaaDoorQFnExactLongDatex0
import Derived.Test.YtgjbhdfncappdaaDoorQFnExactLongDatex2
namespace Go.Proofs.YtgjbhdfncappdaaDoor.PFnExactLongDate
open Go.Proofs.YtgjbhdfncappdaaDoor.Foreign
open Go.RowKit Go.Proofs.YtgjbhdfncappdaaDoorW.PrintWords Go.Proofs.YtgjbhdfncappdaaDoorW.PrintLast Go.Proofs.YtgjbhdfncappdaaDoorW.PrintMore
attribute [local go_sem] max2_int min2_int max_two min_two max_three min_three max_four min_four   -- for this text's walks alone
set_option linter.unusedVariables false
set_option linter.unusedSimpArgs false

/-! ### impl_LongDate: function 29 -/
def impl_LongDate.j0 : Nat → Int → Bool → Option (ByteArray)
 | 0, _, _ => none
 | k + 1, x0, x12 => if x12 = true then (some (⟨#[]⟩ : ByteArray)) else ((impl_civilOf.f x0).bind fun bt147 => ((impl_days.f).bind fun t154 => ((impl_Weekday.f x0).bind fun t157 => (if 0 ≤ t157 then (if t157 < (t154.length : Int) then (if (rdOf ByteArray.empty t154 t157).size + 2 ≤ 9223372036854775807 then ((impl_digits.f bt147.2.2.1 2).bind fun t159 => (if ((rdOf ByteArray.empty t154 t157) ++ (⟨#[44, 32]⟩ : ByteArray)).size + t159.size ≤ 9223372036854775807 then (if (((rdOf ByteArray.empty t154 t157) ++ (⟨#[44, 32]⟩ : ByteArray)) ++ t159).size + 1 ≤ 9223372036854775807 then ((impl_months.f).bind fun t160 => (if 0 ≤ (wrap64 (bt147.2.1 - 1)) then (if (wrap64 (bt147.2.1 - 1)) < (t160.length : Int) then (if ((((rdOf ByteArray.empty t154 t157) ++ (⟨#[44, 32]⟩ : ByteArray)) ++ t159) ++ (⟨#[45]⟩ : ByteArray)).size + (rdOf ByteArray.empty t160 (wrap64 (bt147.2.1 - 1))).size ≤ 9223372036854775807 then (if (((((rdOf ByteArray.empty t154 t157) ++ (⟨#[44, 32]⟩ : ByteArray)) ++ t159) ++ (⟨#[45]⟩ : ByteArray)) ++ (rdOf ByteArray.empty t160 (wrap64 (bt147.2.1 - 1)))).size + 1 ≤ 9223372036854775807 then ((impl_digits.f bt147.1 2).bind fun t164 => (if ((((((rdOf ByteArray.empty t154 t157) ++ (⟨#[44, 32]⟩ : ByteArray)) ++ t159) ++ (⟨#[45]⟩ : ByteArray)) ++ (rdOf ByteArray.empty t160 (wrap64 (bt147.2.1 - 1)))) ++ (⟨#[45]⟩ : ByteArray)).size + t164.size ≤ 9223372036854775807 then (if (((((((rdOf ByteArray.empty t154 t157) ++ (⟨#[44, 32]⟩ : ByteArray)) ++ t159) ++ (⟨#[45]⟩ : ByteArray)) ++ (rdOf ByteArray.empty t160 (wrap64 (bt147.2.1 - 1)))) ++ (⟨#[45]⟩ : ByteArray)) ++ t164).size + 1 ≤ 9223372036854775807 then ((impl_clock.f bt147.1 bt147.2.1 bt147.2.2.1 bt147.2.2.2.1 bt147.2.2.2.2.1 bt147.2.2.2.2.2).bind fun t165 => (if ((((((((rdOf ByteArray.empty t154 t157) ++ (⟨#[44, 32]⟩ : ByteArray)) ++ t159) ++ (⟨#[45]⟩ : ByteArray)) ++ (rdOf ByteArray.empty t160 (wrap64 (bt147.2.1 - 1)))) ++ (⟨#[45]⟩ : ByteArray)) ++ t164) ++ (⟨#[32]⟩ : ByteArray)).size + t165.size ≤ 9223372036854775807 then (if (((((((((rdOf ByteArray.empty t154 t157) ++ (⟨#[44, 32]⟩ : ByteArray)) ++ t159) ++ (⟨#[45]⟩ : ByteArray)) ++ (rdOf ByteArray.empty t160 (wrap64 (bt147.2.1 - 1)))) ++ (⟨#[45]⟩ : ByteArray)) ++ t164) ++ (⟨#[32]⟩ : ByteArray)) ++ t165).size + 4 ≤ 9223372036854775807 then (some ((((((((((rdOf ByteArray.empty t154 t157) ++ (⟨#[44, 32]⟩ : ByteArray)) ++ t159) ++ (⟨#[45]⟩ : ByteArray)) ++ (rdOf ByteArray.empty t160 (wrap64 (bt147.2.1 - 1)))) ++ (⟨#[45]⟩ : ByteArray)) ++ t164) ++ (⟨#[32]⟩ : ByteArray)) ++ t165) ++ (⟨#[32, 71, 77, 84]⟩ : ByteArray))) else (none)) else (none))) else (none)) else (none))) else (none)) else (none)) else (none)) else (none))) else (none)) else (none))) else (none)) else (none)) else (none)))))
def impl_LongDate.f (k : Nat) (a0 : Int) : Option (ByteArray) := (impl_isTime.f a0).bind fun t140 => (if t140 = true then ((impl_civilOf.f a0).bind fun bt141 => (impl_LongDate.j0 k a0 (decide (bt141.1 > 2069)))) else (impl_LongDate.j0 k a0 true))
theorem impl_LongDate.mono_l : ∀ k, (∀ y0 y1, LeO (impl_LongDate.j0 k y0 y1) (impl_LongDate.j0 (k + 1) y0 y1))
 | 0 => fun _ _ r h => by simp [impl_LongDate.j0] at h
 | k + 1 => by
  have ih0 := impl_LongDate.mono_l k
  ·
   intro y0 y1
   unfold impl_LongDate.j0
   repeat' first
   | (with_reducible exact ih0 _ _)
   | (with_reducible exact LeO.refl _)
   | (with_reducible exact LeO.none _)
   | (with_reducible refine LeO.ite ?_ ?_)
   | (with_reducible refine LeO.bind ?_ (fun _ => ?_))
   | exact ih0 _ _
   | exact LeO.none _
   | refine LeO.ite ?_ ?_
   | refine LeO.bind ?_ (fun _ => ?_)
theorem impl_LongDate.mono : ∀ a0 k, LeO (impl_LongDate.f k a0) (impl_LongDate.f (k + 1) a0) := by
 intro a0 k
 have ih0 := impl_LongDate.mono_l k
 unfold impl_LongDate.f
 repeat' first
   | (with_reducible exact ih0 _ _)
   | (with_reducible exact LeO.refl _)
   | (with_reducible exact LeO.none _)
   | (with_reducible refine LeO.ite ?_ ?_)
   | (with_reducible refine LeO.bind ?_ (fun _ => ?_))
   | exact ih0 _ _
   | exact LeO.none _
   | refine LeO.ite ?_ ?_
   | refine LeO.bind ?_ (fun _ => ?_)
def impl_LongDate.T4 : Bool × List (List Nat × List Nat) := (true, [([], []), ([], []), ([1, 0], [1]), ([0, 2], [0, 2]), ([3], [3]), ([4], [4]), ([], []), ([6], [6]), ([7, 2], [7]), ([5, 8], [5, 8]), ([9], [9]), ([8], []), ([], []), ([12], [12]), ([13], [13]), ([11, 14], [11, 14]), ([15], [15]), ([10, 16], [10, 16]), ([17], [17]), ([], []), ([19], [19]), ([20, 11], [20]), ([18, 21], [18, 21]), ([22], [22]), ([], []), ([24, 21], [24]), ([23, 25], [23, 25]), ([26], [26]), ([27, 25, 0, 1, 2, 3, 4, 5, 6, 7, 8, 9, 10, 11, 12, 13, 14, 15, 16, 17, 18, 19, 20, 21, 22, 23, 24, 25, 26, 27], [27])])
def impl_LongDate.B4 : List Nat := [0, 0, 3, 7, 15, 31, 0, 64, 199, 511, 1023, 455, 0, 4096, 12288, 31175, 63943, 131071, 262143, 0, 524288, 1575367, 4194303, 8388607, 0, 20449735, 67108863, 134217727, 268435455]
theorem impl_LongDate.tab4 : rtab .any (opsOf Tryd.f29 4) = impl_LongDate.T4 := by kernel_rfl
theorem impl_LongDate.bits4 : waitsOk impl_LongDate.T4.2 impl_LongDate.B4 = true := by kernel_rfl
set_option maxHeartbeats 8000000 in
set_option maxRecDepth 100000 in
theorem impl_LongDate.calls (k : Nat) (a0 : Int) (r : ByteArray) (w : World) (h : impl_LongDate.f k a0 = some r) :
  Calls Tryd.prog 29 #[.int .i64 a0] w fun e w' => e = .returned (.string r) ∧ Below w.heap.size w w' := by
 have hu30 := Tryd.underlying30
 have hfd30_0 : ∀ (x0_ x1_ x2_ x3_ x4_ x5_ : Value) (W : World), (Instr.field 30 (.agg #[x0_, x1_, x2_, x3_, x4_, x5_]) 0).run Tryd.prog W = .ok x0_ W := fun _ _ _ _ _ _ _ => by kernel_rfl
 have HB := Aside0.mk (Below.refl w.heap.size w)
 have H : ((impl_isTime.f a0).bind fun t140 => (if t140 = true then ((impl_civilOf.f a0).bind fun bt141 => (impl_LongDate.j0 k a0 (decide (bt141.1 > 2069)))) else (impl_LongDate.j0 k a0 true))) = some r := h
 clear h
 have HC2 := Aside0.mk H
 clear H
 go_enter Tryd.func29, Tryd.ntmps29
 go_upto_region 1 with (fail)
 go_cut [12] (fun v12 wc => ∃ (kq : Nat) (x12_1 : Bool), v12 = .bool x12_1 ∧ Aside0 (impl_LongDate.j0 kq a0 x12_1 = some r) ∧ Aside0 (kq ≤ k) ∧ Aside0 (Below w.heap.size w wc))
 case first =>
  have H := HC2.out
  clear HC2
  replace H := Option.bind_eq_some_iff.mp H
  obtain ⟨t140, A30, H⟩ := H
  replace H : (if t140 = true then ((impl_civilOf.f a0).bind fun bt141 => (impl_LongDate.j0 k a0 (decide (bt141.1 > 2069)))) else (impl_LongDate.j0 k a0 true)) = some r := H
  have A3 := Aside0.mk A30
  clear A30
  by_cases c4 : t140 = true
  ·
   subst c4
   have H1 : ((impl_civilOf.f a0).bind fun bt141 => (impl_LongDate.j0 k a0 (decide (bt141.1 > 2069)))) = some r := by rw [if_pos rfl] at H; exact H
   clear H
   have H := H1
   clear H1
   replace H := Option.bind_eq_some_iff.mp H
   obtain ⟨⟨t141, t142, t143, t144, t145, t146⟩, A50, H⟩ := H
   replace H : (impl_LongDate.j0 k a0 (decide (t141 > 2069))) = some r := H
   have A5 := Aside0.mk A50
   clear A50
   have H' := Aside0.mk H
   clear H
   go_wp2_with (first | ((with_reducible refine gate_callee (f := 45) rfl ?_); refine goesL_ (some 5) rfl rfl Tryd.func45 (by kernel_rfl) rfl #[.int .i64 a0] rfl (by (try simp only [List.map_toArray, List.map_cons, List.map_nil]); first | done | rfl | (simp only [List.length_drop, List.length_take]; rfl)) ?_; (with_reducible refine (impl_isTime.calls a0 true _ A3.out).mono ?_); rintro e w' ⟨rfl, ⟨nd, rfl⟩⟩; refine ⟨_, rfl, ?_⟩) | (go_at_call 46; (with_reducible refine (impl_civilOf.calls a0 t141 t142 t143 t144 t145 t146 _ A5.out).mono ?_); rintro e w6 ⟨rfl, hb⟩; have n0_ := Aside0.mk (below_step (by repeat (first | (with_reducible first | exact HB.out | apply below_alloc | apply pw_below_drewN | apply below_drew1) | exact HB.out)) hb); clear HB; have HB := n0_; clear n0_; (try clear hb); (try clear hb2); (try clear hk); (try clear hi)))
   go_meet
   case rel => exact ⟨_, (decide (t141 > 2069)), (by first | rfl | (simp; done) | (simp [*]; done)), H', ⟨by first | omega | exact Nat.le_refl _⟩, ⟨by repeat (first | (with_reducible first | exact HB.out | apply below_alloc | apply pw_below_drewN | apply below_drew1) | exact HB.out)⟩⟩
  ·
   replace c4 := Bool.eq_false_iff.mpr c4
   subst c4
   have H1 : (impl_LongDate.j0 k a0 true) = some r := by rw [if_neg (show ¬ (false = true) by decide)] at H; exact H
   clear H
   have H := H1
   clear H1
   have H' := Aside0.mk H
   clear H
   go_wp2_with (first | ((with_reducible refine gate_callee (f := 45) rfl ?_); refine goesL_ (some 5) rfl rfl Tryd.func45 (by kernel_rfl) rfl #[.int .i64 a0] rfl (by (try simp only [List.map_toArray, List.map_cons, List.map_nil]); first | done | rfl | (simp only [List.length_drop, List.length_take]; rfl)) ?_; (with_reducible refine (impl_isTime.calls a0 false _ A3.out).mono ?_); rintro e w' ⟨rfl, ⟨nd, rfl⟩⟩; refine ⟨_, rfl, ?_⟩))
   go_meet
   case rel => exact ⟨_, (true), (by first | rfl | (simp; done) | (simp [*]; done)), H', ⟨by first | omega | exact Nat.le_refl _⟩, ⟨by repeat (first | (with_reducible first | exact HB.out | apply below_alloc | apply pw_below_drewN | apply below_drew1) | exact HB.out)⟩⟩
 case rest =>
  clear HC2
  try clear c2
  try clear p2
  try clear c4
  obtain ⟨kq, x12_1, rfl, HA, HJ1, HB⟩ := hcut
  cases kq with
  | zero => exact absurd HA.out (by simp [impl_LongDate.j0])
  | succ kj1 =>
   have H := HA.out
   clear HA
   simp only [impl_LongDate.j0] at H
   by_cases c7 : x12_1 = true
   ·
    subst c7
    have H1 : (some (⟨#[]⟩ : ByteArray)) = some r := by rw [if_pos rfl] at H; exact H
    clear H
    have H := H1
    clear H1
    obtain rfl := Option.some.inj H
    go_wp2
    go_ret
    exact ⟨by first | rfl | (simp [errW_none, errW_some] <;> rfl) | (simp [*, errW_none, errW_some] <;> rfl), by repeat (first | (with_reducible first | exact HB.out | apply below_alloc | apply pw_below_drewN | apply below_drew1) | exact HB.out)⟩
   ·
    replace c7 := Bool.eq_false_iff.mpr c7
    subst c7
    have H1 : ((impl_civilOf.f a0).bind fun bt147 => ((impl_days.f).bind fun t154 => ((impl_Weekday.f a0).bind fun t157 => (if 0 ≤ t157 then (if t157 < (t154.length : Int) then (if (rdOf ByteArray.empty t154 t157).size + 2 ≤ 9223372036854775807 then ((impl_digits.f bt147.2.2.1 2).bind fun t159 => (if ((rdOf ByteArray.empty t154 t157) ++ (⟨#[44, 32]⟩ : ByteArray)).size + t159.size ≤ 9223372036854775807 then (if (((rdOf ByteArray.empty t154 t157) ++ (⟨#[44, 32]⟩ : ByteArray)) ++ t159).size + 1 ≤ 9223372036854775807 then ((impl_months.f).bind fun t160 => (if 0 ≤ (wrap64 (bt147.2.1 - 1)) then (if (wrap64 (bt147.2.1 - 1)) < (t160.length : Int) then (if ((((rdOf ByteArray.empty t154 t157) ++ (⟨#[44, 32]⟩ : ByteArray)) ++ t159) ++ (⟨#[45]⟩ : ByteArray)).size + (rdOf ByteArray.empty t160 (wrap64 (bt147.2.1 - 1))).size ≤ 9223372036854775807 then (if (((((rdOf ByteArray.empty t154 t157) ++ (⟨#[44, 32]⟩ : ByteArray)) ++ t159) ++ (⟨#[45]⟩ : ByteArray)) ++ (rdOf ByteArray.empty t160 (wrap64 (bt147.2.1 - 1)))).size + 1 ≤ 9223372036854775807 then ((impl_digits.f bt147.1 2).bind fun t164 => (if ((((((rdOf ByteArray.empty t154 t157) ++ (⟨#[44, 32]⟩ : ByteArray)) ++ t159) ++ (⟨#[45]⟩ : ByteArray)) ++ (rdOf ByteArray.empty t160 (wrap64 (bt147.2.1 - 1)))) ++ (⟨#[45]⟩ : ByteArray)).size + t164.size ≤ 9223372036854775807 then (if (((((((rdOf ByteArray.empty t154 t157) ++ (⟨#[44, 32]⟩ : ByteArray)) ++ t159) ++ (⟨#[45]⟩ : ByteArray)) ++ (rdOf ByteArray.empty t160 (wrap64 (bt147.2.1 - 1)))) ++ (⟨#[45]⟩ : ByteArray)) ++ t164).size + 1 ≤ 9223372036854775807 then ((impl_clock.f bt147.1 bt147.2.1 bt147.2.2.1 bt147.2.2.2.1 bt147.2.2.2.2.1 bt147.2.2.2.2.2).bind fun t165 => (if ((((((((rdOf ByteArray.empty t154 t157) ++ (⟨#[44, 32]⟩ : ByteArray)) ++ t159) ++ (⟨#[45]⟩ : ByteArray)) ++ (rdOf ByteArray.empty t160 (wrap64 (bt147.2.1 - 1)))) ++ (⟨#[45]⟩ : ByteArray)) ++ t164) ++ (⟨#[32]⟩ : ByteArray)).size + t165.size ≤ 9223372036854775807 then (if (((((((((rdOf ByteArray.empty t154 t157) ++ (⟨#[44, 32]⟩ : ByteArray)) ++ t159) ++ (⟨#[45]⟩ : ByteArray)) ++ (rdOf ByteArray.empty t160 (wrap64 (bt147.2.1 - 1)))) ++ (⟨#[45]⟩ : ByteArray)) ++ t164) ++ (⟨#[32]⟩ : ByteArray)) ++ t165).size + 4 ≤ 9223372036854775807 then (some ((((((((((rdOf ByteArray.empty t154 t157) ++ (⟨#[44, 32]⟩ : ByteArray)) ++ t159) ++ (⟨#[45]⟩ : ByteArray)) ++ (rdOf ByteArray.empty t160 (wrap64 (bt147.2.1 - 1)))) ++ (⟨#[45]⟩ : ByteArray)) ++ t164) ++ (⟨#[32]⟩ : ByteArray)) ++ t165) ++ (⟨#[32, 71, 77, 84]⟩ : ByteArray))) else (none)) else (none))) else (none)) else (none))) else (none)) else (none)) else (none)) else (none))) else (none)) else (none))) else (none)) else (none)) else (none))))) = some r := by rw [if_neg (show ¬ (false = true) by decide)] at H; exact H
    clear H
    have H := H1
    clear H1
    replace H := Option.bind_eq_some_iff.mp H
    obtain ⟨⟨t147, t148, t149, t150, t151, t152⟩, A80, H⟩ := H
    replace H : ((impl_days.f).bind fun t154 => ((impl_Weekday.f a0).bind fun t157 => (if 0 ≤ t157 then (if t157 < (t154.length : Int) then (if (rdOf ByteArray.empty t154 t157).size + 2 ≤ 9223372036854775807 then ((impl_digits.f t149 2).bind fun t159 => (if ((rdOf ByteArray.empty t154 t157) ++ (⟨#[44, 32]⟩ : ByteArray)).size + t159.size ≤ 9223372036854775807 then (if (((rdOf ByteArray.empty t154 t157) ++ (⟨#[44, 32]⟩ : ByteArray)) ++ t159).size + 1 ≤ 9223372036854775807 then ((impl_months.f).bind fun t160 => (if 0 ≤ (wrap64 (t148 - 1)) then (if (wrap64 (t148 - 1)) < (t160.length : Int) then (if ((((rdOf ByteArray.empty t154 t157) ++ (⟨#[44, 32]⟩ : ByteArray)) ++ t159) ++ (⟨#[45]⟩ : ByteArray)).size + (rdOf ByteArray.empty t160 (wrap64 (t148 - 1))).size ≤ 9223372036854775807 then (if (((((rdOf ByteArray.empty t154 t157) ++ (⟨#[44, 32]⟩ : ByteArray)) ++ t159) ++ (⟨#[45]⟩ : ByteArray)) ++ (rdOf ByteArray.empty t160 (wrap64 (t148 - 1)))).size + 1 ≤ 9223372036854775807 then ((impl_digits.f t147 2).bind fun t164 => (if ((((((rdOf ByteArray.empty t154 t157) ++ (⟨#[44, 32]⟩ : ByteArray)) ++ t159) ++ (⟨#[45]⟩ : ByteArray)) ++ (rdOf ByteArray.empty t160 (wrap64 (t148 - 1)))) ++ (⟨#[45]⟩ : ByteArray)).size + t164.size ≤ 9223372036854775807 then (if (((((((rdOf ByteArray.empty t154 t157) ++ (⟨#[44, 32]⟩ : ByteArray)) ++ t159) ++ (⟨#[45]⟩ : ByteArray)) ++ (rdOf ByteArray.empty t160 (wrap64 (t148 - 1)))) ++ (⟨#[45]⟩ : ByteArray)) ++ t164).size + 1 ≤ 9223372036854775807 then ((impl_clock.f t147 t148 t149 t150 t151 t152).bind fun t165 => (if ((((((((rdOf ByteArray.empty t154 t157) ++ (⟨#[44, 32]⟩ : ByteArray)) ++ t159) ++ (⟨#[45]⟩ : ByteArray)) ++ (rdOf ByteArray.empty t160 (wrap64 (t148 - 1)))) ++ (⟨#[45]⟩ : ByteArray)) ++ t164) ++ (⟨#[32]⟩ : ByteArray)).size + t165.size ≤ 9223372036854775807 then (if (((((((((rdOf ByteArray.empty t154 t157) ++ (⟨#[44, 32]⟩ : ByteArray)) ++ t159) ++ (⟨#[45]⟩ : ByteArray)) ++ (rdOf ByteArray.empty t160 (wrap64 (t148 - 1)))) ++ (⟨#[45]⟩ : ByteArray)) ++ t164) ++ (⟨#[32]⟩ : ByteArray)) ++ t165).size + 4 ≤ 9223372036854775807 then (some ((((((((((rdOf ByteArray.empty t154 t157) ++ (⟨#[44, 32]⟩ : ByteArray)) ++ t159) ++ (⟨#[45]⟩ : ByteArray)) ++ (rdOf ByteArray.empty t160 (wrap64 (t148 - 1)))) ++ (⟨#[45]⟩ : ByteArray)) ++ t164) ++ (⟨#[32]⟩ : ByteArray)) ++ t165) ++ (⟨#[32, 71, 77, 84]⟩ : ByteArray))) else (none)) else (none))) else (none)) else (none))) else (none)) else (none)) else (none)) else (none))) else (none)) else (none))) else (none)) else (none)) else (none)))) = some r := H
    have A8 := Aside0.mk A80
    clear A80
    replace H := Option.bind_eq_some_iff.mp H
    obtain ⟨t154, A90, H⟩ := H
    replace H : ((impl_Weekday.f a0).bind fun t157 => (if 0 ≤ t157 then (if t157 < (t154.length : Int) then (if (rdOf ByteArray.empty t154 t157).size + 2 ≤ 9223372036854775807 then ((impl_digits.f t149 2).bind fun t159 => (if ((rdOf ByteArray.empty t154 t157) ++ (⟨#[44, 32]⟩ : ByteArray)).size + t159.size ≤ 9223372036854775807 then (if (((rdOf ByteArray.empty t154 t157) ++ (⟨#[44, 32]⟩ : ByteArray)) ++ t159).size + 1 ≤ 9223372036854775807 then ((impl_months.f).bind fun t160 => (if 0 ≤ (wrap64 (t148 - 1)) then (if (wrap64 (t148 - 1)) < (t160.length : Int) then (if ((((rdOf ByteArray.empty t154 t157) ++ (⟨#[44, 32]⟩ : ByteArray)) ++ t159) ++ (⟨#[45]⟩ : ByteArray)).size + (rdOf ByteArray.empty t160 (wrap64 (t148 - 1))).size ≤ 9223372036854775807 then (if (((((rdOf ByteArray.empty t154 t157) ++ (⟨#[44, 32]⟩ : ByteArray)) ++ t159) ++ (⟨#[45]⟩ : ByteArray)) ++ (rdOf ByteArray.empty t160 (wrap64 (t148 - 1)))).size + 1 ≤ 9223372036854775807 then ((impl_digits.f t147 2).bind fun t164 => (if ((((((rdOf ByteArray.empty t154 t157) ++ (⟨#[44, 32]⟩ : ByteArray)) ++ t159) ++ (⟨#[45]⟩ : ByteArray)) ++ (rdOf ByteArray.empty t160 (wrap64 (t148 - 1)))) ++ (⟨#[45]⟩ : ByteArray)).size + t164.size ≤ 9223372036854775807 then (if (((((((rdOf ByteArray.empty t154 t157) ++ (⟨#[44, 32]⟩ : ByteArray)) ++ t159) ++ (⟨#[45]⟩ : ByteArray)) ++ (rdOf ByteArray.empty t160 (wrap64 (t148 - 1)))) ++ (⟨#[45]⟩ : ByteArray)) ++ t164).size + 1 ≤ 9223372036854775807 then ((impl_clock.f t147 t148 t149 t150 t151 t152).bind fun t165 => (if ((((((((rdOf ByteArray.empty t154 t157) ++ (⟨#[44, 32]⟩ : ByteArray)) ++ t159) ++ (⟨#[45]⟩ : ByteArray)) ++ (rdOf ByteArray.empty t160 (wrap64 (t148 - 1)))) ++ (⟨#[45]⟩ : ByteArray)) ++ t164) ++ (⟨#[32]⟩ : ByteArray)).size + t165.size ≤ 9223372036854775807 then (if (((((((((rdOf ByteArray.empty t154 t157) ++ (⟨#[44, 32]⟩ : ByteArray)) ++ t159) ++ (⟨#[45]⟩ : ByteArray)) ++ (rdOf ByteArray.empty t160 (wrap64 (t148 - 1)))) ++ (⟨#[45]⟩ : ByteArray)) ++ t164) ++ (⟨#[32]⟩ : ByteArray)) ++ t165).size + 4 ≤ 9223372036854775807 then (some ((((((((((rdOf ByteArray.empty t154 t157) ++ (⟨#[44, 32]⟩ : ByteArray)) ++ t159) ++ (⟨#[45]⟩ : ByteArray)) ++ (rdOf ByteArray.empty t160 (wrap64 (t148 - 1)))) ++ (⟨#[45]⟩ : ByteArray)) ++ t164) ++ (⟨#[32]⟩ : ByteArray)) ++ t165) ++ (⟨#[32, 71, 77, 84]⟩ : ByteArray))) else (none)) else (none))) else (none)) else (none))) else (none)) else (none)) else (none)) else (none))) else (none)) else (none))) else (none)) else (none)) else (none))) = some r := H
    have A9 := Aside0.mk A90
    clear A90
    replace H := Option.bind_eq_some_iff.mp H
    obtain ⟨t157, A100, H⟩ := H
    replace H : (if 0 ≤ t157 then (if t157 < (t154.length : Int) then (if (rdOf ByteArray.empty t154 t157).size + 2 ≤ 9223372036854775807 then ((impl_digits.f t149 2).bind fun t159 => (if ((rdOf ByteArray.empty t154 t157) ++ (⟨#[44, 32]⟩ : ByteArray)).size + t159.size ≤ 9223372036854775807 then (if (((rdOf ByteArray.empty t154 t157) ++ (⟨#[44, 32]⟩ : ByteArray)) ++ t159).size + 1 ≤ 9223372036854775807 then ((impl_months.f).bind fun t160 => (if 0 ≤ (wrap64 (t148 - 1)) then (if (wrap64 (t148 - 1)) < (t160.length : Int) then (if ((((rdOf ByteArray.empty t154 t157) ++ (⟨#[44, 32]⟩ : ByteArray)) ++ t159) ++ (⟨#[45]⟩ : ByteArray)).size + (rdOf ByteArray.empty t160 (wrap64 (t148 - 1))).size ≤ 9223372036854775807 then (if (((((rdOf ByteArray.empty t154 t157) ++ (⟨#[44, 32]⟩ : ByteArray)) ++ t159) ++ (⟨#[45]⟩ : ByteArray)) ++ (rdOf ByteArray.empty t160 (wrap64 (t148 - 1)))).size + 1 ≤ 9223372036854775807 then ((impl_digits.f t147 2).bind fun t164 => (if ((((((rdOf ByteArray.empty t154 t157) ++ (⟨#[44, 32]⟩ : ByteArray)) ++ t159) ++ (⟨#[45]⟩ : ByteArray)) ++ (rdOf ByteArray.empty t160 (wrap64 (t148 - 1)))) ++ (⟨#[45]⟩ : ByteArray)).size + t164.size ≤ 9223372036854775807 then (if (((((((rdOf ByteArray.empty t154 t157) ++ (⟨#[44, 32]⟩ : ByteArray)) ++ t159) ++ (⟨#[45]⟩ : ByteArray)) ++ (rdOf ByteArray.empty t160 (wrap64 (t148 - 1)))) ++ (⟨#[45]⟩ : ByteArray)) ++ t164).size + 1 ≤ 9223372036854775807 then ((impl_clock.f t147 t148 t149 t150 t151 t152).bind fun t165 => (if ((((((((rdOf ByteArray.empty t154 t157) ++ (⟨#[44, 32]⟩ : ByteArray)) ++ t159) ++ (⟨#[45]⟩ : ByteArray)) ++ (rdOf ByteArray.empty t160 (wrap64 (t148 - 1)))) ++ (⟨#[45]⟩ : ByteArray)) ++ t164) ++ (⟨#[32]⟩ : ByteArray)).size + t165.size ≤ 9223372036854775807 then (if (((((((((rdOf ByteArray.empty t154 t157) ++ (⟨#[44, 32]⟩ : ByteArray)) ++ t159) ++ (⟨#[45]⟩ : ByteArray)) ++ (rdOf ByteArray.empty t160 (wrap64 (t148 - 1)))) ++ (⟨#[45]⟩ : ByteArray)) ++ t164) ++ (⟨#[32]⟩ : ByteArray)) ++ t165).size + 4 ≤ 9223372036854775807 then (some ((((((((((rdOf ByteArray.empty t154 t157) ++ (⟨#[44, 32]⟩ : ByteArray)) ++ t159) ++ (⟨#[45]⟩ : ByteArray)) ++ (rdOf ByteArray.empty t160 (wrap64 (t148 - 1)))) ++ (⟨#[45]⟩ : ByteArray)) ++ t164) ++ (⟨#[32]⟩ : ByteArray)) ++ t165) ++ (⟨#[32, 71, 77, 84]⟩ : ByteArray))) else (none)) else (none))) else (none)) else (none))) else (none)) else (none)) else (none)) else (none))) else (none)) else (none))) else (none)) else (none)) else (none)) = some r := H
    have A10 := Aside0.mk A100
    clear A100
    have c11 : 0 ≤ t157 := Classical.byContradiction fun h_ => by rw [if_neg h_] at H; exact absurd H (by simp)
    rw [if_pos c11] at H
    have c11b0 : decide (0 ≤ t157) = true := decide_eq_true c11
    clear c11
    have c12 : t157 < (t154.length : Int) := Classical.byContradiction fun h_ => by rw [if_neg h_] at H; exact absurd H (by simp)
    rw [if_pos c12] at H
    have c12b0 : decide (t157 < (t154.length : Int)) = true := decide_eq_true c12
    clear c12
    have c13 : (rdOf ByteArray.empty t154 t157).size + 2 ≤ 9223372036854775807 := Classical.byContradiction fun h_ => by rw [if_neg h_] at H; exact absurd H (by simp)
    rw [if_pos c13] at H
    have c13b0 := eq_true c13
    have c13b1 : decide ((rdOf ByteArray.empty t154 t157).size + 2 ≤ 9223372036854775807) = true := decide_eq_true c13
    try have c13b2 : (9223372036854775807 < (rdOf ByteArray.empty t154 t157).size + 2) = False := eq_false (Nat.not_lt.2 c13)
    replace H := Option.bind_eq_some_iff.mp H
    obtain ⟨t159, A140, H⟩ := H
    replace H : (if ((rdOf ByteArray.empty t154 t157) ++ (⟨#[44, 32]⟩ : ByteArray)).size + t159.size ≤ 9223372036854775807 then (if (((rdOf ByteArray.empty t154 t157) ++ (⟨#[44, 32]⟩ : ByteArray)) ++ t159).size + 1 ≤ 9223372036854775807 then ((impl_months.f).bind fun t160 => (if 0 ≤ (wrap64 (t148 - 1)) then (if (wrap64 (t148 - 1)) < (t160.length : Int) then (if ((((rdOf ByteArray.empty t154 t157) ++ (⟨#[44, 32]⟩ : ByteArray)) ++ t159) ++ (⟨#[45]⟩ : ByteArray)).size + (rdOf ByteArray.empty t160 (wrap64 (t148 - 1))).size ≤ 9223372036854775807 then (if (((((rdOf ByteArray.empty t154 t157) ++ (⟨#[44, 32]⟩ : ByteArray)) ++ t159) ++ (⟨#[45]⟩ : ByteArray)) ++ (rdOf ByteArray.empty t160 (wrap64 (t148 - 1)))).size + 1 ≤ 9223372036854775807 then ((impl_digits.f t147 2).bind fun t164 => (if ((((((rdOf ByteArray.empty t154 t157) ++ (⟨#[44, 32]⟩ : ByteArray)) ++ t159) ++ (⟨#[45]⟩ : ByteArray)) ++ (rdOf ByteArray.empty t160 (wrap64 (t148 - 1)))) ++ (⟨#[45]⟩ : ByteArray)).size + t164.size ≤ 9223372036854775807 then (if (((((((rdOf ByteArray.empty t154 t157) ++ (⟨#[44, 32]⟩ : ByteArray)) ++ t159) ++ (⟨#[45]⟩ : ByteArray)) ++ (rdOf ByteArray.empty t160 (wrap64 (t148 - 1)))) ++ (⟨#[45]⟩ : ByteArray)) ++ t164).size + 1 ≤ 9223372036854775807 then ((impl_clock.f t147 t148 t149 t150 t151 t152).bind fun t165 => (if ((((((((rdOf ByteArray.empty t154 t157) ++ (⟨#[44, 32]⟩ : ByteArray)) ++ t159) ++ (⟨#[45]⟩ : ByteArray)) ++ (rdOf ByteArray.empty t160 (wrap64 (t148 - 1)))) ++ (⟨#[45]⟩ : ByteArray)) ++ t164) ++ (⟨#[32]⟩ : ByteArray)).size + t165.size ≤ 9223372036854775807 then (if (((((((((rdOf ByteArray.empty t154 t157) ++ (⟨#[44, 32]⟩ : ByteArray)) ++ t159) ++ (⟨#[45]⟩ : ByteArray)) ++ (rdOf ByteArray.empty t160 (wrap64 (t148 - 1)))) ++ (⟨#[45]⟩ : ByteArray)) ++ t164) ++ (⟨#[32]⟩ : ByteArray)) ++ t165).size + 4 ≤ 9223372036854775807 then (some ((((((((((rdOf ByteArray.empty t154 t157) ++ (⟨#[44, 32]⟩ : ByteArray)) ++ t159) ++ (⟨#[45]⟩ : ByteArray)) ++ (rdOf ByteArray.empty t160 (wrap64 (t148 - 1)))) ++ (⟨#[45]⟩ : ByteArray)) ++ t164) ++ (⟨#[32]⟩ : ByteArray)) ++ t165) ++ (⟨#[32, 71, 77, 84]⟩ : ByteArray))) else (none)) else (none))) else (none)) else (none))) else (none)) else (none)) else (none)) else (none))) else (none)) else (none)) = some r := H
    have A14 := Aside0.mk A140
    clear A140
    have c15 : ((rdOf ByteArray.empty t154 t157) ++ (⟨#[44, 32]⟩ : ByteArray)).size + t159.size ≤ 9223372036854775807 := Classical.byContradiction fun h_ => by rw [if_neg h_] at H; exact absurd H (by simp)
    rw [if_pos c15] at H
    have c15b0 := eq_true c15
    have c15b1 : decide (((rdOf ByteArray.empty t154 t157) ++ (⟨#[44, 32]⟩ : ByteArray)).size + t159.size ≤ 9223372036854775807) = true := decide_eq_true c15
    try have c15b2 : (9223372036854775807 < ((rdOf ByteArray.empty t154 t157) ++ (⟨#[44, 32]⟩ : ByteArray)).size + t159.size) = False := eq_false (Nat.not_lt.2 c15)
    (try (have c15v2 : (9223372036854775807 < ((rdOf ByteArray.empty t154 t157).size + 2) + t159.size) = False := eq_false (by have h_ := c15; simp only [ByteArray.size_append, show (⟨#[44, 32]⟩ : ByteArray).size = 2 from rfl] at h_; omega)))
    (try (have c15y0 := c15b0; simp only [ByteArray.size_append] at c15y0))
    (try (have c15z0 := c15b0; simp only [ByteArray.size_append, Int.natCast_add] at c15z0))
    (try (have c15y1 := c15b1; simp only [ByteArray.size_append] at c15y1))
    (try (have c15z1 := c15b1; simp only [ByteArray.size_append, Int.natCast_add] at c15z1))
    have c16 : (((rdOf ByteArray.empty t154 t157) ++ (⟨#[44, 32]⟩ : ByteArray)) ++ t159).size + 1 ≤ 9223372036854775807 := Classical.byContradiction fun h_ => by rw [if_neg h_] at H; exact absurd H (by simp)
    rw [if_pos c16] at H
    have c16b0 := eq_true c16
    have c16b1 : decide ((((rdOf ByteArray.empty t154 t157) ++ (⟨#[44, 32]⟩ : ByteArray)) ++ t159).size + 1 ≤ 9223372036854775807) = true := decide_eq_true c16
    try have c16b2 : (9223372036854775807 < (((rdOf ByteArray.empty t154 t157) ++ (⟨#[44, 32]⟩ : ByteArray)) ++ t159).size + 1) = False := eq_false (Nat.not_lt.2 c16)
    (try (have c16v2 : (9223372036854775807 < (((rdOf ByteArray.empty t154 t157).size + 2) + t159.size) + 1) = False := eq_false (by have h_ := c16; simp only [ByteArray.size_append, show (⟨#[44, 32]⟩ : ByteArray).size = 2 from rfl] at h_; omega)))
    (try (have c16y0 := c16b0; simp only [ByteArray.size_append] at c16y0))
    (try (have c16z0 := c16b0; simp only [ByteArray.size_append, Int.natCast_add] at c16z0))
    (try (have c16y1 := c16b1; simp only [ByteArray.size_append] at c16y1))
    (try (have c16z1 := c16b1; simp only [ByteArray.size_append, Int.natCast_add] at c16z1))
    replace H := Option.bind_eq_some_iff.mp H
    obtain ⟨t160, A170, H⟩ := H
    replace H : (if 0 ≤ (wrap64 (t148 - 1)) then (if (wrap64 (t148 - 1)) < (t160.length : Int) then (if ((((rdOf ByteArray.empty t154 t157) ++ (⟨#[44, 32]⟩ : ByteArray)) ++ t159) ++ (⟨#[45]⟩ : ByteArray)).size + (rdOf ByteArray.empty t160 (wrap64 (t148 - 1))).size ≤ 9223372036854775807 then (if (((((rdOf ByteArray.empty t154 t157) ++ (⟨#[44, 32]⟩ : ByteArray)) ++ t159) ++ (⟨#[45]⟩ : ByteArray)) ++ (rdOf ByteArray.empty t160 (wrap64 (t148 - 1)))).size + 1 ≤ 9223372036854775807 then ((impl_digits.f t147 2).bind fun t164 => (if ((((((rdOf ByteArray.empty t154 t157) ++ (⟨#[44, 32]⟩ : ByteArray)) ++ t159) ++ (⟨#[45]⟩ : ByteArray)) ++ (rdOf ByteArray.empty t160 (wrap64 (t148 - 1)))) ++ (⟨#[45]⟩ : ByteArray)).size + t164.size ≤ 9223372036854775807 then (if (((((((rdOf ByteArray.empty t154 t157) ++ (⟨#[44, 32]⟩ : ByteArray)) ++ t159) ++ (⟨#[45]⟩ : ByteArray)) ++ (rdOf ByteArray.empty t160 (wrap64 (t148 - 1)))) ++ (⟨#[45]⟩ : ByteArray)) ++ t164).size + 1 ≤ 9223372036854775807 then ((impl_clock.f t147 t148 t149 t150 t151 t152).bind fun t165 => (if ((((((((rdOf ByteArray.empty t154 t157) ++ (⟨#[44, 32]⟩ : ByteArray)) ++ t159) ++ (⟨#[45]⟩ : ByteArray)) ++ (rdOf ByteArray.empty t160 (wrap64 (t148 - 1)))) ++ (⟨#[45]⟩ : ByteArray)) ++ t164) ++ (⟨#[32]⟩ : ByteArray)).size + t165.size ≤ 9223372036854775807 then (if (((((((((rdOf ByteArray.empty t154 t157) ++ (⟨#[44, 32]⟩ : ByteArray)) ++ t159) ++ (⟨#[45]⟩ : ByteArray)) ++ (rdOf ByteArray.empty t160 (wrap64 (t148 - 1)))) ++ (⟨#[45]⟩ : ByteArray)) ++ t164) ++ (⟨#[32]⟩ : ByteArray)) ++ t165).size + 4 ≤ 9223372036854775807 then (some ((((((((((rdOf ByteArray.empty t154 t157) ++ (⟨#[44, 32]⟩ : ByteArray)) ++ t159) ++ (⟨#[45]⟩ : ByteArray)) ++ (rdOf ByteArray.empty t160 (wrap64 (t148 - 1)))) ++ (⟨#[45]⟩ : ByteArray)) ++ t164) ++ (⟨#[32]⟩ : ByteArray)) ++ t165) ++ (⟨#[32, 71, 77, 84]⟩ : ByteArray))) else (none)) else (none))) else (none)) else (none))) else (none)) else (none)) else (none)) else (none)) = some r := H
    have A17 := Aside0.mk A170
    clear A170
    obtain ⟨ji18, hji18⟩ : ∃ j_ : Int, (wrap64 (t148 - 1)) = j_ := ⟨_, rfl⟩
    replace H : (if 0 ≤ (ji18) then (if (ji18) < (t160.length : Int) then (if ((((rdOf ByteArray.empty t154 t157) ++ (⟨#[44, 32]⟩ : ByteArray)) ++ t159) ++ (⟨#[45]⟩ : ByteArray)).size + (rdOf ByteArray.empty t160 (ji18)).size ≤ 9223372036854775807 then (if (((((rdOf ByteArray.empty t154 t157) ++ (⟨#[44, 32]⟩ : ByteArray)) ++ t159) ++ (⟨#[45]⟩ : ByteArray)) ++ (rdOf ByteArray.empty t160 (ji18))).size + 1 ≤ 9223372036854775807 then ((impl_digits.f t147 2).bind fun t164 => (if ((((((rdOf ByteArray.empty t154 t157) ++ (⟨#[44, 32]⟩ : ByteArray)) ++ t159) ++ (⟨#[45]⟩ : ByteArray)) ++ (rdOf ByteArray.empty t160 (ji18))) ++ (⟨#[45]⟩ : ByteArray)).size + t164.size ≤ 9223372036854775807 then (if (((((((rdOf ByteArray.empty t154 t157) ++ (⟨#[44, 32]⟩ : ByteArray)) ++ t159) ++ (⟨#[45]⟩ : ByteArray)) ++ (rdOf ByteArray.empty t160 (ji18))) ++ (⟨#[45]⟩ : ByteArray)) ++ t164).size + 1 ≤ 9223372036854775807 then ((impl_clock.f t147 t148 t149 t150 t151 t152).bind fun t165 => (if ((((((((rdOf ByteArray.empty t154 t157) ++ (⟨#[44, 32]⟩ : ByteArray)) ++ t159) ++ (⟨#[45]⟩ : ByteArray)) ++ (rdOf ByteArray.empty t160 (ji18))) ++ (⟨#[45]⟩ : ByteArray)) ++ t164) ++ (⟨#[32]⟩ : ByteArray)).size + t165.size ≤ 9223372036854775807 then (if (((((((((rdOf ByteArray.empty t154 t157) ++ (⟨#[44, 32]⟩ : ByteArray)) ++ t159) ++ (⟨#[45]⟩ : ByteArray)) ++ (rdOf ByteArray.empty t160 (ji18))) ++ (⟨#[45]⟩ : ByteArray)) ++ t164) ++ (⟨#[32]⟩ : ByteArray)) ++ t165).size + 4 ≤ 9223372036854775807 then (some ((((((((((rdOf ByteArray.empty t154 t157) ++ (⟨#[44, 32]⟩ : ByteArray)) ++ t159) ++ (⟨#[45]⟩ : ByteArray)) ++ (rdOf ByteArray.empty t160 (ji18))) ++ (⟨#[45]⟩ : ByteArray)) ++ t164) ++ (⟨#[32]⟩ : ByteArray)) ++ t165) ++ (⟨#[32, 71, 77, 84]⟩ : ByteArray))) else (none)) else (none))) else (none)) else (none))) else (none)) else (none)) else (none)) else (none)) = some r := by first | (rw [hji18] at H; exact H) | (simp only [hji18] at H ⊢; exact H)
    (try rw [hji18] at A8)
    (try rw [hji18] at A9)
    (try rw [hji18] at A10)
    (try rw [hji18] at A14)
    (try rw [hji18] at A17)
    have hji18w : (IntKind.i64.wrap (t148 - 1)) = ji18 := (i64_w _).trans hji18
    have c19 : 0 ≤ (ji18) := Classical.byContradiction fun h_ => by rw [if_neg h_] at H; exact absurd H (by simp)
    rw [if_pos c19] at H
    have c19b0 : decide (0 ≤ (ji18)) = true := decide_eq_true c19
    clear c19
    have c20 : (ji18) < (t160.length : Int) := Classical.byContradiction fun h_ => by rw [if_neg h_] at H; exact absurd H (by simp)
    rw [if_pos c20] at H
    have c20b0 : decide ((ji18) < (t160.length : Int)) = true := decide_eq_true c20
    clear c20
    have c21 : ((((rdOf ByteArray.empty t154 t157) ++ (⟨#[44, 32]⟩ : ByteArray)) ++ t159) ++ (⟨#[45]⟩ : ByteArray)).size + (rdOf ByteArray.empty t160 (ji18)).size ≤ 9223372036854775807 := Classical.byContradiction fun h_ => by rw [if_neg h_] at H; exact absurd H (by simp)
    rw [if_pos c21] at H
    have c21b0 := eq_true c21
    have c21b1 : decide (((((rdOf ByteArray.empty t154 t157) ++ (⟨#[44, 32]⟩ : ByteArray)) ++ t159) ++ (⟨#[45]⟩ : ByteArray)).size + (rdOf ByteArray.empty t160 (ji18)).size ≤ 9223372036854775807) = true := decide_eq_true c21
    try have c21b2 : (9223372036854775807 < ((((rdOf ByteArray.empty t154 t157) ++ (⟨#[44, 32]⟩ : ByteArray)) ++ t159) ++ (⟨#[45]⟩ : ByteArray)).size + (rdOf ByteArray.empty t160 (ji18)).size) = False := eq_false (Nat.not_lt.2 c21)
    (try (have c21v2 : (9223372036854775807 < ((((rdOf ByteArray.empty t154 t157).size + 2) + t159.size) + 1) + (rdOf ByteArray.empty t160 (ji18)).size) = False := eq_false (by have h_ := c21; simp only [ByteArray.size_append, show (⟨#[44, 32]⟩ : ByteArray).size = 2 from rfl, show (⟨#[45]⟩ : ByteArray).size = 1 from rfl] at h_; omega)))
    (try (have c21y0 := c21b0; simp only [ByteArray.size_append] at c21y0))
    (try (have c21z0 := c21b0; simp only [ByteArray.size_append, Int.natCast_add] at c21z0))
    (try (have c21y1 := c21b1; simp only [ByteArray.size_append] at c21y1))
    (try (have c21z1 := c21b1; simp only [ByteArray.size_append, Int.natCast_add] at c21z1))
    have c22 : (((((rdOf ByteArray.empty t154 t157) ++ (⟨#[44, 32]⟩ : ByteArray)) ++ t159) ++ (⟨#[45]⟩ : ByteArray)) ++ (rdOf ByteArray.empty t160 (ji18))).size + 1 ≤ 9223372036854775807 := Classical.byContradiction fun h_ => by rw [if_neg h_] at H; exact absurd H (by simp)
    rw [if_pos c22] at H
    have c22b0 := eq_true c22
    have c22b1 : decide ((((((rdOf ByteArray.empty t154 t157) ++ (⟨#[44, 32]⟩ : ByteArray)) ++ t159) ++ (⟨#[45]⟩ : ByteArray)) ++ (rdOf ByteArray.empty t160 (ji18))).size + 1 ≤ 9223372036854775807) = true := decide_eq_true c22
    try have c22b2 : (9223372036854775807 < (((((rdOf ByteArray.empty t154 t157) ++ (⟨#[44, 32]⟩ : ByteArray)) ++ t159) ++ (⟨#[45]⟩ : ByteArray)) ++ (rdOf ByteArray.empty t160 (ji18))).size + 1) = False := eq_false (Nat.not_lt.2 c22)
    (try (have c22v2 : (9223372036854775807 < (((((rdOf ByteArray.empty t154 t157).size + 2) + t159.size) + 1) + (rdOf ByteArray.empty t160 (ji18)).size) + 1) = False := eq_false (by have h_ := c22; simp only [ByteArray.size_append, show (⟨#[44, 32]⟩ : ByteArray).size = 2 from rfl, show (⟨#[45]⟩ : ByteArray).size = 1 from rfl] at h_; omega)))
    (try (have c22y0 := c22b0; simp only [ByteArray.size_append] at c22y0))
    (try (have c22z0 := c22b0; simp only [ByteArray.size_append, Int.natCast_add] at c22z0))
    (try (have c22y1 := c22b1; simp only [ByteArray.size_append] at c22y1))
    (try (have c22z1 := c22b1; simp only [ByteArray.size_append, Int.natCast_add] at c22z1))
    replace H := Option.bind_eq_some_iff.mp H
    obtain ⟨t164, A230, H⟩ := H
    replace H : (if ((((((rdOf ByteArray.empty t154 t157) ++ (⟨#[44, 32]⟩ : ByteArray)) ++ t159) ++ (⟨#[45]⟩ : ByteArray)) ++ (rdOf ByteArray.empty t160 (ji18))) ++ (⟨#[45]⟩ : ByteArray)).size + t164.size ≤ 9223372036854775807 then (if (((((((rdOf ByteArray.empty t154 t157) ++ (⟨#[44, 32]⟩ : ByteArray)) ++ t159) ++ (⟨#[45]⟩ : ByteArray)) ++ (rdOf ByteArray.empty t160 (ji18))) ++ (⟨#[45]⟩ : ByteArray)) ++ t164).size + 1 ≤ 9223372036854775807 then ((impl_clock.f t147 t148 t149 t150 t151 t152).bind fun t165 => (if ((((((((rdOf ByteArray.empty t154 t157) ++ (⟨#[44, 32]⟩ : ByteArray)) ++ t159) ++ (⟨#[45]⟩ : ByteArray)) ++ (rdOf ByteArray.empty t160 (ji18))) ++ (⟨#[45]⟩ : ByteArray)) ++ t164) ++ (⟨#[32]⟩ : ByteArray)).size + t165.size ≤ 9223372036854775807 then (if (((((((((rdOf ByteArray.empty t154 t157) ++ (⟨#[44, 32]⟩ : ByteArray)) ++ t159) ++ (⟨#[45]⟩ : ByteArray)) ++ (rdOf ByteArray.empty t160 (ji18))) ++ (⟨#[45]⟩ : ByteArray)) ++ t164) ++ (⟨#[32]⟩ : ByteArray)) ++ t165).size + 4 ≤ 9223372036854775807 then (some ((((((((((rdOf ByteArray.empty t154 t157) ++ (⟨#[44, 32]⟩ : ByteArray)) ++ t159) ++ (⟨#[45]⟩ : ByteArray)) ++ (rdOf ByteArray.empty t160 (ji18))) ++ (⟨#[45]⟩ : ByteArray)) ++ t164) ++ (⟨#[32]⟩ : ByteArray)) ++ t165) ++ (⟨#[32, 71, 77, 84]⟩ : ByteArray))) else (none)) else (none))) else (none)) else (none)) = some r := H
    have A23 := Aside0.mk A230
    clear A230
    have c24 : ((((((rdOf ByteArray.empty t154 t157) ++ (⟨#[44, 32]⟩ : ByteArray)) ++ t159) ++ (⟨#[45]⟩ : ByteArray)) ++ (rdOf ByteArray.empty t160 (ji18))) ++ (⟨#[45]⟩ : ByteArray)).size + t164.size ≤ 9223372036854775807 := Classical.byContradiction fun h_ => by rw [if_neg h_] at H; exact absurd H (by simp)
    rw [if_pos c24] at H
    have c24b0 := eq_true c24
    have c24b1 : decide (((((((rdOf ByteArray.empty t154 t157) ++ (⟨#[44, 32]⟩ : ByteArray)) ++ t159) ++ (⟨#[45]⟩ : ByteArray)) ++ (rdOf ByteArray.empty t160 (ji18))) ++ (⟨#[45]⟩ : ByteArray)).size + t164.size ≤ 9223372036854775807) = true := decide_eq_true c24
    try have c24b2 : (9223372036854775807 < ((((((rdOf ByteArray.empty t154 t157) ++ (⟨#[44, 32]⟩ : ByteArray)) ++ t159) ++ (⟨#[45]⟩ : ByteArray)) ++ (rdOf ByteArray.empty t160 (ji18))) ++ (⟨#[45]⟩ : ByteArray)).size + t164.size) = False := eq_false (Nat.not_lt.2 c24)
    (try (have c24v2 : (9223372036854775807 < ((((((rdOf ByteArray.empty t154 t157).size + 2) + t159.size) + 1) + (rdOf ByteArray.empty t160 (ji18)).size) + 1) + t164.size) = False := eq_false (by have h_ := c24; simp only [ByteArray.size_append, show (⟨#[44, 32]⟩ : ByteArray).size = 2 from rfl, show (⟨#[45]⟩ : ByteArray).size = 1 from rfl] at h_; omega)))
    (try (have c24y0 := c24b0; simp only [ByteArray.size_append] at c24y0))
    (try (have c24z0 := c24b0; simp only [ByteArray.size_append, Int.natCast_add] at c24z0))
    (try (have c24y1 := c24b1; simp only [ByteArray.size_append] at c24y1))
    (try (have c24z1 := c24b1; simp only [ByteArray.size_append, Int.natCast_add] at c24z1))
    have c25 : (((((((rdOf ByteArray.empty t154 t157) ++ (⟨#[44, 32]⟩ : ByteArray)) ++ t159) ++ (⟨#[45]⟩ : ByteArray)) ++ (rdOf ByteArray.empty t160 (ji18))) ++ (⟨#[45]⟩ : ByteArray)) ++ t164).size + 1 ≤ 9223372036854775807 := Classical.byContradiction fun h_ => by rw [if_neg h_] at H; exact absurd H (by simp)
    rw [if_pos c25] at H
    have c25b0 := eq_true c25
    have c25b1 : decide ((((((((rdOf ByteArray.empty t154 t157) ++ (⟨#[44, 32]⟩ : ByteArray)) ++ t159) ++ (⟨#[45]⟩ : ByteArray)) ++ (rdOf ByteArray.empty t160 (ji18))) ++ (⟨#[45]⟩ : ByteArray)) ++ t164).size + 1 ≤ 9223372036854775807) = true := decide_eq_true c25
    try have c25b2 : (9223372036854775807 < (((((((rdOf ByteArray.empty t154 t157) ++ (⟨#[44, 32]⟩ : ByteArray)) ++ t159) ++ (⟨#[45]⟩ : ByteArray)) ++ (rdOf ByteArray.empty t160 (ji18))) ++ (⟨#[45]⟩ : ByteArray)) ++ t164).size + 1) = False := eq_false (Nat.not_lt.2 c25)
    (try (have c25v2 : (9223372036854775807 < (((((((rdOf ByteArray.empty t154 t157).size + 2) + t159.size) + 1) + (rdOf ByteArray.empty t160 (ji18)).size) + 1) + t164.size) + 1) = False := eq_false (by have h_ := c25; simp only [ByteArray.size_append, show (⟨#[44, 32]⟩ : ByteArray).size = 2 from rfl, show (⟨#[45]⟩ : ByteArray).size = 1 from rfl] at h_; omega)))
    (try (have c25y0 := c25b0; simp only [ByteArray.size_append] at c25y0))
    (try (have c25z0 := c25b0; simp only [ByteArray.size_append, Int.natCast_add] at c25z0))
    (try (have c25y1 := c25b1; simp only [ByteArray.size_append] at c25y1))
    (try (have c25z1 := c25b1; simp only [ByteArray.size_append, Int.natCast_add] at c25z1))
    replace H := Option.bind_eq_some_iff.mp H
    obtain ⟨t165, A260, H⟩ := H
    replace H : (if ((((((((rdOf ByteArray.empty t154 t157) ++ (⟨#[44, 32]⟩ : ByteArray)) ++ t159) ++ (⟨#[45]⟩ : ByteArray)) ++ (rdOf ByteArray.empty t160 (ji18))) ++ (⟨#[45]⟩ : ByteArray)) ++ t164) ++ (⟨#[32]⟩ : ByteArray)).size + t165.size ≤ 9223372036854775807 then (if (((((((((rdOf ByteArray.empty t154 t157) ++ (⟨#[44, 32]⟩ : ByteArray)) ++ t159) ++ (⟨#[45]⟩ : ByteArray)) ++ (rdOf ByteArray.empty t160 (ji18))) ++ (⟨#[45]⟩ : ByteArray)) ++ t164) ++ (⟨#[32]⟩ : ByteArray)) ++ t165).size + 4 ≤ 9223372036854775807 then (some ((((((((((rdOf ByteArray.empty t154 t157) ++ (⟨#[44, 32]⟩ : ByteArray)) ++ t159) ++ (⟨#[45]⟩ : ByteArray)) ++ (rdOf ByteArray.empty t160 (ji18))) ++ (⟨#[45]⟩ : ByteArray)) ++ t164) ++ (⟨#[32]⟩ : ByteArray)) ++ t165) ++ (⟨#[32, 71, 77, 84]⟩ : ByteArray))) else (none)) else (none)) = some r := H
    have A26 := Aside0.mk A260
    clear A260
    have c27 : ((((((((rdOf ByteArray.empty t154 t157) ++ (⟨#[44, 32]⟩ : ByteArray)) ++ t159) ++ (⟨#[45]⟩ : ByteArray)) ++ (rdOf ByteArray.empty t160 (ji18))) ++ (⟨#[45]⟩ : ByteArray)) ++ t164) ++ (⟨#[32]⟩ : ByteArray)).size + t165.size ≤ 9223372036854775807 := Classical.byContradiction fun h_ => by rw [if_neg h_] at H; exact absurd H (by simp)
    rw [if_pos c27] at H
    have c27b0 := eq_true c27
    have c27b1 : decide (((((((((rdOf ByteArray.empty t154 t157) ++ (⟨#[44, 32]⟩ : ByteArray)) ++ t159) ++ (⟨#[45]⟩ : ByteArray)) ++ (rdOf ByteArray.empty t160 (ji18))) ++ (⟨#[45]⟩ : ByteArray)) ++ t164) ++ (⟨#[32]⟩ : ByteArray)).size + t165.size ≤ 9223372036854775807) = true := decide_eq_true c27
    try have c27b2 : (9223372036854775807 < ((((((((rdOf ByteArray.empty t154 t157) ++ (⟨#[44, 32]⟩ : ByteArray)) ++ t159) ++ (⟨#[45]⟩ : ByteArray)) ++ (rdOf ByteArray.empty t160 (ji18))) ++ (⟨#[45]⟩ : ByteArray)) ++ t164) ++ (⟨#[32]⟩ : ByteArray)).size + t165.size) = False := eq_false (Nat.not_lt.2 c27)
    (try (have c27v2 : (9223372036854775807 < ((((((((rdOf ByteArray.empty t154 t157).size + 2) + t159.size) + 1) + (rdOf ByteArray.empty t160 (ji18)).size) + 1) + t164.size) + 1) + t165.size) = False := eq_false (by have h_ := c27; simp only [ByteArray.size_append, show (⟨#[32]⟩ : ByteArray).size = 1 from rfl, show (⟨#[44, 32]⟩ : ByteArray).size = 2 from rfl, show (⟨#[45]⟩ : ByteArray).size = 1 from rfl] at h_; omega)))
    (try (have c27y0 := c27b0; simp only [ByteArray.size_append] at c27y0))
    (try (have c27z0 := c27b0; simp only [ByteArray.size_append, Int.natCast_add] at c27z0))
    (try (have c27y1 := c27b1; simp only [ByteArray.size_append] at c27y1))
    (try (have c27z1 := c27b1; simp only [ByteArray.size_append, Int.natCast_add] at c27z1))
    have c28 : (((((((((rdOf ByteArray.empty t154 t157) ++ (⟨#[44, 32]⟩ : ByteArray)) ++ t159) ++ (⟨#[45]⟩ : ByteArray)) ++ (rdOf ByteArray.empty t160 (ji18))) ++ (⟨#[45]⟩ : ByteArray)) ++ t164) ++ (⟨#[32]⟩ : ByteArray)) ++ t165).size + 4 ≤ 9223372036854775807 := Classical.byContradiction fun h_ => by rw [if_neg h_] at H; exact absurd H (by simp)
    rw [if_pos c28] at H
    have c28b0 := eq_true c28
    have c28b1 : decide ((((((((((rdOf ByteArray.empty t154 t157) ++ (⟨#[44, 32]⟩ : ByteArray)) ++ t159) ++ (⟨#[45]⟩ : ByteArray)) ++ (rdOf ByteArray.empty t160 (ji18))) ++ (⟨#[45]⟩ : ByteArray)) ++ t164) ++ (⟨#[32]⟩ : ByteArray)) ++ t165).size + 4 ≤ 9223372036854775807) = true := decide_eq_true c28
    try have c28b2 : (9223372036854775807 < (((((((((rdOf ByteArray.empty t154 t157) ++ (⟨#[44, 32]⟩ : ByteArray)) ++ t159) ++ (⟨#[45]⟩ : ByteArray)) ++ (rdOf ByteArray.empty t160 (ji18))) ++ (⟨#[45]⟩ : ByteArray)) ++ t164) ++ (⟨#[32]⟩ : ByteArray)) ++ t165).size + 4) = False := eq_false (Nat.not_lt.2 c28)
    (try (have c28v2 : (9223372036854775807 < (((((((((rdOf ByteArray.empty t154 t157).size + 2) + t159.size) + 1) + (rdOf ByteArray.empty t160 (ji18)).size) + 1) + t164.size) + 1) + t165.size) + 4) = False := eq_false (by have h_ := c28; simp only [ByteArray.size_append, show (⟨#[32]⟩ : ByteArray).size = 1 from rfl, show (⟨#[44, 32]⟩ : ByteArray).size = 2 from rfl, show (⟨#[45]⟩ : ByteArray).size = 1 from rfl] at h_; omega)))
    (try (have c28y0 := c28b0; simp only [ByteArray.size_append] at c28y0))
    (try (have c28z0 := c28b0; simp only [ByteArray.size_append, Int.natCast_add] at c28z0))
    (try (have c28y1 := c28b1; simp only [ByteArray.size_append] at c28y1))
    (try (have c28z1 := c28b1; simp only [ByteArray.size_append, Int.natCast_add] at c28z1))
    obtain rfl := Option.some.inj H
    try go_wp2_with (first | ((with_reducible refine gate_callee (f := 46) rfl ?_); refine goesL_ (some 14) rfl rfl Tryd.func46 (by kernel_rfl) rfl #[.int .i64 a0] rfl (by (try simp only [List.map_toArray, List.map_cons, List.map_nil]); first | done | rfl | (simp only [List.length_drop, List.length_take]; rfl)) ?_; (with_reducible refine (impl_civilOf.calls a0 t147 t148 t149 t150 t151 t152 _ A8.out).mono ?_); rintro e w29 ⟨rfl, hb⟩; refine ⟨_, rfl, ?_⟩; have n0_ := Aside0.mk (below_step (by repeat (first | (with_reducible first | exact HB.out | apply below_alloc | apply pw_below_drewN | apply below_drew1) | exact HB.out)) hb); clear HB; have HB := n0_; clear n0_; (try clear hb); (try clear hb2); (try clear hk); (try clear hi)) | ((with_reducible refine gate_dst (N := 3) rfl ?_); refine box_event ?hg (N := 3) ?hd (cs := #[.int .i64 0, .int .i64 0, .int .i64 0, .int .i64 0, .int .i64 0, .int .i64 0]) (t := 30) ?hr ?_; (case hd => rfl); (case hg => rfl); (case hr => first | (go_simp; done) | (go_simp; rfl)); intro gb153 hg w30 hbox hb; have n0_ := Aside0.mk (below_step (by repeat (first | (with_reducible first | exact HB.out | apply below_alloc | apply pw_below_drewN | apply below_drew1) | exact HB.out)) hb); have n1_ := Aside0.mk (hbox); have n2_ := Aside0.mk ((by rw [hg]; exact (below_size (by repeat (first | (with_reducible first | exact HB.out | apply below_alloc | apply pw_below_drewN | apply below_drew1) | exact HB.out))) : w.heap.size ≤ gb153)); have n3_ := Aside0.mk ((by rw [hg]; exact (below_size (by repeat (first | (with_reducible first | exact HB.out | apply below_alloc | apply pw_below_drewN | apply below_drew1) | exact HB.out))) : w.heap.size ≤ gb153)); clear HB; have HB := n0_; have BK153 := n1_; have GW153 := n2_; have GE153 := n3_; clear n0_ n1_ n2_ n3_; clear hb hbox hg; have hcz31_0 : w30.cell? ⟨gb153, 0, none⟩ = some (.int .i64 0) := (blk_cell BK153.out 0).trans rfl; have hcz31_1 : w30.cell? ⟨gb153, 1, none⟩ = some (.int .i64 0) := (blk_cell BK153.out 1).trans rfl; have hcz31_2 : w30.cell? ⟨gb153, 2, none⟩ = some (.int .i64 0) := (blk_cell BK153.out 2).trans rfl; have hcz31_3 : w30.cell? ⟨gb153, 3, none⟩ = some (.int .i64 0) := (blk_cell BK153.out 3).trans rfl; have hcz31_4 : w30.cell? ⟨gb153, 4, none⟩ = some (.int .i64 0) := (blk_cell BK153.out 4).trans rfl; have hcz31_5 : w30.cell? ⟨gb153, 5, none⟩ = some (.int .i64 0) := (blk_cell BK153.out 5).trans rfl; have hfz31_0 := blk_frozen BK153.out 0; have hfz31_1 := blk_frozen BK153.out 1; have hfz31_2 := blk_frozen BK153.out 2; have hfz31_3 := blk_frozen BK153.out 3; have hfz31_4 := blk_frozen BK153.out 4; have hfz31_5 := blk_frozen BK153.out 5))
    have n0_ : Aside0 (((((((w30.setCell ⟨gb153, 0, none⟩ (.int .i64 t147)).setCell ⟨gb153, 1, none⟩ (.int .i64 t148)).setCell ⟨gb153, 2, none⟩ (.int .i64 t149)).setCell ⟨gb153, 3, none⟩ (.int .i64 t150)).setCell ⟨gb153, 4, none⟩ (.int .i64 t151)).setCell ⟨gb153, 5, none⟩ (.int .i64 t152)).heap[gb153]? = some (.cells #[.int .i64 t147, .int .i64 t148, .int .i64 t149, .int .i64 t150, .int .i64 t151, .int .i64 t152] 30 (0, 0))) := ⟨by (with_reducible repeat (first | refine blk_drewN ?_ _ | refine blk_drew ?_ | refine blk_alloc ?_ _)); refine blk_put (cs := #[.int .i64 t147, .int .i64 t148, .int .i64 t149, .int .i64 t150, .int .i64 t151, .int .i64 0]) ?_ 5 _ rfl; (with_reducible repeat (first | refine blk_drewN ?_ _ | refine blk_drew ?_ | refine blk_alloc ?_ _)); refine blk_put (cs := #[.int .i64 t147, .int .i64 t148, .int .i64 t149, .int .i64 t150, .int .i64 0, .int .i64 0]) ?_ 4 _ rfl; (with_reducible repeat (first | refine blk_drewN ?_ _ | refine blk_drew ?_ | refine blk_alloc ?_ _)); refine blk_put (cs := #[.int .i64 t147, .int .i64 t148, .int .i64 t149, .int .i64 0, .int .i64 0, .int .i64 0]) ?_ 3 _ rfl; (with_reducible repeat (first | refine blk_drewN ?_ _ | refine blk_drew ?_ | refine blk_alloc ?_ _)); refine blk_put (cs := #[.int .i64 t147, .int .i64 t148, .int .i64 0, .int .i64 0, .int .i64 0, .int .i64 0]) ?_ 2 _ rfl; (with_reducible repeat (first | refine blk_drewN ?_ _ | refine blk_drew ?_ | refine blk_alloc ?_ _)); refine blk_put (cs := #[.int .i64 t147, .int .i64 0, .int .i64 0, .int .i64 0, .int .i64 0, .int .i64 0]) ?_ 1 _ rfl; (with_reducible repeat (first | refine blk_drewN ?_ _ | refine blk_drew ?_ | refine blk_alloc ?_ _)); refine blk_put (cs := #[.int .i64 0, .int .i64 0, .int .i64 0, .int .i64 0, .int .i64 0, .int .i64 0]) ?_ 0 _ rfl; (with_reducible repeat (first | refine blk_drewN ?_ _ | refine blk_drew ?_ | refine blk_alloc ?_ _)); exact BK153.out⟩
    have n1_ : Aside0 (Below w.heap.size w ((((((w30.setCell ⟨gb153, 0, none⟩ (.int .i64 t147)).setCell ⟨gb153, 1, none⟩ (.int .i64 t148)).setCell ⟨gb153, 2, none⟩ (.int .i64 t149)).setCell ⟨gb153, 3, none⟩ (.int .i64 t150)).setCell ⟨gb153, 4, none⟩ (.int .i64 t151)).setCell ⟨gb153, 5, none⟩ (.int .i64 t152))) := ⟨by repeat (first | (with_reducible first | exact HB.out | apply below_alloc | apply pw_below_drewN | apply below_drew1 | refine below_set ?_ GE153.out) | exact HB.out)⟩
    (try clear BK153)
    (try clear HB)
    generalize ((((((w30.setCell ⟨gb153, 0, none⟩ (.int .i64 t147)).setCell ⟨gb153, 1, none⟩ (.int .i64 t148)).setCell ⟨gb153, 2, none⟩ (.int .i64 t149)).setCell ⟨gb153, 3, none⟩ (.int .i64 t150)).setCell ⟨gb153, 4, none⟩ (.int .i64 t151)).setCell ⟨gb153, 5, none⟩ (.int .i64 t152)) = w32 at n0_ n1_ ⊢
    have BK153 := n0_
    have HB := n1_
    clear n0_ n1_
    have n0_ := Aside0.mk (blk_drew BK153.out)
    have n1_ := Aside0.mk (below_drew1 HB.out)
    clear BK153
    clear HB
    have BK153 := n0_
    have HB := n1_
    clear n0_ n1_
    refine start_ (n := 29) (S := fun w' => w'.cell? ⟨gb153, 0, none⟩ = some (.int .i64 t147) ∧ w'.cell? ⟨gb153, 1, none⟩ = some (.int .i64 t148) ∧ w'.cell? ⟨gb153, 2, none⟩ = some (.int .i64 t149) ∧ w'.cell? ⟨gb153, 3, none⟩ = some (.int .i64 t150) ∧ w'.cell? ⟨gb153, 4, none⟩ = some (.int .i64 t151) ∧ w'.cell? ⟨gb153, 5, none⟩ = some (.int .i64 t152) ∧ True ∧ True) (ds := []) #[false, false, false, false, false, false, false, false, false, false, false, false, false, false, false, false, false, false, false, false, false, false, false, false, false, false, false, false, false] (by kernel_rfl) rfl rfl ⟨(blk_cell BK153.out 0).trans rfl, (blk_cell BK153.out 1).trans rfl, (blk_cell BK153.out 2).trans rfl, (blk_cell BK153.out 3).trans rfl, (blk_cell BK153.out 4).trans rfl, (blk_cell BK153.out 5).trans rfl, trivial, trivial⟩ (fun hHeld => ?_); refine with_tabW impl_LongDate.tab4 impl_LongDate.bits4 (fun HT_ HW_ => ?_)
    generalize w32.drew = w33 at BK153 HB hHeld ⊢
    refine pure_ (i := 1) (N := some 16) (v := ?_) (a' := ?_) #[false, true, false, false, false, false, false, false, false, false, false, false, false, false, false, false, false, false, false, false, false, false, false, false, false, false, false, false, false] rfl rfl (any_of HT_.out (by kernel_rfl)) (fun _ _ _ h => h) (Or.inl ⟨by rfl, ?_⟩) ?_ ?_
    rotate_left
    ·
     intro w'
     go_simp
     with_reducible rfl
    rotate_left
    ·
     simp only [Act.put, List.setIfInBounds_toArray, List.set_cons_zero, List.set_cons_succ, i64_w, i32_w]
     rfl
    refine pure_ (i := 6) (N := some 21) (v := ?_) (a' := ?_) #[false, true, false, false, false, false, true, false, false, false, false, false, false, false, false, false, false, false, false, false, false, false, false, false, false, false, false, false, false] rfl rfl (any_of HT_.out (by kernel_rfl)) (fun _ _ _ h => h) (Or.inl ⟨by rfl, ?_⟩) ?_ ?_
    rotate_left
    ·
     intro w'
     go_simp
     with_reducible rfl
    rotate_left
    ·
     simp only [Act.put, List.setIfInBounds_toArray, List.set_cons_zero, List.set_cons_succ, i64_w, i32_w]
     rfl
    refine pure_ (i := 12) (N := some 27) (v := ?_) (a' := ?_) #[false, true, false, false, false, false, true, false, false, false, false, false, true, false, false, false, false, false, false, false, false, false, false, false, false, false, false, false, false] rfl rfl (any_of HT_.out (by kernel_rfl)) (fun _ _ _ h => h) (Or.inl ⟨by rfl, ?_⟩) ?_ ?_
    rotate_left
    ·
     intro w'
     go_simp
     with_reducible rfl
    rotate_left
    ·
     simp only [Act.put, List.setIfInBounds_toArray, List.set_cons_zero, List.set_cons_succ, i64_w, i32_w]
     rfl
    refine pure_ (i := 19) (N := some 34) (v := ?_) (a' := ?_) #[false, true, false, false, false, false, true, false, false, false, false, false, true, false, false, false, false, false, false, true, false, false, false, false, false, false, false, false, false] rfl rfl (any_of HT_.out (by kernel_rfl)) (fun _ _ _ h => h) (Or.inl ⟨by rfl, ?_⟩) ?_ ?_
    rotate_left
    ·
     intro w'
     go_simp
     with_reducible rfl
    rotate_left
    ·
     simp only [Act.put, List.setIfInBounds_toArray, List.set_cons_zero, List.set_cons_succ, i64_w, i32_w]
     rfl
    refine take_ (i := 7) (N := some 22) (v := ?_) (a' := ?_) #[false, true, false, false, false, false, true, true, false, false, false, false, true, false, false, false, false, false, false, true, false, false, false, false, false, false, false, false, false] rfl rfl (take_ofW HT_.out HW_.out (by kernel_rfl)) (fun _ _ _ h => h) (Or.inl ⟨by rfl, ?_⟩) hHeld ?_ ?_
    rotate_left
    ·
     rintro w' ⟨s0, s1, s2, s3, s4, s5, s6, s7⟩
     go_simp
     with_reducible rfl
    rotate_left
    ·
     simp only [Act.put, List.setIfInBounds_toArray, List.set_cons_zero, List.set_cons_succ, i64_w, i32_w]
     rfl
    refine take_ (i := 13) (N := some 28) (v := ?_) (a' := ?_) #[false, true, false, false, false, false, true, true, false, false, false, false, true, true, false, false, false, false, false, true, false, false, false, false, false, false, false, false, false] rfl rfl (take_ofW HT_.out HW_.out (by kernel_rfl)) (fun _ _ _ h => h) (Or.inl ⟨by rfl, ?_⟩) hHeld ?_ ?_
    rotate_left
    ·
     rintro w' ⟨s0, s1, s2, s3, s4, s5, s6, s7⟩
     go_simp
     with_reducible rfl
    rotate_left
    ·
     simp only [Act.put, List.setIfInBounds_toArray, List.set_cons_zero, List.set_cons_succ, i64_w, i32_w]
     rfl
    refine pure_ (i := 14) (N := some 29) (v := ?_) (a' := ?_) #[false, true, false, false, false, false, true, true, false, false, false, false, true, true, true, false, false, false, false, true, false, false, false, false, false, false, false, false, false] rfl rfl (any_of HT_.out (by kernel_rfl)) (fun _ _ _ h => h) (Or.inl ⟨by rfl, ?_⟩) ?_ ?_
    rotate_left
    ·
     intro w'
     go_simp
     with_reducible rfl
    rotate_left
    ·
     simp only [Act.put, List.setIfInBounds_toArray, List.set_cons_zero, List.set_cons_succ, i64_w, i32_w]
     rfl
    refine take_ (i := 20) (N := some 35) (v := ?_) (a' := ?_) #[false, true, false, false, false, false, true, true, false, false, false, false, true, true, true, false, false, false, false, true, true, false, false, false, false, false, false, false, false] rfl rfl (take_ofW HT_.out HW_.out (by kernel_rfl)) (fun _ _ _ h => h) (Or.inl ⟨by rfl, ?_⟩) hHeld ?_ ?_
    rotate_left
    ·
     rintro w' ⟨s0, s1, s2, s3, s4, s5, s6, s7⟩
     go_simp
     with_reducible rfl
    rotate_left
    ·
     simp only [Act.put, List.setIfInBounds_toArray, List.set_cons_zero, List.set_cons_succ, i64_w, i32_w]
     rfl
    refine take_ (i := 24) (N := some 39) (v := ?_) (a' := ?_) #[false, true, false, false, false, false, true, true, false, false, false, false, true, true, true, false, false, false, false, true, true, false, false, false, true, false, false, false, false] rfl rfl (take_ofW HT_.out HW_.out (by kernel_rfl)) (fun _ _ _ h => h) (Or.inl ⟨by rfl, ?_⟩) hHeld ?_ ?_
    rotate_left
    ·
     rintro w' ⟨s0, s1, s2, s3, s4, s5, s6, s7⟩
     go_simp
     with_reducible rfl
    rotate_left
    ·
     simp only [Act.put, List.setIfInBounds_toArray, List.set_cons_zero, List.set_cons_succ, i64_w, i32_w]
     rfl
    refine one_ (i := 0) (N := some 15) #[true, true, false, false, false, false, true, true, false, false, false, false, true, true, true, false, false, false, false, true, true, false, false, false, true, false, false, false, false] rfl rfl (one_of HT_.out (by kernel_rfl)) (by decide) (fun K hK => ?_)
    refine goes_ Tryd.func53 (by kernel_rfl) rfl #[] (by rfl) rfl rfl (by (try simp only [List.map_toArray, List.map_cons, List.map_nil]); first | done | rfl | (simp only [List.length_drop, List.length_take]; rfl)) ?_
    with_reducible refine (impl_days.calls  t154 _ A9.out).mono ?_
    rintro e w34 ⟨v155, rfl, ho0, hb⟩
    refine ⟨_, rfl, ?_⟩
    have n0_ := Aside0.mk (Kd.R_lower ho0 (below_size (by repeat (first | (with_reducible first | exact HB.out | apply below_alloc | apply pw_below_drewN | apply below_drew1 | refine below_set ?_ GE153.out) | exact HB.out))))
    have n1_ := Aside0.mk (blk_below (g := gb153) (o := .cells #[.int .i64 t147, .int .i64 t148, .int .i64 t149, .int .i64 t150, .int .i64 t151, .int .i64 t152] 30 (0, 0)) (by (with_reducible repeat (first | refine blk_drewN ?_ _ | refine blk_drew ?_ | refine blk_alloc ?_ _)); exact BK153.out) hb)
    have n2_ := Aside0.mk (below_step (by repeat (first | (with_reducible first | exact HB.out | apply below_alloc | apply pw_below_drewN | apply below_drew1 | refine below_set ?_ GE153.out) | exact HB.out)) hb)
    clear BK153
    clear HB
    have HO156 := n0_
    have BK153 := n1_
    have HB := n2_
    clear n0_ n1_ n2_
    (try clear hb)
    (try clear hb2)
    (try clear hk)
    (try clear hi)
    (try clear ho0)
    refine hK.out _ _ ⟨(blk_cell BK153.out 0).trans rfl, (blk_cell BK153.out 1).trans rfl, (blk_cell BK153.out 2).trans rfl, (blk_cell BK153.out 3).trans rfl, (blk_cell BK153.out 4).trans rfl, (blk_cell BK153.out 5).trans rfl, trivial, trivial⟩ (fun hHeld => ?_)
    clear hK K
    refine norm_ (a' := ?_) ?_ ?_
    rotate_left
    ·
     show Act.put _ (some 15) _ = _
     simp only [Act.put, List.setIfInBounds_toArray, List.set_cons_zero, List.set_cons_succ, i64_w, i32_w]
     rfl
    refine one_ (i := 2) (N := some 17) #[true, true, true, false, false, false, true, true, false, false, false, false, true, true, true, false, false, false, false, true, true, false, false, false, true, false, false, false, false] rfl rfl (one_of HT_.out (by kernel_rfl)) (by decide) (fun K hK => ?_)
    refine goes_ Tryd.func23 (by kernel_rfl) rfl #[.int .i64 a0] (by rfl) rfl rfl (by (try simp only [List.map_toArray, List.map_cons, List.map_nil]); first | done | rfl | (simp only [List.length_drop, List.length_take]; rfl)) ?_
    with_reducible refine (impl_Weekday.calls a0 t157 _ A10.out).mono ?_
    rintro e w' ⟨rfl, ⟨nd, rfl⟩⟩
    refine ⟨_, rfl, ?_⟩
    obtain ⟨Ao35, co35, eo35⟩ := Kd.R_slice HO156.out
    (first | subst eo35 | (injection eo35 with f1_ f2_ f3_; have f4_ := f1_.symm; have f5_ := f3_.symm; clear f1_ f2_ f3_; subst f4_; subst f5_))
    have p158 : 0 ≤ (t157 : Int) := of_decide_eq_true (by first | (with_reducible assumption) | assumption)
    have q158 : t157 < (t154.length : Int) := of_decide_eq_true (by first | (with_reducible assumption) | assumption)
    obtain ⟨ad158, e158, hx158_0⟩ := Kd.at_string (Kd.R_reads' HO156.out).2.2 t157 p158 q158
    cases e158
    replace p158 := eq_true p158
    replace q158 := eq_true q158
    refine hK.out _ _ ⟨(blk_cell BK153.out 0).trans rfl, (blk_cell BK153.out 1).trans rfl, (blk_cell BK153.out 2).trans rfl, (blk_cell BK153.out 3).trans rfl, (blk_cell BK153.out 4).trans rfl, (blk_cell BK153.out 5).trans rfl, trivial, trivial⟩ (fun hHeld => ?_)
    clear hK K
    refine norm_ (a' := ?_) ?_ ?_
    rotate_left
    ·
     show Act.put _ (some 17) _ = _
     simp only [Act.put, List.setIfInBounds_toArray, List.set_cons_zero, List.set_cons_succ, i64_w, i32_w]
     rfl
    refine grow_ (S' := fun w' => w'.cell? ⟨gb153, 0, none⟩ = some (.int .i64 t147) ∧ w'.cell? ⟨gb153, 1, none⟩ = some (.int .i64 t148) ∧ w'.cell? ⟨gb153, 2, none⟩ = some (.int .i64 t149) ∧ w'.cell? ⟨gb153, 3, none⟩ = some (.int .i64 t150) ∧ w'.cell? ⟨gb153, 4, none⟩ = some (.int .i64 t151) ∧ w'.cell? ⟨gb153, 5, none⟩ = some (.int .i64 t152) ∧ w'.cell? (ad158.add (t157).toNat) = some (.string (rdOf ByteArray.empty t154 t157)) ∧ True) (fun w' h_ => ⟨h_.1, h_.2.1, h_.2.2.1, h_.2.2.2.1, h_.2.2.2.2.1, h_.2.2.2.2.2.1, trivial, trivial⟩) ⟨hHeld.1, hHeld.2.1, hHeld.2.2.1, hHeld.2.2.2.1, hHeld.2.2.2.2.1, hHeld.2.2.2.2.2.1, hx158_0, trivial⟩ (fun hHeld => ?_)
    refine pure_ (i := 3) (N := some 18) (v := ?_) (a' := ?_) #[true, true, true, true, false, false, true, true, false, false, false, false, true, true, true, false, false, false, false, true, true, false, false, false, true, false, false, false, false] rfl rfl (any_of HT_.out (by kernel_rfl)) (fun _ _ _ h => h) (Or.inl ⟨by rfl, ?_⟩) ?_ ?_
    rotate_left
    ·
     intro w'
     go_simp
     with_reducible rfl
    rotate_left
    ·
     simp only [Act.put, List.setIfInBounds_toArray, List.set_cons_zero, List.set_cons_succ, i64_w, i32_w]
     rfl
    refine take_ (i := 4) (N := some 19) (v := ?_) (a' := ?_) #[true, true, true, true, true, false, true, true, false, false, false, false, true, true, true, false, false, false, false, true, true, false, false, false, true, false, false, false, false] rfl rfl (take_ofW HT_.out HW_.out (by kernel_rfl)) (fun _ _ _ h => h) (Or.inl ⟨by rfl, ?_⟩) hHeld ?_ ?_
    rotate_left
    ·
     rintro w' ⟨s0, s1, s2, s3, s4, s5, s6, s7⟩
     go_simp
     with_reducible rfl
    rotate_left
    ·
     simp only [Act.put, List.setIfInBounds_toArray, List.set_cons_zero, List.set_cons_succ, i64_w, i32_w]
     rfl
    refine pure_ (i := 5) (N := some 20) (v := ?_) (a' := ?_) #[true, true, true, true, true, true, true, true, false, false, false, false, true, true, true, false, false, false, false, true, true, false, false, false, true, false, false, false, false] rfl rfl (any_of HT_.out (by kernel_rfl)) (fun _ _ _ h => h) (Or.inl ⟨by rfl, ?_⟩) ?_ ?_
    rotate_left
    ·
     intro w'
     go_simp
     with_reducible rfl
    rotate_left
    ·
     simp only [Act.put, List.setIfInBounds_toArray, List.set_cons_zero, List.set_cons_succ, i64_w, i32_w]
     rfl
    refine one_ (i := 8) (N := some 23) #[true, true, true, true, true, true, true, true, true, false, false, false, true, true, true, false, false, false, false, true, true, false, false, false, true, false, false, false, false] rfl rfl (one_of HT_.out (by kernel_rfl)) (by decide) (fun K hK => ?_)
    refine goes_ Tryd.func54 (by kernel_rfl) rfl #[.int .i64 t149, .int .i64 2] (by rfl) rfl rfl (by (try simp only [List.map_toArray, List.map_cons, List.map_nil]); first | done | rfl | (simp only [List.length_drop, List.length_take]; rfl)) ?_
    with_reducible refine (impl_digits.calls t149 2 t159 _ A14.out).mono ?_
    rintro e w' ⟨rfl, ⟨nd, rfl⟩⟩
    refine ⟨_, rfl, ?_⟩
    refine hK.out _ _ ⟨(blk_cell BK153.out 0).trans rfl, (blk_cell BK153.out 1).trans rfl, (blk_cell BK153.out 2).trans rfl, (blk_cell BK153.out 3).trans rfl, (blk_cell BK153.out 4).trans rfl, (blk_cell BK153.out 5).trans rfl, hHeld.2.2.2.2.2.2.1, trivial⟩ (fun hHeld => ?_)
    clear hK K
    refine norm_ (a' := ?_) ?_ ?_
    rotate_left
    ·
     show Act.put _ (some 23) _ = _
     simp only [Act.put, List.setIfInBounds_toArray, List.set_cons_zero, List.set_cons_succ, i64_w, i32_w]
     rfl
    refine pure_ (i := 9) (N := some 24) (v := ?_) (a' := ?_) #[true, true, true, true, true, true, true, true, true, true, false, false, true, true, true, false, false, false, false, true, true, false, false, false, true, false, false, false, false] rfl rfl (any_of HT_.out (by kernel_rfl)) (fun _ _ _ h => h) (Or.inl ⟨by rfl, ?_⟩) ?_ ?_
    rotate_left
    ·
     intro w'
     go_simp
     with_reducible rfl
    rotate_left
    ·
     simp only [Act.put, List.setIfInBounds_toArray, List.set_cons_zero, List.set_cons_succ, i64_w, i32_w]
     rfl
    refine pure_ (i := 10) (N := some 25) (v := ?_) (a' := ?_) #[true, true, true, true, true, true, true, true, true, true, true, false, true, true, true, false, false, false, false, true, true, false, false, false, true, false, false, false, false] rfl rfl (any_of HT_.out (by kernel_rfl)) (fun _ _ _ h => h) (Or.inl ⟨by rfl, ?_⟩) ?_ ?_
    rotate_left
    ·
     intro w'
     go_simp
     with_reducible rfl
    rotate_left
    ·
     simp only [Act.put, List.setIfInBounds_toArray, List.set_cons_zero, List.set_cons_succ, i64_w, i32_w]
     rfl
    refine one_ (i := 11) (N := some 26) #[true, true, true, true, true, true, true, true, true, true, true, true, true, true, true, false, false, false, false, true, true, false, false, false, true, false, false, false, false] rfl rfl (one_of HT_.out (by kernel_rfl)) (by decide) (fun K hK => ?_)
    refine goes_ Tryd.func55 (by kernel_rfl) rfl #[] (by rfl) rfl rfl (by (try simp only [List.map_toArray, List.map_cons, List.map_nil]); first | done | rfl | (simp only [List.length_drop, List.length_take]; rfl)) ?_
    with_reducible refine (impl_months.calls  t160 _ A17.out).mono ?_
    rintro e w36 ⟨v161, rfl, ho0, hb⟩
    have HS6_ := (hb.cell (World.block_lt_of_cell? _ _ (hHeld.2.2.2.2.2.2.1))).trans (hHeld.2.2.2.2.2.2.1)
    refine ⟨_, rfl, ?_⟩
    have n0_ := Aside0.mk (Kd.R_elder' (by (with_reducible repeat (first | apply Kd.R_alloc | apply Kd.R_drewN | apply Kd.R_drew)); exact HO156.out) (Kd.R_base ho0) hb)
    have n1_ := Aside0.mk (Kd.R_lower (Kd.R_new' ho0 (Kd.R_lt (by (with_reducible repeat (first | apply Kd.R_alloc | apply Kd.R_drewN | apply Kd.R_drew)); exact HO156.out))) (below_size (by repeat (first | (with_reducible first | exact HB.out | apply below_alloc | apply pw_below_drewN | apply below_drew1 | refine below_set ?_ GE153.out) | exact HB.out))))
    have n2_ := Aside0.mk (blk_below (g := gb153) (o := .cells #[.int .i64 t147, .int .i64 t148, .int .i64 t149, .int .i64 t150, .int .i64 t151, .int .i64 t152] 30 (0, 0)) (by (with_reducible repeat (first | refine blk_drewN ?_ _ | refine blk_drew ?_ | refine blk_alloc ?_ _)); exact BK153.out) hb)
    have n3_ := Aside0.mk (below_step (by repeat (first | (with_reducible first | exact HB.out | apply below_alloc | apply pw_below_drewN | apply below_drew1 | refine below_set ?_ GE153.out) | exact HB.out)) hb)
    clear HO156
    clear BK153
    clear HB
    have HO156 := n0_
    have HO162 := n1_
    have BK153 := n2_
    have HB := n3_
    clear n0_ n1_ n2_ n3_
    (try clear hb)
    (try clear hb2)
    (try clear hk)
    (try clear hi)
    (try clear ho0)
    obtain ⟨Ao37, co37, eo37⟩ := Kd.R_slice HO162.out
    (first | subst eo37 | (injection eo37 with f1_ f2_ f3_; have f4_ := f1_.symm; have f5_ := f3_.symm; clear f1_ f2_ f3_; subst f4_; subst f5_))
    have p163 : 0 ≤ ((ji18) : Int) := of_decide_eq_true (by first | (with_reducible assumption) | assumption)
    have q163 : (ji18) < (t160.length : Int) := of_decide_eq_true (by first | (with_reducible assumption) | assumption)
    obtain ⟨ad163, e163, hx163_0⟩ := Kd.at_string (Kd.R_reads' HO162.out).2.2 (ji18) p163 q163
    cases e163
    replace p163 := eq_true p163
    replace q163 := eq_true q163
    refine hK.out _ _ ⟨(blk_cell BK153.out 0).trans rfl, (blk_cell BK153.out 1).trans rfl, (blk_cell BK153.out 2).trans rfl, (blk_cell BK153.out 3).trans rfl, (blk_cell BK153.out 4).trans rfl, (blk_cell BK153.out 5).trans rfl, HS6_, trivial⟩ (fun hHeld => ?_)
    clear hK K
    refine norm_ (a' := ?_) ?_ ?_
    rotate_left
    ·
     show Act.put _ (some 26) _ = _
     simp only [Act.put, List.setIfInBounds_toArray, List.set_cons_zero, List.set_cons_succ, i64_w, i32_w]
     rfl
    refine grow_ (S' := fun w' => w'.cell? ⟨gb153, 0, none⟩ = some (.int .i64 t147) ∧ w'.cell? ⟨gb153, 1, none⟩ = some (.int .i64 t148) ∧ w'.cell? ⟨gb153, 2, none⟩ = some (.int .i64 t149) ∧ w'.cell? ⟨gb153, 3, none⟩ = some (.int .i64 t150) ∧ w'.cell? ⟨gb153, 4, none⟩ = some (.int .i64 t151) ∧ w'.cell? ⟨gb153, 5, none⟩ = some (.int .i64 t152) ∧ w'.cell? (ad158.add (t157).toNat) = some (.string (rdOf ByteArray.empty t154 t157)) ∧ w'.cell? (ad163.add ((ji18)).toNat) = some (.string (rdOf ByteArray.empty t160 (ji18)))) (fun w' h_ => ⟨h_.1, h_.2.1, h_.2.2.1, h_.2.2.2.1, h_.2.2.2.2.1, h_.2.2.2.2.2.1, h_.2.2.2.2.2.2.1, trivial⟩) ⟨hHeld.1, hHeld.2.1, hHeld.2.2.1, hHeld.2.2.2.1, hHeld.2.2.2.2.1, hHeld.2.2.2.2.2.1, hHeld.2.2.2.2.2.2.1, hx163_0⟩ (fun hHeld => ?_)
    refine pure_ (i := 15) (N := some 30) (v := ?_) (a' := ?_) #[true, true, true, true, true, true, true, true, true, true, true, true, true, true, true, true, false, false, false, true, true, false, false, false, true, false, false, false, false] rfl rfl (any_of HT_.out (by kernel_rfl)) (fun _ _ _ h => h) (Or.inl ⟨by rfl, ?_⟩) ?_ ?_
    rotate_left
    ·
     intro w'
     go_simp
     with_reducible rfl
    rotate_left
    ·
     simp only [Act.put, List.setIfInBounds_toArray, List.set_cons_zero, List.set_cons_succ, i64_w, i32_w]
     rfl
    refine take_ (i := 16) (N := some 31) (v := ?_) (a' := ?_) #[true, true, true, true, true, true, true, true, true, true, true, true, true, true, true, true, true, false, false, true, true, false, false, false, true, false, false, false, false] rfl rfl (take_ofW HT_.out HW_.out (by kernel_rfl)) (fun _ _ _ h => h) (Or.inl ⟨by rfl, ?_⟩) hHeld ?_ ?_
    rotate_left
    ·
     rintro w' ⟨s0, s1, s2, s3, s4, s5, s6, s7⟩
     go_simp
     with_reducible rfl
    rotate_left
    ·
     simp only [Act.put, List.setIfInBounds_toArray, List.set_cons_zero, List.set_cons_succ, i64_w, i32_w]
     rfl
    refine pure_ (i := 17) (N := some 32) (v := ?_) (a' := ?_) #[true, true, true, true, true, true, true, true, true, true, true, true, true, true, true, true, true, true, false, true, true, false, false, false, true, false, false, false, false] rfl rfl (any_of HT_.out (by kernel_rfl)) (fun _ _ _ h => h) (Or.inl ⟨by rfl, ?_⟩) ?_ ?_
    rotate_left
    ·
     intro w'
     go_simp
     with_reducible rfl
    rotate_left
    ·
     simp only [Act.put, List.setIfInBounds_toArray, List.set_cons_zero, List.set_cons_succ, i64_w, i32_w]
     rfl
    refine pure_ (i := 18) (N := some 33) (v := ?_) (a' := ?_) #[true, true, true, true, true, true, true, true, true, true, true, true, true, true, true, true, true, true, true, true, true, false, false, false, true, false, false, false, false] rfl rfl (any_of HT_.out (by kernel_rfl)) (fun _ _ _ h => h) (Or.inl ⟨by rfl, ?_⟩) ?_ ?_
    rotate_left
    ·
     intro w'
     go_simp
     with_reducible rfl
    rotate_left
    ·
     simp only [Act.put, List.setIfInBounds_toArray, List.set_cons_zero, List.set_cons_succ, i64_w, i32_w]
     rfl
    refine one_ (i := 21) (N := some 36) #[true, true, true, true, true, true, true, true, true, true, true, true, true, true, true, true, true, true, true, true, true, true, false, false, true, false, false, false, false] rfl rfl (one_of HT_.out (by kernel_rfl)) (by decide) (fun K hK => ?_)
    refine goes_ Tryd.func54 (by kernel_rfl) rfl #[.int .i64 t147, .int .i64 2] (by rfl) rfl rfl (by (try simp only [List.map_toArray, List.map_cons, List.map_nil]); first | done | rfl | (simp only [List.length_drop, List.length_take]; rfl)) ?_
    with_reducible refine (impl_digits.calls t147 2 t164 _ A23.out).mono ?_
    rintro e w' ⟨rfl, ⟨nd, rfl⟩⟩
    refine ⟨_, rfl, ?_⟩
    refine hK.out _ _ ⟨(blk_cell BK153.out 0).trans rfl, (blk_cell BK153.out 1).trans rfl, (blk_cell BK153.out 2).trans rfl, (blk_cell BK153.out 3).trans rfl, (blk_cell BK153.out 4).trans rfl, (blk_cell BK153.out 5).trans rfl, hHeld.2.2.2.2.2.2.1, hHeld.2.2.2.2.2.2.2⟩ (fun hHeld => ?_)
    clear hK K
    refine norm_ (a' := ?_) ?_ ?_
    rotate_left
    ·
     show Act.put _ (some 36) _ = _
     simp only [Act.put, List.setIfInBounds_toArray, List.set_cons_zero, List.set_cons_succ, i64_w, i32_w]
     rfl
    refine pure_ (i := 22) (N := some 37) (v := ?_) (a' := ?_) #[true, true, true, true, true, true, true, true, true, true, true, true, true, true, true, true, true, true, true, true, true, true, true, false, true, false, false, false, false] rfl rfl (any_of HT_.out (by kernel_rfl)) (fun _ _ _ h => h) (Or.inl ⟨by rfl, ?_⟩) ?_ ?_
    rotate_left
    ·
     intro w'
     go_simp
     with_reducible rfl
    rotate_left
    ·
     simp only [Act.put, List.setIfInBounds_toArray, List.set_cons_zero, List.set_cons_succ, i64_w, i32_w]
     rfl
    refine pure_ (i := 23) (N := some 38) (v := ?_) (a' := ?_) #[true, true, true, true, true, true, true, true, true, true, true, true, true, true, true, true, true, true, true, true, true, true, true, true, true, false, false, false, false] rfl rfl (any_of HT_.out (by kernel_rfl)) (fun _ _ _ h => h) (Or.inl ⟨by rfl, ?_⟩) ?_ ?_
    rotate_left
    ·
     intro w'
     go_simp
     with_reducible rfl
    rotate_left
    ·
     simp only [Act.put, List.setIfInBounds_toArray, List.set_cons_zero, List.set_cons_succ, i64_w, i32_w]
     rfl
    refine one_ (i := 25) (N := some 40) #[true, true, true, true, true, true, true, true, true, true, true, true, true, true, true, true, true, true, true, true, true, true, true, true, true, true, false, false, false] rfl rfl (one_of HT_.out (by kernel_rfl)) (by decide) (fun K hK => ?_)
    refine goes_ Tryd.func56 (by kernel_rfl) rfl #[.agg #[.int .i64 t147, .int .i64 t148, .int .i64 t149, .int .i64 t150, .int .i64 t151, .int .i64 t152]] (by rfl) rfl rfl (by (try simp only [List.map_toArray, List.map_cons, List.map_nil]); first | done | rfl | (simp only [List.length_drop, List.length_take]; rfl)) ?_
    with_reducible refine (impl_clock.calls t147 t148 t149 t150 t151 t152 t165 _ A26.out).mono ?_
    rintro e w38 ⟨rfl, hb⟩
    have HS6_ := (hb.cell (World.block_lt_of_cell? _ _ (hHeld.2.2.2.2.2.2.1))).trans (hHeld.2.2.2.2.2.2.1)
    have HS7_ := (hb.cell (World.block_lt_of_cell? _ _ (hHeld.2.2.2.2.2.2.2))).trans (hHeld.2.2.2.2.2.2.2)
    refine ⟨_, rfl, ?_⟩
    have n0_ := Aside0.mk (Kd.R_below (by (with_reducible repeat (first | apply Kd.R_alloc | apply Kd.R_drewN | apply Kd.R_drew)); exact HO156.out) hb)
    have n1_ := Aside0.mk (Kd.R_below (by (with_reducible repeat (first | apply Kd.R_alloc | apply Kd.R_drewN | apply Kd.R_drew)); exact HO162.out) hb)
    have n2_ := Aside0.mk (blk_below (g := gb153) (o := .cells #[.int .i64 t147, .int .i64 t148, .int .i64 t149, .int .i64 t150, .int .i64 t151, .int .i64 t152] 30 (0, 0)) (by (with_reducible repeat (first | refine blk_drewN ?_ _ | refine blk_drew ?_ | refine blk_alloc ?_ _)); exact BK153.out) hb)
    have n3_ := Aside0.mk (below_step (by repeat (first | (with_reducible first | exact HB.out | apply below_alloc | apply pw_below_drewN | apply below_drew1 | refine below_set ?_ GE153.out) | exact HB.out)) hb)
    clear HO156
    clear HO162
    clear BK153
    clear HB
    have HO156 := n0_
    have HO162 := n1_
    have BK153 := n2_
    have HB := n3_
    clear n0_ n1_ n2_ n3_
    (try clear hb)
    (try clear hb2)
    (try clear hk)
    (try clear hi)
    refine hK.out _ _ ⟨(blk_cell BK153.out 0).trans rfl, (blk_cell BK153.out 1).trans rfl, (blk_cell BK153.out 2).trans rfl, (blk_cell BK153.out 3).trans rfl, (blk_cell BK153.out 4).trans rfl, (blk_cell BK153.out 5).trans rfl, HS6_, HS7_⟩ (fun hHeld => ?_)
    clear hK K
    refine norm_ (a' := ?_) ?_ ?_
    rotate_left
    ·
     show Act.put _ (some 40) _ = _
     simp only [Act.put, List.setIfInBounds_toArray, List.set_cons_zero, List.set_cons_succ, i64_w, i32_w]
     rfl
    refine pure_ (i := 26) (N := some 41) (v := ?_) (a' := ?_) #[true, true, true, true, true, true, true, true, true, true, true, true, true, true, true, true, true, true, true, true, true, true, true, true, true, true, true, false, false] rfl rfl (any_of HT_.out (by kernel_rfl)) (fun _ _ _ h => h) (Or.inl ⟨by rfl, ?_⟩) ?_ ?_
    rotate_left
    ·
     intro w'
     go_simp
     with_reducible rfl
    rotate_left
    ·
     simp only [Act.put, List.setIfInBounds_toArray, List.set_cons_zero, List.set_cons_succ, i64_w, i32_w]
     rfl
    refine pure_ (i := 27) (N := some 42) (v := ?_) (a' := ?_) #[true, true, true, true, true, true, true, true, true, true, true, true, true, true, true, true, true, true, true, true, true, true, true, true, true, true, true, true, false] rfl rfl (any_of HT_.out (by kernel_rfl)) (fun _ _ _ h => h) (Or.inl ⟨by rfl, ?_⟩) ?_ ?_
    rotate_left
    ·
     intro w'
     go_simp
     with_reducible rfl
    rotate_left
    ·
     simp only [Act.put, List.setIfInBounds_toArray, List.set_cons_zero, List.set_cons_succ, i64_w, i32_w]
     rfl
    refine pure_ (i := 28) (N := some 2) (v := ?_) (a' := ?_) #[true, true, true, true, true, true, true, true, true, true, true, true, true, true, true, true, true, true, true, true, true, true, true, true, true, true, true, true, true] rfl rfl (any_of HT_.out (by kernel_rfl)) (fun _ _ _ h => h) (Or.inl ⟨by rfl, ?_⟩) ?_ ?_
    rotate_left
    ·
     intro w'
     go_simp
     with_reducible rfl
    rotate_left
    ·
     simp only [Act.put, List.setIfInBounds_toArray, List.set_cons_zero, List.set_cons_succ, i64_w, i32_w]
     rfl
    refine done_ (done_of HT_.out (by kernel_rfl)) ?_
    try go_wp2
    go_ret
    exact ⟨by first | rfl | (simp [errW_none, errW_some] <;> rfl) | (simp only [← hji18]; first | rfl | (simp [errW_none, errW_some] <;> rfl)) | (simp [*, errW_none, errW_some] <;> rfl), by repeat (first | (with_reducible first | exact HB.out | apply below_alloc | apply pw_below_drewN | apply below_drew1 | refine below_set ?_ GE153.out) | exact HB.out)⟩

/-! ### laws_FnExactLongDate: function 8 -/
def laws_FnExactLongDate.f (k : Nat) (a0 : Int) : Option (Bool) := (spec_LongDate.f k a0).bind fun t166 => ((impl_LongDate.f k a0).bind fun t167 => (if t167.toList = t166.toList then (some true) else (some false)))
theorem laws_FnExactLongDate.mono : ∀ a0 k, LeO (laws_FnExactLongDate.f k a0) (laws_FnExactLongDate.f (k + 1) a0) := by
 intro a0 k
 unfold laws_FnExactLongDate.f
 repeat' first
   | (with_reducible exact impl_LongDate.mono _ _)
   | (with_reducible exact spec_LongDate.mono _ _)
   | (with_reducible exact LeO.refl _)
   | (with_reducible exact LeO.none _)
   | (with_reducible refine LeO.ite ?_ ?_)
   | (with_reducible refine LeO.bind ?_ (fun _ => ?_))
   | exact impl_LongDate.mono _ _
   | exact spec_LongDate.mono _ _
   | exact LeO.none _
   | refine LeO.ite ?_ ?_
   | refine LeO.bind ?_ (fun _ => ?_)
set_option maxHeartbeats 8000000 in
set_option maxRecDepth 100000 in
theorem laws_FnExactLongDate.calls (k : Nat) (a0 : Int) (r : Bool) (w : World) (h : laws_FnExactLongDate.f k a0 = some r) :
  Calls Tryd.prog 8 #[.int .i64 a0] w fun e w' => e = .returned (.bool r) ∧ Below w.heap.size w w' := by
 have HB := Aside0.mk (Below.refl w.heap.size w)
 have H : ((spec_LongDate.f k a0).bind fun t166 => ((impl_LongDate.f k a0).bind fun t167 => (if t167.toList = t166.toList then (some true) else (some false)))) = some r := h
 clear h
 replace H := Option.bind_eq_some_iff.mp H
 obtain ⟨t166, A20, H⟩ := H
 replace H : ((impl_LongDate.f k a0).bind fun t167 => (if t167.toList = t166.toList then (some true) else (some false))) = some r := H
 have A2 := Aside0.mk A20
 clear A20
 replace H := Option.bind_eq_some_iff.mp H
 obtain ⟨t167, A30, H⟩ := H
 replace H : (if t167.toList = t166.toList then (some true) else (some false)) = some r := H
 have A3 := Aside0.mk A30
 clear A30
 by_cases c4 : t167.toList = t166.toList
 ·
  rw [if_pos c4] at H
  have c4b0 : (t167.toList == t166.toList) = true := beq_iff_eq.mpr c4
  have c4b1 : (t167.toList != t166.toList) = false := bne_eq_false_iff_eq.mpr c4
  clear c4
  obtain rfl := Option.some.inj H
  go_enter Tryd.func8, Tryd.ntmps8
  go_wp2_with (first | ((with_reducible refine gate_callee (f := 28) rfl ?_); refine goesL_ (some 6) rfl rfl Tryd.func28 (by kernel_rfl) rfl #[.int .i64 a0] rfl (by (try simp only [List.map_toArray, List.map_cons, List.map_nil]); first | done | rfl | (simp only [List.length_drop, List.length_take]; rfl)) ?_; (with_reducible refine (spec_LongDate.calls k a0 t166 _ A2.out).mono ?_); rintro e w5 ⟨rfl, hb⟩; refine ⟨_, rfl, ?_⟩; have n0_ := Aside0.mk (below_step (by repeat (first | (with_reducible first | exact HB.out | apply below_alloc | apply pw_below_drewN | apply below_drew1) | exact HB.out)) hb); clear HB; have HB := n0_; clear n0_; (try clear hb); (try clear hb2); (try clear hk); (try clear hi)) | ((with_reducible refine gate_callee (f := 29) rfl ?_); refine goesL_ (some 8) rfl rfl Tryd.func29 (by kernel_rfl) rfl #[.int .i64 a0] rfl (by (try simp only [List.map_toArray, List.map_cons, List.map_nil]); first | done | rfl | (simp only [List.length_drop, List.length_take]; rfl)) ?_; (with_reducible refine (impl_LongDate.calls k a0 t167 _ A3.out).mono ?_); rintro e w6 ⟨rfl, hb⟩; refine ⟨_, rfl, ?_⟩; have n0_ := Aside0.mk (below_step (by repeat (first | (with_reducible first | exact HB.out | apply below_alloc | apply pw_below_drewN | apply below_drew1) | exact HB.out)) hb); clear HB; have HB := n0_; clear n0_; (try clear hb); (try clear hb2); (try clear hk); (try clear hi)))
  go_ret
  exact ⟨by first | rfl | (simp [errW_none, errW_some] <;> rfl) | (simp [*, errW_none, errW_some] <;> rfl), by repeat (first | (with_reducible first | exact HB.out | apply below_alloc | apply pw_below_drewN | apply below_drew1) | exact HB.out)⟩
 ·
  rw [if_neg c4] at H
  have c4b0 : (t167.toList == t166.toList) = false := beq_eq_false_iff_ne.mpr c4
  have c4b1 : (t167.toList != t166.toList) = true := bne_iff_ne.mpr c4
  obtain rfl := Option.some.inj H
  go_enter Tryd.func8, Tryd.ntmps8
  go_wp2_with (first | ((with_reducible refine gate_callee (f := 28) rfl ?_); refine goesL_ (some 6) rfl rfl Tryd.func28 (by kernel_rfl) rfl #[.int .i64 a0] rfl (by (try simp only [List.map_toArray, List.map_cons, List.map_nil]); first | done | rfl | (simp only [List.length_drop, List.length_take]; rfl)) ?_; (with_reducible refine (spec_LongDate.calls k a0 t166 _ A2.out).mono ?_); rintro e w7 ⟨rfl, hb⟩; refine ⟨_, rfl, ?_⟩; have n0_ := Aside0.mk (below_step (by repeat (first | (with_reducible first | exact HB.out | apply below_alloc | apply pw_below_drewN | apply below_drew1) | exact HB.out)) hb); clear HB; have HB := n0_; clear n0_; (try clear hb); (try clear hb2); (try clear hk); (try clear hi)) | ((with_reducible refine gate_callee (f := 29) rfl ?_); refine goesL_ (some 8) rfl rfl Tryd.func29 (by kernel_rfl) rfl #[.int .i64 a0] rfl (by (try simp only [List.map_toArray, List.map_cons, List.map_nil]); first | done | rfl | (simp only [List.length_drop, List.length_take]; rfl)) ?_; (with_reducible refine (impl_LongDate.calls k a0 t167 _ A3.out).mono ?_); rintro e w8 ⟨rfl, hb⟩; refine ⟨_, rfl, ?_⟩; have n0_ := Aside0.mk (below_step (by repeat (first | (with_reducible first | exact HB.out | apply below_alloc | apply pw_below_drewN | apply below_drew1) | exact HB.out)) hb); clear HB; have HB := n0_; clear n0_; (try clear hb); (try clear hb2); (try clear hk); (try clear hi)))
  go_ret
  exact ⟨by first | rfl | (simp [errW_none, errW_some] <;> rfl) | (simp [*, errW_none, errW_some] <;> rfl), by repeat (first | (with_reducible first | exact HB.out | apply below_alloc | apply pw_below_drewN | apply below_drew1) | exact HB.out)⟩

/-- THE ONE PURE STATEMENT of laws_FnExactLongDate: yours. -/
def laws_FnExactLongDate.Pure : Prop := ∀ (a0 : Int), (Lit.int .i64 a0).wf = true → ∃ k, laws_FnExactLongDate.f k a0 = some true
theorem laws_FnExactLongDate.walk (P : laws_FnExactLongDate.Pure) (a0 : Int) (w : World) (w0 : (Lit.int .i64 a0).wf = true) :
  Calls Tryd.prog 8 #[.int .i64 a0] w fun e w' => e = .returned (.bool true) ∧ Below w.heap.size w w' := by
 obtain ⟨k, h⟩ := P a0 w0
 refine (laws_FnExactLongDate.calls k a0 true w h).mono ?_
 rintro e w' ⟨rfl, hd⟩
 exact ⟨rfl, hd⟩

end Go.Proofs.YtgjbhdfncappdaaDoor.PFnExactLongDate
