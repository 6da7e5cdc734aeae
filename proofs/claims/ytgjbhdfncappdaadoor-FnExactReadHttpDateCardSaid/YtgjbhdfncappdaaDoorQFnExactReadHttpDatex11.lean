-- Written by a program of this session.
import Derived.Test.YtgjbhdfncappdaaDoorQFnExactReadHttpDatex0
import Derived.Test.YtgjbhdfncappdaaDoorQFnExactReadHttpDatex7
import Derived.Test.YtgjbhdfncappdaaDoorQFnExactReadHttpDatex9
import Derived.Test.YtgjbhdfncappdaaDoorQFnExactReadHttpDatex6
namespace Go.Proofs.YtgjbhdfncappdaaDoor.PFnExactReadHttpDate
open Go.Proofs.YtgjbhdfncappdaaDoor.Foreign
open Go.RowKit Go.Proofs.YtgjbhdfncappdaaDoorV.PrintWords Go.Proofs.YtgjbhdfncappdaaDoorV.PrintLast Go.Proofs.YtgjbhdfncappdaaDoorV.PrintMore
attribute [local go_sem] max2_int min2_int max_two min_two max_three min_three max_four min_four   -- for this text's walks alone
set_option linter.unusedVariables false
set_option linter.unusedSimpArgs false

/-! ### impl_ReadHttpDate: function 35 -/
mutual
def impl_ReadHttpDate.j0 : Nat → ByteArray → Bool → Option (Int × Bool)
 | 0, _, _ => none
 | k + 1, x0, x17 => if x17 = true then (some (0, false)) else ((impl_numbersIn.f k x0).bind fun t272 => (if (t272.length : Int) = 5 then (if 3 ≤ (x0.size : Int) then ((impl_monthIn.f k (x0.extract 3 x0.size)).bind fun t275 => ((strings_IndexByte.f x0 44).bind fun t277 => (if t277 ≥ 0 then (if 0 ≤ t277 then (if t277 ≤ (x0.size : Int) then ((impl_monthIn.f k (x0.extract (t277 : Int).toNat x0.size)).bind fun t278 => (if 1 < (t272.length : Int) then (if 0 < (t272.length : Int) then (if 2 < (t272.length : Int) then (if 3 < (t272.length : Int) then (if 4 < (t272.length : Int) then ((strings_IndexByte.f x0 45).bind fun t284 => (if t284 ≥ 0 then (if (wrap64 ((rd t272 1) + 1900)) < 1970 then (impl_ReadHttpDate.j1 k x0 (wrap64 ((wrap64 ((rd t272 1) + 1900)) + 100)) t278 (rd t272 0) (rd t272 2) (rd t272 3) (rd t272 4)) else (impl_ReadHttpDate.j1 k x0 (wrap64 ((rd t272 1) + 1900)) t278 (rd t272 0) (rd t272 2) (rd t272 3) (rd t272 4))) else (impl_ReadHttpDate.j1 k x0 (rd t272 1) t278 (rd t272 0) (rd t272 2) (rd t272 3) (rd t272 4)))) else (none)) else (none)) else (none)) else (none)) else (none))) else (none)) else (none)) else (if 4 < (t272.length : Int) then (if 0 < (t272.length : Int) then (if 1 < (t272.length : Int) then (if 2 < (t272.length : Int) then (if 3 < (t272.length : Int) then (impl_ReadHttpDate.j1 k x0 (rd t272 4) t275 (rd t272 0) (rd t272 1) (rd t272 2) (rd t272 3)) else (none)) else (none)) else (none)) else (none)) else (none))))) else (none)) else (some (0, false))))
def impl_ReadHttpDate.j1 : Nat → ByteArray → Int → Int → Int → Int → Int → Int → Option (Int × Bool)
 | 0, _, _, _, _, _, _, _ => none
 | k + 1, x0, x277000, x277001, x277002, x277003, x277004, x277005 => (impl_SecondsOf.f x277000 x277001 x277002 x277003 x277004 x277005).bind fun bt290 => (if bt290.2 = true then ((impl_HttpDate.f bt290.1).bind fun t292 => (if t292.toList = x0.toList then (some (bt290.1, true)) else ((impl_LongDate.f k bt290.1).bind fun t293 => (if t293.toList = x0.toList then (some (bt290.1, true)) else ((impl_LineDate.f k bt290.1).bind fun t294 => (if t294.toList = x0.toList then (some (bt290.1, true)) else (some (0, false)))))))) else (some (0, false)))
end
def impl_ReadHttpDate.f (k : Nat) (a0 : ByteArray) : Option (Int × Bool) := if (a0.size : Int) < 6 then (impl_ReadHttpDate.j0 k a0 true) else (impl_ReadHttpDate.j0 k a0 (decide ((a0.size : Int) > 40)))
theorem impl_ReadHttpDate.mono_l : ∀ k, (∀ y0 y1, LeO (impl_ReadHttpDate.j0 k y0 y1) (impl_ReadHttpDate.j0 (k + 1) y0 y1)) ∧ (∀ y0 y1 y2 y3 y4 y5 y6, LeO (impl_ReadHttpDate.j1 k y0 y1 y2 y3 y4 y5 y6) (impl_ReadHttpDate.j1 (k + 1) y0 y1 y2 y3 y4 y5 y6))
 | 0 => ⟨fun _ _ r h => by simp [impl_ReadHttpDate.j0] at h, fun _ _ _ _ _ _ _ r h => by simp [impl_ReadHttpDate.j1] at h⟩
 | k + 1 => by
  obtain ⟨ih0, ih1⟩ := impl_ReadHttpDate.mono_l k
  refine ⟨?_, ?_⟩
  ·
   intro y0 y1
   unfold impl_ReadHttpDate.j0
   repeat' first
   | (with_reducible exact ih0 _ _)
   | (with_reducible exact ih1 _ _ _ _ _ _ _)
   | (with_reducible exact impl_LineDate.mono _ _)
   | (with_reducible exact impl_LongDate.mono _ _)
   | (with_reducible exact impl_monthIn.mono _ _)
   | (with_reducible exact impl_numbersIn.mono _ _)
   | (with_reducible exact LeO.refl _)
   | (with_reducible exact LeO.none _)
   | (with_reducible refine LeO.ite ?_ ?_)
   | (with_reducible refine LeO.bind ?_ (fun _ => ?_))
   | exact ih0 _ _
   | exact ih1 _ _ _ _ _ _ _
   | exact impl_LineDate.mono _ _
   | exact impl_LongDate.mono _ _
   | exact impl_monthIn.mono _ _
   | exact impl_numbersIn.mono _ _
   | exact LeO.none _
   | refine LeO.ite ?_ ?_
   | refine LeO.bind ?_ (fun _ => ?_)
  ·
   intro y0 y1 y2 y3 y4 y5 y6
   unfold impl_ReadHttpDate.j1
   repeat' first
   | (with_reducible exact ih0 _ _)
   | (with_reducible exact ih1 _ _ _ _ _ _ _)
   | (with_reducible exact impl_LineDate.mono _ _)
   | (with_reducible exact impl_LongDate.mono _ _)
   | (with_reducible exact impl_monthIn.mono _ _)
   | (with_reducible exact impl_numbersIn.mono _ _)
   | (with_reducible exact LeO.refl _)
   | (with_reducible exact LeO.none _)
   | (with_reducible refine LeO.ite ?_ ?_)
   | (with_reducible refine LeO.bind ?_ (fun _ => ?_))
   | exact ih0 _ _
   | exact ih1 _ _ _ _ _ _ _
   | exact impl_LineDate.mono _ _
   | exact impl_LongDate.mono _ _
   | exact impl_monthIn.mono _ _
   | exact impl_numbersIn.mono _ _
   | exact LeO.none _
   | refine LeO.ite ?_ ?_
   | refine LeO.bind ?_ (fun _ => ?_)
theorem impl_ReadHttpDate.mono : ∀ a0 k, LeO (impl_ReadHttpDate.f k a0) (impl_ReadHttpDate.f (k + 1) a0) := by
 intro a0 k
 obtain ⟨ih0, ih1⟩ := impl_ReadHttpDate.mono_l k
 unfold impl_ReadHttpDate.f
 repeat' first
   | (with_reducible exact ih0 _ _)
   | (with_reducible exact ih1 _ _ _ _ _ _ _)
   | (with_reducible exact impl_LineDate.mono _ _)
   | (with_reducible exact impl_LongDate.mono _ _)
   | (with_reducible exact impl_monthIn.mono _ _)
   | (with_reducible exact impl_numbersIn.mono _ _)
   | (with_reducible exact LeO.refl _)
   | (with_reducible exact LeO.none _)
   | (with_reducible refine LeO.ite ?_ ?_)
   | (with_reducible refine LeO.bind ?_ (fun _ => ?_))
   | exact ih0 _ _
   | exact ih1 _ _ _ _ _ _ _
   | exact impl_LineDate.mono _ _
   | exact impl_LongDate.mono _ _
   | exact impl_monthIn.mono _ _
   | exact impl_numbersIn.mono _ _
   | exact LeO.none _
   | refine LeO.ite ?_ ?_
   | refine LeO.bind ?_ (fun _ => ?_)
def impl_ReadHttpDate.T11 : Bool × List (List Nat × List Nat) := (true, [([], []), ([0], [0]), ([1], [1]), ([], []), ([], []), ([4], [4]), ([5], [5]), ([], []), ([7], [7]), ([8], [8]), ([], []), ([10], [10]), ([11], [11]), ([], []), ([13], [13]), ([14], [14]), ([2, 3, 6, 9, 12, 15], [2, 3, 6, 9, 12, 15]), ([16, 0, 1, 2, 3, 4, 5, 6, 7, 8, 9, 10, 11, 12, 13, 14, 15, 16], [16])])
def impl_ReadHttpDate.B11 : List Nat := [0, 1, 3, 0, 0, 16, 48, 0, 128, 384, 0, 1024, 3072, 0, 8192, 24576, 65535, 131071]
theorem impl_ReadHttpDate.tab11 : rtab .any (opsOf Tryd.f35 11) = impl_ReadHttpDate.T11 := by kernel_rfl
theorem impl_ReadHttpDate.bits11 : waitsOk impl_ReadHttpDate.T11.2 impl_ReadHttpDate.B11 = true := by kernel_rfl
def impl_ReadHttpDate.T16 : Bool × List (List Nat × List Nat) := (true, [([], []), ([0], [0]), ([1], [1]), ([], []), ([], []), ([4], [4]), ([5], [5]), ([], []), ([7], [7]), ([8], [8]), ([], []), ([10], [10]), ([11], [11]), ([], []), ([13], [13]), ([14], [14]), ([2, 3, 6, 9, 12, 15], [2, 3, 6, 9, 12, 15]), ([16, 0, 1, 2, 3, 4, 5, 6, 7, 8, 9, 10, 11, 12, 13, 14, 15, 16], [16])])
def impl_ReadHttpDate.B16 : List Nat := [0, 1, 3, 0, 0, 16, 48, 0, 128, 384, 0, 1024, 3072, 0, 8192, 24576, 65535, 131071]
theorem impl_ReadHttpDate.tab16 : rtab .any (opsOf Tryd.f35 16) = impl_ReadHttpDate.T16 := by kernel_rfl
theorem impl_ReadHttpDate.bits16 : waitsOk impl_ReadHttpDate.T16.2 impl_ReadHttpDate.B16 = true := by kernel_rfl
set_option maxHeartbeats 8000000 in
set_option maxRecDepth 100000 in
theorem impl_ReadHttpDate.calls (k : Nat) (a0 : ByteArray) (r1 : Int) (r2 : Bool) (w : World) (ht : Tab w) (h : impl_ReadHttpDate.f k a0 = some (r1, r2)) :
  Calls Tryd.prog 35 #[.string a0] w fun e w' => e = .returned (.tuple #[.int .i64 r1, .bool r2]) ∧ Below w.heap.size w w' := by
 have hu30 := Tryd.underlying30
 have HB := Aside0.mk (Below.refl w.heap.size w)
 have HT := Aside0.mk ht
 clear ht
 have H : (if (a0.size : Int) < 6 then (impl_ReadHttpDate.j0 k a0 true) else (impl_ReadHttpDate.j0 k a0 (decide ((a0.size : Int) > 40)))) = some (r1, r2) := h
 clear h
 have HC2 := Aside0.mk H
 clear H
 go_enter Tryd.func35, Tryd.ntmps35
 go_upto_region 1 with (fail)
 go_cut [17] (fun v17 wc => ∃ (kq : Nat) (x17_1 : Bool), v17 = .bool x17_1 ∧ Aside0 (impl_ReadHttpDate.j0 kq a0 x17_1 = some (r1, r2)) ∧ Aside0 (kq ≤ k) ∧ Aside0 (Below w.heap.size w wc))
 case first =>
  have H := HC2.out
  clear HC2
  by_cases c3 : (a0.size : Int) < 6
  ·
   rw [if_pos c3] at H
   have c3b0 : decide ((a0.size : Int) < 6) = true := decide_eq_true c3
   have c3b1 : decide (a0.size < 6) = true := decide_eq_true (by omega)
   clear c3
   (first | rw [c3b0] | (simp only [i64_w, i32_w]; rw [c3b0]) | skip)
   have H' := Aside0.mk H
   clear H
   go_wp2
   go_meet
   case rel => exact ⟨_, (true), (by first | rfl | (simp; done) | (simp [*]; done)), H', ⟨by first | omega | exact Nat.le_refl _⟩, ⟨by repeat (first | (with_reducible first | exact HB.out | apply below_alloc | apply pw_below_drewN | apply below_drew1) | exact HB.out)⟩⟩
  ·
   rw [if_neg c3] at H
   have c3b0 : decide ((a0.size : Int) < 6) = false := decide_eq_false c3
   have c3b1 : decide (a0.size < 6) = false := decide_eq_false (by omega)
   clear c3
   (first | rw [c3b0] | (simp only [i64_w, i32_w]; rw [c3b0]) | skip)
   have H' := Aside0.mk H
   clear H
   go_wp2
   go_meet
   case rel => exact ⟨_, (decide ((a0.size : Int) > 40)), (by first | rfl | (simp; done) | (simp [*]; done)), H', ⟨by first | omega | exact Nat.le_refl _⟩, ⟨by repeat (first | (with_reducible first | exact HB.out | apply below_alloc | apply pw_below_drewN | apply below_drew1) | exact HB.out)⟩⟩
 case rest =>
  clear HC2
  try clear p2
  try clear c3
  try clear c3b0
  try clear c3b1
  obtain ⟨kq, x17_1, rfl, HA, HJ1, HB⟩ := hcut
  cases kq with
  | zero => exact absurd HA.out (by simp [impl_ReadHttpDate.j0])
  | succ kj1 =>
   have H := HA.out
   clear HA
   simp only [impl_ReadHttpDate.j0] at H
   by_cases c4 : x17_1 = true
   ·
    subst c4
    have H1 : (some (0, false)) = some (r1, r2) := by rw [if_pos rfl] at H; exact H
    clear H
    have H := H1
    clear H1
    simp only [Option.some.injEq, Prod.mk.injEq] at H
    obtain ⟨rfl, rfl⟩ := H
    go_wp2
    go_ret2
    exact ⟨by first | rfl | (simp [errW_none, errW_some] <;> rfl) | (simp [*, errW_none, errW_some] <;> rfl), by repeat (first | (with_reducible first | exact HB.out | apply below_alloc | apply pw_below_drewN | apply below_drew1) | exact HB.out)⟩
   ·
    replace c4 := Bool.eq_false_iff.mpr c4
    subst c4
    have H1 : ((impl_numbersIn.f kj1 a0).bind fun t272 => (if (t272.length : Int) = 5 then (if 3 ≤ (a0.size : Int) then ((impl_monthIn.f kj1 (a0.extract 3 a0.size)).bind fun t275 => ((strings_IndexByte.f a0 44).bind fun t277 => (if t277 ≥ 0 then (if 0 ≤ t277 then (if t277 ≤ (a0.size : Int) then ((impl_monthIn.f kj1 (a0.extract (t277 : Int).toNat a0.size)).bind fun t278 => (if 1 < (t272.length : Int) then (if 0 < (t272.length : Int) then (if 2 < (t272.length : Int) then (if 3 < (t272.length : Int) then (if 4 < (t272.length : Int) then ((strings_IndexByte.f a0 45).bind fun t284 => (if t284 ≥ 0 then (if (wrap64 ((rd t272 1) + 1900)) < 1970 then (impl_ReadHttpDate.j1 kj1 a0 (wrap64 ((wrap64 ((rd t272 1) + 1900)) + 100)) t278 (rd t272 0) (rd t272 2) (rd t272 3) (rd t272 4)) else (impl_ReadHttpDate.j1 kj1 a0 (wrap64 ((rd t272 1) + 1900)) t278 (rd t272 0) (rd t272 2) (rd t272 3) (rd t272 4))) else (impl_ReadHttpDate.j1 kj1 a0 (rd t272 1) t278 (rd t272 0) (rd t272 2) (rd t272 3) (rd t272 4)))) else (none)) else (none)) else (none)) else (none)) else (none))) else (none)) else (none)) else (if 4 < (t272.length : Int) then (if 0 < (t272.length : Int) then (if 1 < (t272.length : Int) then (if 2 < (t272.length : Int) then (if 3 < (t272.length : Int) then (impl_ReadHttpDate.j1 kj1 a0 (rd t272 4) t275 (rd t272 0) (rd t272 1) (rd t272 2) (rd t272 3)) else (none)) else (none)) else (none)) else (none)) else (none))))) else (none)) else (some (0, false)))) = some (r1, r2) := by rw [if_neg (show ¬ (false = true) by decide)] at H; exact H
    clear H
    have H := H1
    clear H1
    replace H := Option.bind_eq_some_iff.mp H
    obtain ⟨t272, A50, H⟩ := H
    replace H : (if (t272.length : Int) = 5 then (if 3 ≤ (a0.size : Int) then ((impl_monthIn.f kj1 (a0.extract 3 a0.size)).bind fun t275 => ((strings_IndexByte.f a0 44).bind fun t277 => (if t277 ≥ 0 then (if 0 ≤ t277 then (if t277 ≤ (a0.size : Int) then ((impl_monthIn.f kj1 (a0.extract (t277 : Int).toNat a0.size)).bind fun t278 => (if 1 < (t272.length : Int) then (if 0 < (t272.length : Int) then (if 2 < (t272.length : Int) then (if 3 < (t272.length : Int) then (if 4 < (t272.length : Int) then ((strings_IndexByte.f a0 45).bind fun t284 => (if t284 ≥ 0 then (if (wrap64 ((rd t272 1) + 1900)) < 1970 then (impl_ReadHttpDate.j1 kj1 a0 (wrap64 ((wrap64 ((rd t272 1) + 1900)) + 100)) t278 (rd t272 0) (rd t272 2) (rd t272 3) (rd t272 4)) else (impl_ReadHttpDate.j1 kj1 a0 (wrap64 ((rd t272 1) + 1900)) t278 (rd t272 0) (rd t272 2) (rd t272 3) (rd t272 4))) else (impl_ReadHttpDate.j1 kj1 a0 (rd t272 1) t278 (rd t272 0) (rd t272 2) (rd t272 3) (rd t272 4)))) else (none)) else (none)) else (none)) else (none)) else (none))) else (none)) else (none)) else (if 4 < (t272.length : Int) then (if 0 < (t272.length : Int) then (if 1 < (t272.length : Int) then (if 2 < (t272.length : Int) then (if 3 < (t272.length : Int) then (impl_ReadHttpDate.j1 kj1 a0 (rd t272 4) t275 (rd t272 0) (rd t272 1) (rd t272 2) (rd t272 3)) else (none)) else (none)) else (none)) else (none)) else (none))))) else (none)) else (some (0, false))) = some (r1, r2) := H
    have A5 := Aside0.mk A50
    clear A50
    by_cases c6 : (t272.length : Int) = 5
    ·
     rw [if_pos c6] at H
     have c6b0 : ((t272.length : Int) == 5) = true := beq_iff_eq.mpr c6
     have c6b1 : ((t272.length : Int) != 5) = false := bne_eq_false_iff_eq.mpr c6
     clear c6
     have c7 : 3 ≤ (a0.size : Int) := Classical.byContradiction fun h_ => by rw [if_neg h_] at H; exact absurd H (by simp)
     rw [if_pos c7] at H
     have c7b0 := eq_true c7
     have c7b1 : decide (3 ≤ (a0.size : Int)) = true := decide_eq_true c7
     clear c7
     replace H := Option.bind_eq_some_iff.mp H
     obtain ⟨t275, A80, H⟩ := H
     replace H : ((strings_IndexByte.f a0 44).bind fun t277 => (if t277 ≥ 0 then (if 0 ≤ t277 then (if t277 ≤ (a0.size : Int) then ((impl_monthIn.f kj1 (a0.extract (t277 : Int).toNat a0.size)).bind fun t278 => (if 1 < (t272.length : Int) then (if 0 < (t272.length : Int) then (if 2 < (t272.length : Int) then (if 3 < (t272.length : Int) then (if 4 < (t272.length : Int) then ((strings_IndexByte.f a0 45).bind fun t284 => (if t284 ≥ 0 then (if (wrap64 ((rd t272 1) + 1900)) < 1970 then (impl_ReadHttpDate.j1 kj1 a0 (wrap64 ((wrap64 ((rd t272 1) + 1900)) + 100)) t278 (rd t272 0) (rd t272 2) (rd t272 3) (rd t272 4)) else (impl_ReadHttpDate.j1 kj1 a0 (wrap64 ((rd t272 1) + 1900)) t278 (rd t272 0) (rd t272 2) (rd t272 3) (rd t272 4))) else (impl_ReadHttpDate.j1 kj1 a0 (rd t272 1) t278 (rd t272 0) (rd t272 2) (rd t272 3) (rd t272 4)))) else (none)) else (none)) else (none)) else (none)) else (none))) else (none)) else (none)) else (if 4 < (t272.length : Int) then (if 0 < (t272.length : Int) then (if 1 < (t272.length : Int) then (if 2 < (t272.length : Int) then (if 3 < (t272.length : Int) then (impl_ReadHttpDate.j1 kj1 a0 (rd t272 4) t275 (rd t272 0) (rd t272 1) (rd t272 2) (rd t272 3)) else (none)) else (none)) else (none)) else (none)) else (none)))) = some (r1, r2) := H
     have A8 := Aside0.mk A80
     clear A80
     replace H := Option.bind_eq_some_iff.mp H
     obtain ⟨t277, A90, H⟩ := H
     replace H : (if t277 ≥ 0 then (if 0 ≤ t277 then (if t277 ≤ (a0.size : Int) then ((impl_monthIn.f kj1 (a0.extract (t277 : Int).toNat a0.size)).bind fun t278 => (if 1 < (t272.length : Int) then (if 0 < (t272.length : Int) then (if 2 < (t272.length : Int) then (if 3 < (t272.length : Int) then (if 4 < (t272.length : Int) then ((strings_IndexByte.f a0 45).bind fun t284 => (if t284 ≥ 0 then (if (wrap64 ((rd t272 1) + 1900)) < 1970 then (impl_ReadHttpDate.j1 kj1 a0 (wrap64 ((wrap64 ((rd t272 1) + 1900)) + 100)) t278 (rd t272 0) (rd t272 2) (rd t272 3) (rd t272 4)) else (impl_ReadHttpDate.j1 kj1 a0 (wrap64 ((rd t272 1) + 1900)) t278 (rd t272 0) (rd t272 2) (rd t272 3) (rd t272 4))) else (impl_ReadHttpDate.j1 kj1 a0 (rd t272 1) t278 (rd t272 0) (rd t272 2) (rd t272 3) (rd t272 4)))) else (none)) else (none)) else (none)) else (none)) else (none))) else (none)) else (none)) else (if 4 < (t272.length : Int) then (if 0 < (t272.length : Int) then (if 1 < (t272.length : Int) then (if 2 < (t272.length : Int) then (if 3 < (t272.length : Int) then (impl_ReadHttpDate.j1 kj1 a0 (rd t272 4) t275 (rd t272 0) (rd t272 1) (rd t272 2) (rd t272 3)) else (none)) else (none)) else (none)) else (none)) else (none))) = some (r1, r2) := H
     have A9 := Aside0.mk A90
     clear A90
     have HC10 := Aside0.mk H
     clear H
     go_upto_if 29 with (first | ((with_reducible refine gate_callee (f := 65) rfl ?_); refine goesL_ (some 19) rfl rfl Tryd.func65 (by kernel_rfl) rfl #[.string a0] rfl (by (try simp only [List.map_toArray, List.map_cons, List.map_nil]); first | done | rfl | (simp only [List.length_drop, List.length_take]; rfl)) ?_; (with_reducible refine (impl_numbersIn.calls kj1 a0 t272 _ A5.out).mono ?_); rintro e w11 ⟨v273, rfl, ho0, hb⟩; refine ⟨_, rfl, ?_⟩; have n0_ := Aside0.mk (Kd.R_lower ho0 (below_size (by repeat (first | (with_reducible first | exact HB.out | apply below_alloc | apply pw_below_drewN | apply below_drew1) | exact HB.out)))); have n1_ := Aside0.mk (below_step (by repeat (first | (with_reducible first | exact HB.out | apply below_alloc | apply pw_below_drewN | apply below_drew1) | exact HB.out)) hb); clear HB; have HO274 := n0_; have HB := n1_; clear n0_ n1_; (try clear hb); (try clear hb2); (try clear hk); (try clear hi); (try clear ho0); obtain ⟨Ao12, co12, eo12⟩ := Kd.R_slice HO274.out; subst eo12) | ((with_reducible refine gate_callee (f := 66) rfl ?_); refine goesL_ (some 25) rfl rfl Tryd.func66 (by kernel_rfl) rfl #[.string (a0.extract 3 a0.size)] rfl (by (try simp only [List.map_toArray, List.map_cons, List.map_nil]); first | done | rfl | (simp only [List.length_drop, List.length_take]; rfl)) ?_; (with_reducible refine (impl_monthIn.calls kj1 (a0.extract 3 a0.size) t275 _ ?side1 A8.out).mono ?_); (case side1 => exact Tab.below HT.out (by repeat (first | (with_reducible first | exact HB.out | apply below_alloc | apply pw_below_drewN | apply below_drew1) | exact HB.out))); rintro e w13 ⟨rfl, hb⟩; refine ⟨_, rfl, ?_⟩; have n0_ := Aside0.mk (Kd.R_below (by (with_reducible repeat (first | apply Kd.R_alloc | apply Kd.R_drewN | apply Kd.R_drew)); exact HO274.out) hb); have n1_ := Aside0.mk (below_step (by repeat (first | (with_reducible first | exact HB.out | apply below_alloc | apply pw_below_drewN | apply below_drew1) | exact HB.out)) hb); clear HO274; clear HB; have HO274 := n0_; have HB := n1_; clear n0_ n1_; (try clear hb); (try clear hb2); (try clear hk); (try clear hi)) | ((with_reducible refine gate_dst (N := 6) rfl ?_); refine box_event ?hg (N := 6) ?hd (cs := #[.int .i64 0, .int .i64 0, .int .i64 0, .int .i64 0, .int .i64 0, .int .i64 0]) (t := 30) ?hr ?_; (case hd => rfl); (case hg => rfl); (case hr => first | (go_simp; done) | (go_simp; rfl)); intro gb276 hg w14 hbox hb; have n0_ := Aside0.mk (Kd.R_below (by (with_reducible repeat (first | apply Kd.R_alloc | apply Kd.R_drewN | apply Kd.R_drew)); exact HO274.out) hb); have n1_ := Aside0.mk (below_step (by repeat (first | (with_reducible first | exact HB.out | apply below_alloc | apply pw_below_drewN | apply below_drew1) | exact HB.out)) hb); have n2_ := Aside0.mk (hbox); have n3_ := Aside0.mk ((by rw [hg]; exact (below_size (by repeat (first | (with_reducible first | exact HB.out | apply below_alloc | apply pw_below_drewN | apply below_drew1) | exact HB.out))) : w.heap.size ≤ gb276)); have n4_ := Aside0.mk ((by rw [hg]; exact (below_size (by repeat (first | (with_reducible first | exact HB.out | apply below_alloc | apply pw_below_drewN | apply below_drew1) | exact HB.out))) : w.heap.size ≤ gb276)); clear HO274; clear HB; have HO274 := n0_; have HB := n1_; have BK276 := n2_; have GW276 := n3_; have GE276 := n4_; clear n0_ n1_ n2_ n3_ n4_; clear hb hbox hg) | ((with_reducible refine gate_callee (f := 67) rfl ?_); refine goesL_ (some 27) rfl rfl Tryd.func67 (by kernel_rfl) rfl #[.string a0, .int .u8 44] rfl (by (try simp only [List.map_toArray, List.map_cons, List.map_nil]); first | done | rfl | (simp only [List.length_drop, List.length_take]; rfl)) ?_; (with_reducible refine (strings_IndexByte.calls a0 44 t277 _ A9.out).mono ?_); rintro e w' ⟨rfl, ⟨nd, rfl⟩⟩; refine ⟨_, rfl, ?_⟩))
     (try simp only [Act.put, List.setIfInBounds_toArray, List.set_cons_zero, List.set_cons_succ])
     go_cut [] (fun wc => ∃ (kq : Nat) (x277000_9 : Int) (x277001_9 : Int) (x277002_9 : Int) (x277003_9 : Int) (x277004_9 : Int) (x277005_9 : Int), Aside0 (impl_ReadHttpDate.j1 kq a0 x277000_9 x277001_9 x277002_9 x277003_9 x277004_9 x277005_9 = some (r1, r2)) ∧ Aside0 (kq ≤ kj1) ∧ Aside0 (wc.heap[gb276]? = some (.cells #[.int .i64 x277000_9, .int .i64 x277001_9, .int .i64 x277002_9, .int .i64 x277003_9, .int .i64 x277004_9, .int .i64 x277005_9] 30 (0, 0))) ∧ Aside0 (Below w.heap.size w wc))
     case first =>
      have H := HC10.out
      clear HC10
      by_cases c15 : t277 ≥ 0
      ·
       rw [if_pos c15] at H
       have c15b0 : decide (0 ≤ t277) = true := decide_eq_true c15
       clear c15
       (first | rw [c15b0] | (simp only [i64_w, i32_w]; rw [c15b0]) | skip)
       have c16 : 0 ≤ t277 := Classical.byContradiction fun h_ => by rw [if_neg h_] at H; exact absurd H (by simp)
       rw [if_pos c16] at H
       have c16b0 := eq_true c16
       have c16b1 : decide (0 ≤ t277) = true := decide_eq_true c16
       clear c16
       have c17 : t277 ≤ (a0.size : Int) := Classical.byContradiction fun h_ => by rw [if_neg h_] at H; exact absurd H (by simp)
       rw [if_pos c17] at H
       have c17b0 := eq_true c17
       have c17b1 : decide (t277 ≤ (a0.size : Int)) = true := decide_eq_true c17
       clear c17
       replace H := Option.bind_eq_some_iff.mp H
       obtain ⟨t278, A180, H⟩ := H
       replace H : (if 1 < (t272.length : Int) then (if 0 < (t272.length : Int) then (if 2 < (t272.length : Int) then (if 3 < (t272.length : Int) then (if 4 < (t272.length : Int) then ((strings_IndexByte.f a0 45).bind fun t284 => (if t284 ≥ 0 then (if (wrap64 ((rd t272 1) + 1900)) < 1970 then (impl_ReadHttpDate.j1 kj1 a0 (wrap64 ((wrap64 ((rd t272 1) + 1900)) + 100)) t278 (rd t272 0) (rd t272 2) (rd t272 3) (rd t272 4)) else (impl_ReadHttpDate.j1 kj1 a0 (wrap64 ((rd t272 1) + 1900)) t278 (rd t272 0) (rd t272 2) (rd t272 3) (rd t272 4))) else (impl_ReadHttpDate.j1 kj1 a0 (rd t272 1) t278 (rd t272 0) (rd t272 2) (rd t272 3) (rd t272 4)))) else (none)) else (none)) else (none)) else (none)) else (none)) = some (r1, r2) := H
       have A18 := Aside0.mk A180
       clear A180
       have c19 : 1 < (t272.length : Int) := Classical.byContradiction fun h_ => by rw [if_neg h_] at H; exact absurd H (by simp)
       rw [if_pos c19] at H
       have c19b0 : decide (1 < (t272.length : Int)) = true := decide_eq_true c19
       have c19b1 : decide (1 < t272.length) = true := decide_eq_true (by omega)
       clear c19
       have c20 : 0 < (t272.length : Int) := Classical.byContradiction fun h_ => by rw [if_neg h_] at H; exact absurd H (by simp)
       rw [if_pos c20] at H
       have c20b0 : decide (0 < (t272.length : Int)) = true := decide_eq_true c20
       have c20b1 : decide (0 < t272.length) = true := decide_eq_true (by omega)
       clear c20
       have c21 : 2 < (t272.length : Int) := Classical.byContradiction fun h_ => by rw [if_neg h_] at H; exact absurd H (by simp)
       rw [if_pos c21] at H
       have c21b0 : decide (2 < (t272.length : Int)) = true := decide_eq_true c21
       have c21b1 : decide (2 < t272.length) = true := decide_eq_true (by omega)
       clear c21
       have c22 : 3 < (t272.length : Int) := Classical.byContradiction fun h_ => by rw [if_neg h_] at H; exact absurd H (by simp)
       rw [if_pos c22] at H
       have c22b0 : decide (3 < (t272.length : Int)) = true := decide_eq_true c22
       have c22b1 : decide (3 < t272.length) = true := decide_eq_true (by omega)
       clear c22
       have c23 : 4 < (t272.length : Int) := Classical.byContradiction fun h_ => by rw [if_neg h_] at H; exact absurd H (by simp)
       rw [if_pos c23] at H
       have c23b0 : decide (4 < (t272.length : Int)) = true := decide_eq_true c23
       have c23b1 : decide (4 < t272.length) = true := decide_eq_true (by omega)
       clear c23
       replace H := Option.bind_eq_some_iff.mp H
       obtain ⟨t284, A240, H⟩ := H
       replace H : (if t284 ≥ 0 then (if (wrap64 ((rd t272 1) + 1900)) < 1970 then (impl_ReadHttpDate.j1 kj1 a0 (wrap64 ((wrap64 ((rd t272 1) + 1900)) + 100)) t278 (rd t272 0) (rd t272 2) (rd t272 3) (rd t272 4)) else (impl_ReadHttpDate.j1 kj1 a0 (wrap64 ((rd t272 1) + 1900)) t278 (rd t272 0) (rd t272 2) (rd t272 3) (rd t272 4))) else (impl_ReadHttpDate.j1 kj1 a0 (rd t272 1) t278 (rd t272 0) (rd t272 2) (rd t272 3) (rd t272 4))) = some (r1, r2) := H
       have A24 := Aside0.mk A240
       clear A240
       by_cases c25 : t284 ≥ 0
       ·
        rw [if_pos c25] at H
        have c25b0 : decide (0 ≤ t284) = true := decide_eq_true c25
        clear c25
        by_cases c26 : (wrap64 ((rd t272 1) + 1900)) < 1970
        ·
         rw [if_pos c26] at H
         have c26b0 : decide ((wrap64 ((rd t272 1) + 1900)) < 1970) = true := decide_eq_true c26
         clear c26
         have H' := Aside0.mk H
         clear H
         try go_wp2_with (first | ((with_reducible refine gate_callee (f := 66) rfl ?_); refine goesL_ (some 33) rfl rfl Tryd.func66 (by kernel_rfl) rfl #[.string (a0.extract (t277 : Int).toNat a0.size)] rfl (by (try simp only [List.map_toArray, List.map_cons, List.map_nil]); first | done | rfl | (simp only [List.length_drop, List.length_take]; rfl)) ?_; (with_reducible refine (impl_monthIn.calls kj1 (a0.extract (t277 : Int).toNat a0.size) t278 _ ?side1 A18.out).mono ?_); (case side1 => exact Tab.below HT.out (by repeat (first | (with_reducible first | exact HB.out | apply below_alloc | apply pw_below_drewN | apply below_drew1 | refine below_set ?_ GE276.out) | exact HB.out))); rintro e w27 ⟨rfl, hb⟩; refine ⟨_, rfl, ?_⟩; have n0_ := Aside0.mk (Kd.R_below (by (with_reducible repeat (first | apply Kd.R_alloc | apply Kd.R_drewN | apply Kd.R_drew)); exact HO274.out) hb); have n1_ := Aside0.mk (blk_below (g := gb276) (o := .cells #[.int .i64 0, .int .i64 0, .int .i64 0, .int .i64 0, .int .i64 0, .int .i64 0] 30 (0, 0)) (by (with_reducible repeat (first | refine blk_drewN ?_ _ | refine blk_drew ?_ | refine blk_alloc ?_ _)); exact BK276.out) hb); have n2_ := Aside0.mk (below_step (by repeat (first | (with_reducible first | exact HB.out | apply below_alloc | apply pw_below_drewN | apply below_drew1 | refine below_set ?_ GE276.out) | exact HB.out)) hb); clear HO274; clear BK276; clear HB; have HO274 := n0_; have BK276 := n1_; have HB := n2_; clear n0_ n1_ n2_; (try clear hb); (try clear hb2); (try clear hk); (try clear hi)))
         have n0_ := Aside0.mk (Kd.R_drew HO274.out)
         have n1_ := Aside0.mk (blk_drew BK276.out)
         have n2_ := Aside0.mk (below_drew1 HB.out)
         clear HO274
         clear BK276
         clear HB
         have HO274 := n0_
         have BK276 := n1_
         have HB := n2_
         clear n0_ n1_ n2_
         have p279 : 0 ≤ (1 : Int) := (by omega)
         have q279 : 1 < (t272.length : Int) := of_decide_eq_true (by first | (with_reducible assumption) | assumption)
         obtain ⟨ad279, e279, hx279_0⟩ := Kd.at_int (Kd.R_reads' HO274.out).2.2 1 p279 q279
         cases e279
         (try simp only [show (1 : Int).toNat = 1 from rfl, Nat.reduceMul, Nat.reduceEqDiff, Go.Addr.add, ↓reduceIte] at hx279_0)
         have qi279 : (1 < t272.length) = True := eq_true (by omega)
         (try rw [show ((1 : Int)).toNat = 1 from rfl] at hx279_0)
         replace p279 := eq_true p279
         replace q279 := eq_true q279
         have p280 : 0 ≤ (0 : Int) := (by omega)
         have q280 : 0 < (t272.length : Int) := of_decide_eq_true (by first | (with_reducible assumption) | assumption)
         obtain ⟨ad280, e280, hx280_0⟩ := Kd.at_int (Kd.R_reads' HO274.out).2.2 0 p280 q280
         obtain rfl : ad279 = ad280 := (by injection e280)
         have qi280 : (0 < t272.length) = True := eq_true (by omega)
         (try rw [show ((0 : Int)).toNat = 0 from rfl] at hx280_0)
         (try rw [Addr.add_zero'] at hx280_0)
         replace p280 := eq_true p280
         replace q280 := eq_true q280
         have p281 : 0 ≤ (2 : Int) := (by omega)
         have q281 : 2 < (t272.length : Int) := of_decide_eq_true (by first | (with_reducible assumption) | assumption)
         obtain ⟨ad281, e281, hx281_0⟩ := Kd.at_int (Kd.R_reads' HO274.out).2.2 2 p281 q281
         obtain rfl : ad279 = ad281 := (by injection e281)
         (try simp only [show (2 : Int).toNat = 2 from rfl, Nat.reduceMul, Nat.reduceEqDiff, Go.Addr.add, ↓reduceIte] at hx281_0)
         have qi281 : (2 < t272.length) = True := eq_true (by omega)
         (try rw [show ((2 : Int)).toNat = 2 from rfl] at hx281_0)
         replace p281 := eq_true p281
         replace q281 := eq_true q281
         have p282 : 0 ≤ (3 : Int) := (by omega)
         have q282 : 3 < (t272.length : Int) := of_decide_eq_true (by first | (with_reducible assumption) | assumption)
         obtain ⟨ad282, e282, hx282_0⟩ := Kd.at_int (Kd.R_reads' HO274.out).2.2 3 p282 q282
         obtain rfl : ad279 = ad282 := (by injection e282)
         (try simp only [show (3 : Int).toNat = 3 from rfl, Nat.reduceMul, Nat.reduceEqDiff, Go.Addr.add, ↓reduceIte] at hx282_0)
         have qi282 : (3 < t272.length) = True := eq_true (by omega)
         (try rw [show ((3 : Int)).toNat = 3 from rfl] at hx282_0)
         replace p282 := eq_true p282
         replace q282 := eq_true q282
         have p283 : 0 ≤ (4 : Int) := (by omega)
         have q283 : 4 < (t272.length : Int) := of_decide_eq_true (by first | (with_reducible assumption) | assumption)
         obtain ⟨ad283, e283, hx283_0⟩ := Kd.at_int (Kd.R_reads' HO274.out).2.2 4 p283 q283
         obtain rfl : ad279 = ad283 := (by injection e283)
         (try simp only [show (4 : Int).toNat = 4 from rfl, Nat.reduceMul, Nat.reduceEqDiff, Go.Addr.add, ↓reduceIte] at hx283_0)
         have qi283 : (4 < t272.length) = True := eq_true (by omega)
         (try rw [show ((4 : Int)).toNat = 4 from rfl] at hx283_0)
         replace p283 := eq_true p283
         replace q283 := eq_true q283
         refine start_ (n := 18) (S := fun w' => w'.cell? ⟨ad279.block, ad279.off + 1, none⟩ = some (.int .i64 (rd t272 1)) ∧ w'.cell? ad279 = some (.int .i64 (rd t272 0)) ∧ w'.cell? ⟨ad279.block, ad279.off + 2, none⟩ = some (.int .i64 (rd t272 2)) ∧ w'.cell? ⟨ad279.block, ad279.off + 3, none⟩ = some (.int .i64 (rd t272 3)) ∧ w'.cell? ⟨ad279.block, ad279.off + 4, none⟩ = some (.int .i64 (rd t272 4))) (ds := []) #[false, false, false, false, false, false, false, false, false, false, false, false, false, false, false, false, false, false] (by kernel_rfl) rfl rfl ⟨hx279_0, hx280_0, hx281_0, hx282_0, hx283_0⟩ (fun hHeld => ?_); refine with_tabW impl_ReadHttpDate.tab11 impl_ReadHttpDate.bits11 (fun HT_ HW_ => ?_)
         generalize w27.drew = w28 at HO274 BK276 HB hx279_0 hx280_0 hx281_0 hx282_0 hx283_0 hHeld ⊢
         refine pure_ (i := 0) (N := some 34) (v := ?_) (a' := ?_) #[true, false, false, false, false, false, false, false, false, false, false, false, false, false, false, false, false, false] rfl rfl (any_of HT_.out (by kernel_rfl)) (fun _ _ _ h => h) (Or.inl ⟨by rfl, ?_⟩) ?_ ?_
         rotate_left
         ·
          intro w'
          go_simp
          with_reducible rfl
         rotate_left
         ·
          simp only [Act.put, List.setIfInBounds_toArray, List.set_cons_zero, List.set_cons_succ, i64_w, i32_w]
          rfl
         refine pure_ (i := 1) (N := some 35) (v := ?_) (a' := ?_) #[true, true, false, false, false, false, false, false, false, false, false, false, false, false, false, false, false, false] rfl rfl (any_of HT_.out (by kernel_rfl)) (fun _ _ _ h => h) (Or.inl ⟨by rfl, ?_⟩) ?_ ?_
         rotate_left
         ·
          intro w'
          go_simp
          with_reducible rfl
         rotate_left
         ·
          simp only [Act.put, List.setIfInBounds_toArray, List.set_cons_zero, List.set_cons_succ, i64_w, i32_w]
          rfl
         refine pure_ (i := 3) (N := some 37) (v := ?_) (a' := ?_) #[true, true, false, true, false, false, false, false, false, false, false, false, false, false, false, false, false, false] rfl rfl (any_of HT_.out (by kernel_rfl)) (fun _ _ _ h => h) (Or.inl ⟨by rfl, ?_⟩) ?_ ?_
         rotate_left
         ·
          intro w'
          go_simp
          with_reducible rfl
         rotate_left
         ·
          simp only [Act.put, List.setIfInBounds_toArray, List.set_cons_zero, List.set_cons_succ, i64_w, i32_w]
          rfl
         refine pure_ (i := 4) (N := some 38) (v := ?_) (a' := ?_) #[true, true, false, true, true, false, false, false, false, false, false, false, false, false, false, false, false, false] rfl rfl (any_of HT_.out (by kernel_rfl)) (fun _ _ _ h => h) (Or.inl ⟨by rfl, ?_⟩) ?_ ?_
         rotate_left
         ·
          intro w'
          go_simp
          with_reducible rfl
         rotate_left
         ·
          simp only [Act.put, List.setIfInBounds_toArray, List.set_cons_zero, List.set_cons_succ, i64_w, i32_w]
          rfl
         refine pure_ (i := 5) (N := some 39) (v := ?_) (a' := ?_) #[true, true, false, true, true, true, false, false, false, false, false, false, false, false, false, false, false, false] rfl rfl (any_of HT_.out (by kernel_rfl)) (fun _ _ _ h => h) (Or.inl ⟨by rfl, ?_⟩) ?_ ?_
         rotate_left
         ·
          intro w'
          go_simp
          with_reducible rfl
         rotate_left
         ·
          simp only [Act.put, List.setIfInBounds_toArray, List.set_cons_zero, List.set_cons_succ, i64_w, i32_w]
          rfl
         refine pure_ (i := 7) (N := some 41) (v := ?_) (a' := ?_) #[true, true, false, true, true, true, false, true, false, false, false, false, false, false, false, false, false, false] rfl rfl (any_of HT_.out (by kernel_rfl)) (fun _ _ _ h => h) (Or.inl ⟨by rfl, ?_⟩) ?_ ?_
         rotate_left
         ·
          intro w'
          go_simp
          with_reducible rfl
         rotate_left
         ·
          simp only [Act.put, List.setIfInBounds_toArray, List.set_cons_zero, List.set_cons_succ, i64_w, i32_w]
          rfl
         refine pure_ (i := 8) (N := some 42) (v := ?_) (a' := ?_) #[true, true, false, true, true, true, false, true, true, false, false, false, false, false, false, false, false, false] rfl rfl (any_of HT_.out (by kernel_rfl)) (fun _ _ _ h => h) (Or.inl ⟨by rfl, ?_⟩) ?_ ?_
         rotate_left
         ·
          intro w'
          go_simp
          with_reducible rfl
         rotate_left
         ·
          simp only [Act.put, List.setIfInBounds_toArray, List.set_cons_zero, List.set_cons_succ, i64_w, i32_w]
          rfl
         refine pure_ (i := 10) (N := some 44) (v := ?_) (a' := ?_) #[true, true, false, true, true, true, false, true, true, false, true, false, false, false, false, false, false, false] rfl rfl (any_of HT_.out (by kernel_rfl)) (fun _ _ _ h => h) (Or.inl ⟨by rfl, ?_⟩) ?_ ?_
         rotate_left
         ·
          intro w'
          go_simp
          with_reducible rfl
         rotate_left
         ·
          simp only [Act.put, List.setIfInBounds_toArray, List.set_cons_zero, List.set_cons_succ, i64_w, i32_w]
          rfl
         refine pure_ (i := 11) (N := some 45) (v := ?_) (a' := ?_) #[true, true, false, true, true, true, false, true, true, false, true, true, false, false, false, false, false, false] rfl rfl (any_of HT_.out (by kernel_rfl)) (fun _ _ _ h => h) (Or.inl ⟨by rfl, ?_⟩) ?_ ?_
         rotate_left
         ·
          intro w'
          go_simp
          with_reducible rfl
         rotate_left
         ·
          simp only [Act.put, List.setIfInBounds_toArray, List.set_cons_zero, List.set_cons_succ, i64_w, i32_w]
          rfl
         refine pure_ (i := 13) (N := some 47) (v := ?_) (a' := ?_) #[true, true, false, true, true, true, false, true, true, false, true, true, false, true, false, false, false, false] rfl rfl (any_of HT_.out (by kernel_rfl)) (fun _ _ _ h => h) (Or.inl ⟨by rfl, ?_⟩) ?_ ?_
         rotate_left
         ·
          intro w'
          go_simp
          with_reducible rfl
         rotate_left
         ·
          simp only [Act.put, List.setIfInBounds_toArray, List.set_cons_zero, List.set_cons_succ, i64_w, i32_w]
          rfl
         refine pure_ (i := 14) (N := some 48) (v := ?_) (a' := ?_) #[true, true, false, true, true, true, false, true, true, false, true, true, false, true, true, false, false, false] rfl rfl (any_of HT_.out (by kernel_rfl)) (fun _ _ _ h => h) (Or.inl ⟨by rfl, ?_⟩) ?_ ?_
         rotate_left
         ·
          intro w'
          go_simp
          with_reducible rfl
         rotate_left
         ·
          simp only [Act.put, List.setIfInBounds_toArray, List.set_cons_zero, List.set_cons_succ, i64_w, i32_w]
          rfl
         refine take_ (i := 2) (N := some 36) (v := ?_) (a' := ?_) #[true, true, true, true, true, true, false, true, true, false, true, true, false, true, true, false, false, false] rfl rfl (take_ofW HT_.out HW_.out (by kernel_rfl)) (fun _ _ _ h => h) (Or.inl ⟨by rfl, ?_⟩) hHeld ?_ ?_
         rotate_left
         ·
          rintro w' ⟨s0, s1, s2, s3, s4⟩
          go_simp
          with_reducible rfl
         rotate_left
         ·
          simp only [Act.put, List.setIfInBounds_toArray, List.set_cons_zero, List.set_cons_succ, i64_w, i32_w]
          rfl
         refine take_ (i := 6) (N := some 40) (v := ?_) (a' := ?_) #[true, true, true, true, true, true, true, true, true, false, true, true, false, true, true, false, false, false] rfl rfl (take_ofW HT_.out HW_.out (by kernel_rfl)) (fun _ _ _ h => h) (Or.inl ⟨by rfl, ?_⟩) hHeld ?_ ?_
         rotate_left
         ·
          rintro w' ⟨s0, s1, s2, s3, s4⟩
          go_simp
          with_reducible rfl
         rotate_left
         ·
          simp only [Act.put, List.setIfInBounds_toArray, List.set_cons_zero, List.set_cons_succ, i64_w, i32_w]
          rfl
         refine take_ (i := 9) (N := some 43) (v := ?_) (a' := ?_) #[true, true, true, true, true, true, true, true, true, true, true, true, false, true, true, false, false, false] rfl rfl (take_ofW HT_.out HW_.out (by kernel_rfl)) (fun _ _ _ h => h) (Or.inl ⟨by rfl, ?_⟩) hHeld ?_ ?_
         rotate_left
         ·
          rintro w' ⟨s0, s1, s2, s3, s4⟩
          go_simp
          with_reducible rfl
         rotate_left
         ·
          simp only [Act.put, List.setIfInBounds_toArray, List.set_cons_zero, List.set_cons_succ, i64_w, i32_w]
          rfl
         refine take_ (i := 12) (N := some 46) (v := ?_) (a' := ?_) #[true, true, true, true, true, true, true, true, true, true, true, true, true, true, true, false, false, false] rfl rfl (take_ofW HT_.out HW_.out (by kernel_rfl)) (fun _ _ _ h => h) (Or.inl ⟨by rfl, ?_⟩) hHeld ?_ ?_
         rotate_left
         ·
          rintro w' ⟨s0, s1, s2, s3, s4⟩
          go_simp
          with_reducible rfl
         rotate_left
         ·
          simp only [Act.put, List.setIfInBounds_toArray, List.set_cons_zero, List.set_cons_succ, i64_w, i32_w]
          rfl
         refine take_ (i := 15) (N := some 49) (v := ?_) (a' := ?_) #[true, true, true, true, true, true, true, true, true, true, true, true, true, true, true, true, false, false] rfl rfl (take_ofW HT_.out HW_.out (by kernel_rfl)) (fun _ _ _ h => h) (Or.inl ⟨by rfl, ?_⟩) hHeld ?_ ?_
         rotate_left
         ·
          rintro w' ⟨s0, s1, s2, s3, s4⟩
          go_simp
          with_reducible rfl
         rotate_left
         ·
          simp only [Act.put, List.setIfInBounds_toArray, List.set_cons_zero, List.set_cons_succ, i64_w, i32_w]
          rfl
         refine pure_ (i := 16) (N := some 50) (v := ?_) (a' := ?_) #[true, true, true, true, true, true, true, true, true, true, true, true, true, true, true, true, true, false] rfl rfl (any_of HT_.out (by kernel_rfl)) (fun _ _ _ h => h) (Or.inl ⟨by rfl, ?_⟩) ?_ ?_
         rotate_left
         ·
          intro w'
          go_simp
          with_reducible rfl
         rotate_left
         ·
          simp only [Act.put, List.setIfInBounds_toArray, List.set_cons_zero, List.set_cons_succ, i64_w, i32_w]
          rfl
         refine one_ (i := 17) (N := none) #[true, true, true, true, true, true, true, true, true, true, true, true, true, true, true, true, true, true] rfl rfl (one_of HT_.out (by kernel_rfl)) (by decide) (fun K hK => ?_)
         have hs29 : w28.cell? ⟨gb276, 0, none⟩ = some (.int .i64 0) := (blk_cell BK276.out 0).trans rfl
         have hfs29 := blk_frozen BK276.out 0
         have hs30 : w28.cell? ⟨gb276, 1, none⟩ = some (.int .i64 0) := (blk_cell BK276.out 1).trans rfl
         have hfs30 := blk_frozen BK276.out 1
         have hs31 : w28.cell? ⟨gb276, 2, none⟩ = some (.int .i64 0) := (blk_cell BK276.out 2).trans rfl
         have hfs31 := blk_frozen BK276.out 2
         have hs32 : w28.cell? ⟨gb276, 3, none⟩ = some (.int .i64 0) := (blk_cell BK276.out 3).trans rfl
         have hfs32 := blk_frozen BK276.out 3
         have hs33 : w28.cell? ⟨gb276, 4, none⟩ = some (.int .i64 0) := (blk_cell BK276.out 4).trans rfl
         have hfs33 := blk_frozen BK276.out 4
         have hs34 : w28.cell? ⟨gb276, 5, none⟩ = some (.int .i64 0) := (blk_cell BK276.out 5).trans rfl
         have hfs34 := blk_frozen BK276.out 5
         refine skip_ (w1 := ?_) (by rfl) rfl ?_ ?_
         rotate_left
         ·
          go_simp
          rfl
         have hne_ad279 : ad279.block ≠ gb276 := Kd.own_blk (Kd.R_ne HO274.out BK276.out (by decide))
         have hst : ∀ (W : World) (k : Nat) (v : Value), (fun w' => w'.cell? ⟨ad279.block, ad279.off + 1, none⟩ = some (.int .i64 (rd t272 1)) ∧ w'.cell? ad279 = some (.int .i64 (rd t272 0)) ∧ w'.cell? ⟨ad279.block, ad279.off + 2, none⟩ = some (.int .i64 (rd t272 2)) ∧ w'.cell? ⟨ad279.block, ad279.off + 3, none⟩ = some (.int .i64 (rd t272 3)) ∧ w'.cell? ⟨ad279.block, ad279.off + 4, none⟩ = some (.int .i64 (rd t272 4))) W → (fun w' => w'.cell? ⟨ad279.block, ad279.off + 1, none⟩ = some (.int .i64 (rd t272 1)) ∧ w'.cell? ad279 = some (.int .i64 (rd t272 0)) ∧ w'.cell? ⟨ad279.block, ad279.off + 2, none⟩ = some (.int .i64 (rd t272 2)) ∧ w'.cell? ⟨ad279.block, ad279.off + 3, none⟩ = some (.int .i64 (rd t272 3)) ∧ w'.cell? ⟨ad279.block, ad279.off + 4, none⟩ = some (.int .i64 (rd t272 4))) (W.setCell ⟨gb276, k, none⟩ v) := fun W k v h => ⟨(cell_far (W := W) (p := ⟨gb276, k, none⟩) (a := ⟨ad279.block, ad279.off + 1, none⟩) hne_ad279 v).trans h.1, (cell_far (W := W) (p := ⟨gb276, k, none⟩) (a := ad279) hne_ad279 v).trans h.2.1, (cell_far (W := W) (p := ⟨gb276, k, none⟩) (a := ⟨ad279.block, ad279.off + 2, none⟩) hne_ad279 v).trans h.2.2.1, (cell_far (W := W) (p := ⟨gb276, k, none⟩) (a := ⟨ad279.block, ad279.off + 3, none⟩) hne_ad279 v).trans h.2.2.2.1, (cell_far (W := W) (p := ⟨gb276, k, none⟩) (a := ⟨ad279.block, ad279.off + 4, none⟩) hne_ad279 v).trans h.2.2.2.2⟩
         refine hK.out _ _ (hst _ _ _ (hst _ _ _ (hst _ _ _ (hst _ _ _ (hst _ _ _ (hst _ _ _ (hHeld))))))) (fun hHeld => ?_)
         clear hK K
         refine done_ (done_of HT_.out (by kernel_rfl)) ?_
         try go_wp2_with (first | ((with_reducible refine gate_callee (f := 67) rfl ?_); refine goesL_ (some 52) rfl rfl Tryd.func67 (by kernel_rfl) rfl #[.string a0, .int .u8 45] rfl (by (try simp only [List.map_toArray, List.map_cons, List.map_nil]); first | done | rfl | (simp only [List.length_drop, List.length_take]; rfl)) ?_; (with_reducible refine (strings_IndexByte.calls a0 45 t284 _ A24.out).mono ?_); rintro e w' ⟨rfl, ⟨nd, rfl⟩⟩; refine ⟨_, rfl, ?_⟩; have hcz35_0 : w28.cell? ⟨gb276, 0, none⟩ = some (.int .i64 0) := (blk_cell BK276.out 0).trans rfl; have hcz35_1 : w28.cell? ⟨gb276, 1, none⟩ = some (.int .i64 0) := (blk_cell BK276.out 1).trans rfl; have hcz35_2 : w28.cell? ⟨gb276, 2, none⟩ = some (.int .i64 0) := (blk_cell BK276.out 2).trans rfl; have hcz35_3 : w28.cell? ⟨gb276, 3, none⟩ = some (.int .i64 0) := (blk_cell BK276.out 3).trans rfl; have hcz35_4 : w28.cell? ⟨gb276, 4, none⟩ = some (.int .i64 0) := (blk_cell BK276.out 4).trans rfl; have hcz35_5 : w28.cell? ⟨gb276, 5, none⟩ = some (.int .i64 0) := (blk_cell BK276.out 5).trans rfl; have hfz35_0 := blk_frozen BK276.out 0; have hfz35_1 := blk_frozen BK276.out 1; have hfz35_2 := blk_frozen BK276.out 2; have hfz35_3 := blk_frozen BK276.out 3; have hfz35_4 := blk_frozen BK276.out 4; have hfz35_5 := blk_frozen BK276.out 5))
         go_meet
         case rel => exact ⟨_, (wrap64 ((wrap64 ((rd t272 1) + 1900)) + 100)), (t278), (rd t272 0), (rd t272 2), (rd t272 3), (rd t272 4), H', ⟨by have := HJ1.out; first | omega | exact Nat.le_refl _⟩, ⟨by (with_reducible repeat (first | refine blk_drewN ?_ _ | refine blk_drew ?_ | refine blk_alloc ?_ _)); refine blk_put (cs := #[.int .i64 (wrap64 ((rd t272 1) + 1900)), .int .i64 t278, .int .i64 (rd t272 0), .int .i64 (rd t272 2), .int .i64 (rd t272 3), .int .i64 (rd t272 4)]) ?_ 0 _ rfl; (with_reducible repeat (first | refine blk_drewN ?_ _ | refine blk_drew ?_ | refine blk_alloc ?_ _)); refine blk_put (cs := #[.int .i64 (rd t272 1), .int .i64 t278, .int .i64 (rd t272 0), .int .i64 (rd t272 2), .int .i64 (rd t272 3), .int .i64 (rd t272 4)]) ?_ 0 _ rfl; (with_reducible repeat (first | refine blk_drewN ?_ _ | refine blk_drew ?_ | refine blk_alloc ?_ _)); refine blk_put (cs := #[.int .i64 (rd t272 1), .int .i64 t278, .int .i64 (rd t272 0), .int .i64 (rd t272 2), .int .i64 (rd t272 3), .int .i64 0]) ?_ 5 _ rfl; (with_reducible repeat (first | refine blk_drewN ?_ _ | refine blk_drew ?_ | refine blk_alloc ?_ _)); refine blk_put (cs := #[.int .i64 (rd t272 1), .int .i64 t278, .int .i64 (rd t272 0), .int .i64 (rd t272 2), .int .i64 0, .int .i64 0]) ?_ 4 _ rfl; (with_reducible repeat (first | refine blk_drewN ?_ _ | refine blk_drew ?_ | refine blk_alloc ?_ _)); refine blk_put (cs := #[.int .i64 (rd t272 1), .int .i64 t278, .int .i64 (rd t272 0), .int .i64 0, .int .i64 0, .int .i64 0]) ?_ 3 _ rfl; (with_reducible repeat (first | refine blk_drewN ?_ _ | refine blk_drew ?_ | refine blk_alloc ?_ _)); refine blk_put (cs := #[.int .i64 (rd t272 1), .int .i64 t278, .int .i64 0, .int .i64 0, .int .i64 0, .int .i64 0]) ?_ 2 _ rfl; (with_reducible repeat (first | refine blk_drewN ?_ _ | refine blk_drew ?_ | refine blk_alloc ?_ _)); refine blk_put (cs := #[.int .i64 (rd t272 1), .int .i64 0, .int .i64 0, .int .i64 0, .int .i64 0, .int .i64 0]) ?_ 1 _ rfl; (with_reducible repeat (first | refine blk_drewN ?_ _ | refine blk_drew ?_ | refine blk_alloc ?_ _)); refine blk_put (cs := #[.int .i64 0, .int .i64 0, .int .i64 0, .int .i64 0, .int .i64 0, .int .i64 0]) ?_ 0 _ rfl; (with_reducible repeat (first | refine blk_drewN ?_ _ | refine blk_drew ?_ | refine blk_alloc ?_ _)); exact BK276.out⟩, ⟨by repeat (first | (with_reducible first | exact HB.out | apply below_alloc | apply pw_below_drewN | apply below_drew1 | refine below_set ?_ GE276.out) | exact HB.out)⟩⟩
        ·
         rw [if_neg c26] at H
         have c26b0 : decide ((wrap64 ((rd t272 1) + 1900)) < 1970) = false := decide_eq_false c26
         clear c26
         have H' := Aside0.mk H
         clear H
         try go_wp2_with (first | ((with_reducible refine gate_callee (f := 66) rfl ?_); refine goesL_ (some 33) rfl rfl Tryd.func66 (by kernel_rfl) rfl #[.string (a0.extract (t277 : Int).toNat a0.size)] rfl (by (try simp only [List.map_toArray, List.map_cons, List.map_nil]); first | done | rfl | (simp only [List.length_drop, List.length_take]; rfl)) ?_; (with_reducible refine (impl_monthIn.calls kj1 (a0.extract (t277 : Int).toNat a0.size) t278 _ ?side1 A18.out).mono ?_); (case side1 => exact Tab.below HT.out (by repeat (first | (with_reducible first | exact HB.out | apply below_alloc | apply pw_below_drewN | apply below_drew1 | refine below_set ?_ GE276.out) | exact HB.out))); rintro e w36 ⟨rfl, hb⟩; refine ⟨_, rfl, ?_⟩; have n0_ := Aside0.mk (Kd.R_below (by (with_reducible repeat (first | apply Kd.R_alloc | apply Kd.R_drewN | apply Kd.R_drew)); exact HO274.out) hb); have n1_ := Aside0.mk (blk_below (g := gb276) (o := .cells #[.int .i64 0, .int .i64 0, .int .i64 0, .int .i64 0, .int .i64 0, .int .i64 0] 30 (0, 0)) (by (with_reducible repeat (first | refine blk_drewN ?_ _ | refine blk_drew ?_ | refine blk_alloc ?_ _)); exact BK276.out) hb); have n2_ := Aside0.mk (below_step (by repeat (first | (with_reducible first | exact HB.out | apply below_alloc | apply pw_below_drewN | apply below_drew1 | refine below_set ?_ GE276.out) | exact HB.out)) hb); clear HO274; clear BK276; clear HB; have HO274 := n0_; have BK276 := n1_; have HB := n2_; clear n0_ n1_ n2_; (try clear hb); (try clear hb2); (try clear hk); (try clear hi)))
         have n0_ := Aside0.mk (Kd.R_drew HO274.out)
         have n1_ := Aside0.mk (blk_drew BK276.out)
         have n2_ := Aside0.mk (below_drew1 HB.out)
         clear HO274
         clear BK276
         clear HB
         have HO274 := n0_
         have BK276 := n1_
         have HB := n2_
         clear n0_ n1_ n2_
         have p279 : 0 ≤ (1 : Int) := (by omega)
         have q279 : 1 < (t272.length : Int) := of_decide_eq_true (by first | (with_reducible assumption) | assumption)
         obtain ⟨ad279, e279, hx279_0⟩ := Kd.at_int (Kd.R_reads' HO274.out).2.2 1 p279 q279
         cases e279
         (try simp only [show (1 : Int).toNat = 1 from rfl, Nat.reduceMul, Nat.reduceEqDiff, Go.Addr.add, ↓reduceIte] at hx279_0)
         have qi279 : (1 < t272.length) = True := eq_true (by omega)
         (try rw [show ((1 : Int)).toNat = 1 from rfl] at hx279_0)
         replace p279 := eq_true p279
         replace q279 := eq_true q279
         have p280 : 0 ≤ (0 : Int) := (by omega)
         have q280 : 0 < (t272.length : Int) := of_decide_eq_true (by first | (with_reducible assumption) | assumption)
         obtain ⟨ad280, e280, hx280_0⟩ := Kd.at_int (Kd.R_reads' HO274.out).2.2 0 p280 q280
         obtain rfl : ad279 = ad280 := (by injection e280)
         have qi280 : (0 < t272.length) = True := eq_true (by omega)
         (try rw [show ((0 : Int)).toNat = 0 from rfl] at hx280_0)
         (try rw [Addr.add_zero'] at hx280_0)
         replace p280 := eq_true p280
         replace q280 := eq_true q280
         have p281 : 0 ≤ (2 : Int) := (by omega)
         have q281 : 2 < (t272.length : Int) := of_decide_eq_true (by first | (with_reducible assumption) | assumption)
         obtain ⟨ad281, e281, hx281_0⟩ := Kd.at_int (Kd.R_reads' HO274.out).2.2 2 p281 q281
         obtain rfl : ad279 = ad281 := (by injection e281)
         (try simp only [show (2 : Int).toNat = 2 from rfl, Nat.reduceMul, Nat.reduceEqDiff, Go.Addr.add, ↓reduceIte] at hx281_0)
         have qi281 : (2 < t272.length) = True := eq_true (by omega)
         (try rw [show ((2 : Int)).toNat = 2 from rfl] at hx281_0)
         replace p281 := eq_true p281
         replace q281 := eq_true q281
         have p282 : 0 ≤ (3 : Int) := (by omega)
         have q282 : 3 < (t272.length : Int) := of_decide_eq_true (by first | (with_reducible assumption) | assumption)
         obtain ⟨ad282, e282, hx282_0⟩ := Kd.at_int (Kd.R_reads' HO274.out).2.2 3 p282 q282
         obtain rfl : ad279 = ad282 := (by injection e282)
         (try simp only [show (3 : Int).toNat = 3 from rfl, Nat.reduceMul, Nat.reduceEqDiff, Go.Addr.add, ↓reduceIte] at hx282_0)
         have qi282 : (3 < t272.length) = True := eq_true (by omega)
         (try rw [show ((3 : Int)).toNat = 3 from rfl] at hx282_0)
         replace p282 := eq_true p282
         replace q282 := eq_true q282
         have p283 : 0 ≤ (4 : Int) := (by omega)
         have q283 : 4 < (t272.length : Int) := of_decide_eq_true (by first | (with_reducible assumption) | assumption)
         obtain ⟨ad283, e283, hx283_0⟩ := Kd.at_int (Kd.R_reads' HO274.out).2.2 4 p283 q283
         obtain rfl : ad279 = ad283 := (by injection e283)
         (try simp only [show (4 : Int).toNat = 4 from rfl, Nat.reduceMul, Nat.reduceEqDiff, Go.Addr.add, ↓reduceIte] at hx283_0)
         have qi283 : (4 < t272.length) = True := eq_true (by omega)
         (try rw [show ((4 : Int)).toNat = 4 from rfl] at hx283_0)
         replace p283 := eq_true p283
         replace q283 := eq_true q283
         refine start_ (n := 18) (S := fun w' => w'.cell? ⟨ad279.block, ad279.off + 1, none⟩ = some (.int .i64 (rd t272 1)) ∧ w'.cell? ad279 = some (.int .i64 (rd t272 0)) ∧ w'.cell? ⟨ad279.block, ad279.off + 2, none⟩ = some (.int .i64 (rd t272 2)) ∧ w'.cell? ⟨ad279.block, ad279.off + 3, none⟩ = some (.int .i64 (rd t272 3)) ∧ w'.cell? ⟨ad279.block, ad279.off + 4, none⟩ = some (.int .i64 (rd t272 4))) (ds := []) #[false, false, false, false, false, false, false, false, false, false, false, false, false, false, false, false, false, false] (by kernel_rfl) rfl rfl ⟨hx279_0, hx280_0, hx281_0, hx282_0, hx283_0⟩ (fun hHeld => ?_); refine with_tabW impl_ReadHttpDate.tab11 impl_ReadHttpDate.bits11 (fun HT_ HW_ => ?_)
         generalize w36.drew = w37 at HO274 BK276 HB hx279_0 hx280_0 hx281_0 hx282_0 hx283_0 hHeld ⊢
         refine pure_ (i := 0) (N := some 34) (v := ?_) (a' := ?_) #[true, false, false, false, false, false, false, false, false, false, false, false, false, false, false, false, false, false] rfl rfl (any_of HT_.out (by kernel_rfl)) (fun _ _ _ h => h) (Or.inl ⟨by rfl, ?_⟩) ?_ ?_
         rotate_left
         ·
          intro w'
          go_simp
          with_reducible rfl
         rotate_left
         ·
          simp only [Act.put, List.setIfInBounds_toArray, List.set_cons_zero, List.set_cons_succ, i64_w, i32_w]
          rfl
         refine pure_ (i := 1) (N := some 35) (v := ?_) (a' := ?_) #[true, true, false, false, false, false, false, false, false, false, false, false, false, false, false, false, false, false] rfl rfl (any_of HT_.out (by kernel_rfl)) (fun _ _ _ h => h) (Or.inl ⟨by rfl, ?_⟩) ?_ ?_
         rotate_left
         ·
          intro w'
          go_simp
          with_reducible rfl
         rotate_left
         ·
          simp only [Act.put, List.setIfInBounds_toArray, List.set_cons_zero, List.set_cons_succ, i64_w, i32_w]
          rfl
         refine pure_ (i := 3) (N := some 37) (v := ?_) (a' := ?_) #[true, true, false, true, false, false, false, false, false, false, false, false, false, false, false, false, false, false] rfl rfl (any_of HT_.out (by kernel_rfl)) (fun _ _ _ h => h) (Or.inl ⟨by rfl, ?_⟩) ?_ ?_
         rotate_left
         ·
          intro w'
          go_simp
          with_reducible rfl
         rotate_left
         ·
          simp only [Act.put, List.setIfInBounds_toArray, List.set_cons_zero, List.set_cons_succ, i64_w, i32_w]
          rfl
         refine pure_ (i := 4) (N := some 38) (v := ?_) (a' := ?_) #[true, true, false, true, true, false, false, false, false, false, false, false, false, false, false, false, false, false] rfl rfl (any_of HT_.out (by kernel_rfl)) (fun _ _ _ h => h) (Or.inl ⟨by rfl, ?_⟩) ?_ ?_
         rotate_left
         ·
          intro w'
          go_simp
          with_reducible rfl
         rotate_left
         ·
          simp only [Act.put, List.setIfInBounds_toArray, List.set_cons_zero, List.set_cons_succ, i64_w, i32_w]
          rfl
         refine pure_ (i := 5) (N := some 39) (v := ?_) (a' := ?_) #[true, true, false, true, true, true, false, false, false, false, false, false, false, false, false, false, false, false] rfl rfl (any_of HT_.out (by kernel_rfl)) (fun _ _ _ h => h) (Or.inl ⟨by rfl, ?_⟩) ?_ ?_
         rotate_left
         ·
          intro w'
          go_simp
          with_reducible rfl
         rotate_left
         ·
          simp only [Act.put, List.setIfInBounds_toArray, List.set_cons_zero, List.set_cons_succ, i64_w, i32_w]
          rfl
         refine pure_ (i := 7) (N := some 41) (v := ?_) (a' := ?_) #[true, true, false, true, true, true, false, true, false, false, false, false, false, false, false, false, false, false] rfl rfl (any_of HT_.out (by kernel_rfl)) (fun _ _ _ h => h) (Or.inl ⟨by rfl, ?_⟩) ?_ ?_
         rotate_left
         ·
          intro w'
          go_simp
          with_reducible rfl
         rotate_left
         ·
          simp only [Act.put, List.setIfInBounds_toArray, List.set_cons_zero, List.set_cons_succ, i64_w, i32_w]
          rfl
         refine pure_ (i := 8) (N := some 42) (v := ?_) (a' := ?_) #[true, true, false, true, true, true, false, true, true, false, false, false, false, false, false, false, false, false] rfl rfl (any_of HT_.out (by kernel_rfl)) (fun _ _ _ h => h) (Or.inl ⟨by rfl, ?_⟩) ?_ ?_
         rotate_left
         ·
          intro w'
          go_simp
          with_reducible rfl
         rotate_left
         ·
          simp only [Act.put, List.setIfInBounds_toArray, List.set_cons_zero, List.set_cons_succ, i64_w, i32_w]
          rfl
         refine pure_ (i := 10) (N := some 44) (v := ?_) (a' := ?_) #[true, true, false, true, true, true, false, true, true, false, true, false, false, false, false, false, false, false] rfl rfl (any_of HT_.out (by kernel_rfl)) (fun _ _ _ h => h) (Or.inl ⟨by rfl, ?_⟩) ?_ ?_
         rotate_left
         ·
          intro w'
          go_simp
          with_reducible rfl
         rotate_left
         ·
          simp only [Act.put, List.setIfInBounds_toArray, List.set_cons_zero, List.set_cons_succ, i64_w, i32_w]
          rfl
         refine pure_ (i := 11) (N := some 45) (v := ?_) (a' := ?_) #[true, true, false, true, true, true, false, true, true, false, true, true, false, false, false, false, false, false] rfl rfl (any_of HT_.out (by kernel_rfl)) (fun _ _ _ h => h) (Or.inl ⟨by rfl, ?_⟩) ?_ ?_
         rotate_left
         ·
          intro w'
          go_simp
          with_reducible rfl
         rotate_left
         ·
          simp only [Act.put, List.setIfInBounds_toArray, List.set_cons_zero, List.set_cons_succ, i64_w, i32_w]
          rfl
         refine pure_ (i := 13) (N := some 47) (v := ?_) (a' := ?_) #[true, true, false, true, true, true, false, true, true, false, true, true, false, true, false, false, false, false] rfl rfl (any_of HT_.out (by kernel_rfl)) (fun _ _ _ h => h) (Or.inl ⟨by rfl, ?_⟩) ?_ ?_
         rotate_left
         ·
          intro w'
          go_simp
          with_reducible rfl
         rotate_left
         ·
          simp only [Act.put, List.setIfInBounds_toArray, List.set_cons_zero, List.set_cons_succ, i64_w, i32_w]
          rfl
         refine pure_ (i := 14) (N := some 48) (v := ?_) (a' := ?_) #[true, true, false, true, true, true, false, true, true, false, true, true, false, true, true, false, false, false] rfl rfl (any_of HT_.out (by kernel_rfl)) (fun _ _ _ h => h) (Or.inl ⟨by rfl, ?_⟩) ?_ ?_
         rotate_left
         ·
          intro w'
          go_simp
          with_reducible rfl
         rotate_left
         ·
          simp only [Act.put, List.setIfInBounds_toArray, List.set_cons_zero, List.set_cons_succ, i64_w, i32_w]
          rfl
         refine take_ (i := 2) (N := some 36) (v := ?_) (a' := ?_) #[true, true, true, true, true, true, false, true, true, false, true, true, false, true, true, false, false, false] rfl rfl (take_ofW HT_.out HW_.out (by kernel_rfl)) (fun _ _ _ h => h) (Or.inl ⟨by rfl, ?_⟩) hHeld ?_ ?_
         rotate_left
         ·
          rintro w' ⟨s0, s1, s2, s3, s4⟩
          go_simp
          with_reducible rfl
         rotate_left
         ·
          simp only [Act.put, List.setIfInBounds_toArray, List.set_cons_zero, List.set_cons_succ, i64_w, i32_w]
          rfl
         refine take_ (i := 6) (N := some 40) (v := ?_) (a' := ?_) #[true, true, true, true, true, true, true, true, true, false, true, true, false, true, true, false, false, false] rfl rfl (take_ofW HT_.out HW_.out (by kernel_rfl)) (fun _ _ _ h => h) (Or.inl ⟨by rfl, ?_⟩) hHeld ?_ ?_
         rotate_left
         ·
          rintro w' ⟨s0, s1, s2, s3, s4⟩
          go_simp
          with_reducible rfl
         rotate_left
         ·
          simp only [Act.put, List.setIfInBounds_toArray, List.set_cons_zero, List.set_cons_succ, i64_w, i32_w]
          rfl
         refine take_ (i := 9) (N := some 43) (v := ?_) (a' := ?_) #[true, true, true, true, true, true, true, true, true, true, true, true, false, true, true, false, false, false] rfl rfl (take_ofW HT_.out HW_.out (by kernel_rfl)) (fun _ _ _ h => h) (Or.inl ⟨by rfl, ?_⟩) hHeld ?_ ?_
         rotate_left
         ·
          rintro w' ⟨s0, s1, s2, s3, s4⟩
          go_simp
          with_reducible rfl
         rotate_left
         ·
          simp only [Act.put, List.setIfInBounds_toArray, List.set_cons_zero, List.set_cons_succ, i64_w, i32_w]
          rfl
         refine take_ (i := 12) (N := some 46) (v := ?_) (a' := ?_) #[true, true, true, true, true, true, true, true, true, true, true, true, true, true, true, false, false, false] rfl rfl (take_ofW HT_.out HW_.out (by kernel_rfl)) (fun _ _ _ h => h) (Or.inl ⟨by rfl, ?_⟩) hHeld ?_ ?_
         rotate_left
         ·
          rintro w' ⟨s0, s1, s2, s3, s4⟩
          go_simp
          with_reducible rfl
         rotate_left
         ·
          simp only [Act.put, List.setIfInBounds_toArray, List.set_cons_zero, List.set_cons_succ, i64_w, i32_w]
          rfl
         refine take_ (i := 15) (N := some 49) (v := ?_) (a' := ?_) #[true, true, true, true, true, true, true, true, true, true, true, true, true, true, true, true, false, false] rfl rfl (take_ofW HT_.out HW_.out (by kernel_rfl)) (fun _ _ _ h => h) (Or.inl ⟨by rfl, ?_⟩) hHeld ?_ ?_
         rotate_left
         ·
          rintro w' ⟨s0, s1, s2, s3, s4⟩
          go_simp
          with_reducible rfl
         rotate_left
         ·
          simp only [Act.put, List.setIfInBounds_toArray, List.set_cons_zero, List.set_cons_succ, i64_w, i32_w]
          rfl
         refine pure_ (i := 16) (N := some 50) (v := ?_) (a' := ?_) #[true, true, true, true, true, true, true, true, true, true, true, true, true, true, true, true, true, false] rfl rfl (any_of HT_.out (by kernel_rfl)) (fun _ _ _ h => h) (Or.inl ⟨by rfl, ?_⟩) ?_ ?_
         rotate_left
         ·
          intro w'
          go_simp
          with_reducible rfl
         rotate_left
         ·
          simp only [Act.put, List.setIfInBounds_toArray, List.set_cons_zero, List.set_cons_succ, i64_w, i32_w]
          rfl
         refine one_ (i := 17) (N := none) #[true, true, true, true, true, true, true, true, true, true, true, true, true, true, true, true, true, true] rfl rfl (one_of HT_.out (by kernel_rfl)) (by decide) (fun K hK => ?_)
         have hs38 : w37.cell? ⟨gb276, 0, none⟩ = some (.int .i64 0) := (blk_cell BK276.out 0).trans rfl
         have hfs38 := blk_frozen BK276.out 0
         have hs39 : w37.cell? ⟨gb276, 1, none⟩ = some (.int .i64 0) := (blk_cell BK276.out 1).trans rfl
         have hfs39 := blk_frozen BK276.out 1
         have hs40 : w37.cell? ⟨gb276, 2, none⟩ = some (.int .i64 0) := (blk_cell BK276.out 2).trans rfl
         have hfs40 := blk_frozen BK276.out 2
         have hs41 : w37.cell? ⟨gb276, 3, none⟩ = some (.int .i64 0) := (blk_cell BK276.out 3).trans rfl
         have hfs41 := blk_frozen BK276.out 3
         have hs42 : w37.cell? ⟨gb276, 4, none⟩ = some (.int .i64 0) := (blk_cell BK276.out 4).trans rfl
         have hfs42 := blk_frozen BK276.out 4
         have hs43 : w37.cell? ⟨gb276, 5, none⟩ = some (.int .i64 0) := (blk_cell BK276.out 5).trans rfl
         have hfs43 := blk_frozen BK276.out 5
         refine skip_ (w1 := ?_) (by rfl) rfl ?_ ?_
         rotate_left
         ·
          go_simp
          rfl
         have hne_ad279 : ad279.block ≠ gb276 := Kd.own_blk (Kd.R_ne HO274.out BK276.out (by decide))
         have hst : ∀ (W : World) (k : Nat) (v : Value), (fun w' => w'.cell? ⟨ad279.block, ad279.off + 1, none⟩ = some (.int .i64 (rd t272 1)) ∧ w'.cell? ad279 = some (.int .i64 (rd t272 0)) ∧ w'.cell? ⟨ad279.block, ad279.off + 2, none⟩ = some (.int .i64 (rd t272 2)) ∧ w'.cell? ⟨ad279.block, ad279.off + 3, none⟩ = some (.int .i64 (rd t272 3)) ∧ w'.cell? ⟨ad279.block, ad279.off + 4, none⟩ = some (.int .i64 (rd t272 4))) W → (fun w' => w'.cell? ⟨ad279.block, ad279.off + 1, none⟩ = some (.int .i64 (rd t272 1)) ∧ w'.cell? ad279 = some (.int .i64 (rd t272 0)) ∧ w'.cell? ⟨ad279.block, ad279.off + 2, none⟩ = some (.int .i64 (rd t272 2)) ∧ w'.cell? ⟨ad279.block, ad279.off + 3, none⟩ = some (.int .i64 (rd t272 3)) ∧ w'.cell? ⟨ad279.block, ad279.off + 4, none⟩ = some (.int .i64 (rd t272 4))) (W.setCell ⟨gb276, k, none⟩ v) := fun W k v h => ⟨(cell_far (W := W) (p := ⟨gb276, k, none⟩) (a := ⟨ad279.block, ad279.off + 1, none⟩) hne_ad279 v).trans h.1, (cell_far (W := W) (p := ⟨gb276, k, none⟩) (a := ad279) hne_ad279 v).trans h.2.1, (cell_far (W := W) (p := ⟨gb276, k, none⟩) (a := ⟨ad279.block, ad279.off + 2, none⟩) hne_ad279 v).trans h.2.2.1, (cell_far (W := W) (p := ⟨gb276, k, none⟩) (a := ⟨ad279.block, ad279.off + 3, none⟩) hne_ad279 v).trans h.2.2.2.1, (cell_far (W := W) (p := ⟨gb276, k, none⟩) (a := ⟨ad279.block, ad279.off + 4, none⟩) hne_ad279 v).trans h.2.2.2.2⟩
         refine hK.out _ _ (hst _ _ _ (hst _ _ _ (hst _ _ _ (hst _ _ _ (hst _ _ _ (hst _ _ _ (hHeld))))))) (fun hHeld => ?_)
         clear hK K
         refine done_ (done_of HT_.out (by kernel_rfl)) ?_
         try go_wp2_with (first | ((with_reducible refine gate_callee (f := 67) rfl ?_); refine goesL_ (some 52) rfl rfl Tryd.func67 (by kernel_rfl) rfl #[.string a0, .int .u8 45] rfl (by (try simp only [List.map_toArray, List.map_cons, List.map_nil]); first | done | rfl | (simp only [List.length_drop, List.length_take]; rfl)) ?_; (with_reducible refine (strings_IndexByte.calls a0 45 t284 _ A24.out).mono ?_); rintro e w' ⟨rfl, ⟨nd, rfl⟩⟩; refine ⟨_, rfl, ?_⟩; have hcz44_0 : w37.cell? ⟨gb276, 0, none⟩ = some (.int .i64 0) := (blk_cell BK276.out 0).trans rfl; have hcz44_1 : w37.cell? ⟨gb276, 1, none⟩ = some (.int .i64 0) := (blk_cell BK276.out 1).trans rfl; have hcz44_2 : w37.cell? ⟨gb276, 2, none⟩ = some (.int .i64 0) := (blk_cell BK276.out 2).trans rfl; have hcz44_3 : w37.cell? ⟨gb276, 3, none⟩ = some (.int .i64 0) := (blk_cell BK276.out 3).trans rfl; have hcz44_4 : w37.cell? ⟨gb276, 4, none⟩ = some (.int .i64 0) := (blk_cell BK276.out 4).trans rfl; have hcz44_5 : w37.cell? ⟨gb276, 5, none⟩ = some (.int .i64 0) := (blk_cell BK276.out 5).trans rfl; have hfz44_0 := blk_frozen BK276.out 0; have hfz44_1 := blk_frozen BK276.out 1; have hfz44_2 := blk_frozen BK276.out 2; have hfz44_3 := blk_frozen BK276.out 3; have hfz44_4 := blk_frozen BK276.out 4; have hfz44_5 := blk_frozen BK276.out 5))
         go_meet
         case rel => exact ⟨_, (wrap64 ((rd t272 1) + 1900)), (t278), (rd t272 0), (rd t272 2), (rd t272 3), (rd t272 4), H', ⟨by have := HJ1.out; first | omega | exact Nat.le_refl _⟩, ⟨by (with_reducible repeat (first | refine blk_drewN ?_ _ | refine blk_drew ?_ | refine blk_alloc ?_ _)); refine blk_put (cs := #[.int .i64 (rd t272 1), .int .i64 t278, .int .i64 (rd t272 0), .int .i64 (rd t272 2), .int .i64 (rd t272 3), .int .i64 (rd t272 4)]) ?_ 0 _ rfl; (with_reducible repeat (first | refine blk_drewN ?_ _ | refine blk_drew ?_ | refine blk_alloc ?_ _)); refine blk_put (cs := #[.int .i64 (rd t272 1), .int .i64 t278, .int .i64 (rd t272 0), .int .i64 (rd t272 2), .int .i64 (rd t272 3), .int .i64 0]) ?_ 5 _ rfl; (with_reducible repeat (first | refine blk_drewN ?_ _ | refine blk_drew ?_ | refine blk_alloc ?_ _)); refine blk_put (cs := #[.int .i64 (rd t272 1), .int .i64 t278, .int .i64 (rd t272 0), .int .i64 (rd t272 2), .int .i64 0, .int .i64 0]) ?_ 4 _ rfl; (with_reducible repeat (first | refine blk_drewN ?_ _ | refine blk_drew ?_ | refine blk_alloc ?_ _)); refine blk_put (cs := #[.int .i64 (rd t272 1), .int .i64 t278, .int .i64 (rd t272 0), .int .i64 0, .int .i64 0, .int .i64 0]) ?_ 3 _ rfl; (with_reducible repeat (first | refine blk_drewN ?_ _ | refine blk_drew ?_ | refine blk_alloc ?_ _)); refine blk_put (cs := #[.int .i64 (rd t272 1), .int .i64 t278, .int .i64 0, .int .i64 0, .int .i64 0, .int .i64 0]) ?_ 2 _ rfl; (with_reducible repeat (first | refine blk_drewN ?_ _ | refine blk_drew ?_ | refine blk_alloc ?_ _)); refine blk_put (cs := #[.int .i64 (rd t272 1), .int .i64 0, .int .i64 0, .int .i64 0, .int .i64 0, .int .i64 0]) ?_ 1 _ rfl; (with_reducible repeat (first | refine blk_drewN ?_ _ | refine blk_drew ?_ | refine blk_alloc ?_ _)); refine blk_put (cs := #[.int .i64 0, .int .i64 0, .int .i64 0, .int .i64 0, .int .i64 0, .int .i64 0]) ?_ 0 _ rfl; (with_reducible repeat (first | refine blk_drewN ?_ _ | refine blk_drew ?_ | refine blk_alloc ?_ _)); exact BK276.out⟩, ⟨by repeat (first | (with_reducible first | exact HB.out | apply below_alloc | apply pw_below_drewN | apply below_drew1 | refine below_set ?_ GE276.out) | exact HB.out)⟩⟩
       ·
        rw [if_neg c25] at H
        have c25b0 : decide (0 ≤ t284) = false := decide_eq_false c25
        clear c25
        have H' := Aside0.mk H
        clear H
        try go_wp2_with (first | ((with_reducible refine gate_callee (f := 66) rfl ?_); refine goesL_ (some 33) rfl rfl Tryd.func66 (by kernel_rfl) rfl #[.string (a0.extract (t277 : Int).toNat a0.size)] rfl (by (try simp only [List.map_toArray, List.map_cons, List.map_nil]); first | done | rfl | (simp only [List.length_drop, List.length_take]; rfl)) ?_; (with_reducible refine (impl_monthIn.calls kj1 (a0.extract (t277 : Int).toNat a0.size) t278 _ ?side1 A18.out).mono ?_); (case side1 => exact Tab.below HT.out (by repeat (first | (with_reducible first | exact HB.out | apply below_alloc | apply pw_below_drewN | apply below_drew1 | refine below_set ?_ GE276.out) | exact HB.out))); rintro e w45 ⟨rfl, hb⟩; refine ⟨_, rfl, ?_⟩; have n0_ := Aside0.mk (Kd.R_below (by (with_reducible repeat (first | apply Kd.R_alloc | apply Kd.R_drewN | apply Kd.R_drew)); exact HO274.out) hb); have n1_ := Aside0.mk (blk_below (g := gb276) (o := .cells #[.int .i64 0, .int .i64 0, .int .i64 0, .int .i64 0, .int .i64 0, .int .i64 0] 30 (0, 0)) (by (with_reducible repeat (first | refine blk_drewN ?_ _ | refine blk_drew ?_ | refine blk_alloc ?_ _)); exact BK276.out) hb); have n2_ := Aside0.mk (below_step (by repeat (first | (with_reducible first | exact HB.out | apply below_alloc | apply pw_below_drewN | apply below_drew1 | refine below_set ?_ GE276.out) | exact HB.out)) hb); clear HO274; clear BK276; clear HB; have HO274 := n0_; have BK276 := n1_; have HB := n2_; clear n0_ n1_ n2_; (try clear hb); (try clear hb2); (try clear hk); (try clear hi)))
        have n0_ := Aside0.mk (Kd.R_drew HO274.out)
        have n1_ := Aside0.mk (blk_drew BK276.out)
        have n2_ := Aside0.mk (below_drew1 HB.out)
        clear HO274
        clear BK276
        clear HB
        have HO274 := n0_
        have BK276 := n1_
        have HB := n2_
        clear n0_ n1_ n2_
        have p279 : 0 ≤ (1 : Int) := (by omega)
        have q279 : 1 < (t272.length : Int) := of_decide_eq_true (by first | (with_reducible assumption) | assumption)
        obtain ⟨ad279, e279, hx279_0⟩ := Kd.at_int (Kd.R_reads' HO274.out).2.2 1 p279 q279
        cases e279
        (try simp only [show (1 : Int).toNat = 1 from rfl, Nat.reduceMul, Nat.reduceEqDiff, Go.Addr.add, ↓reduceIte] at hx279_0)
        have qi279 : (1 < t272.length) = True := eq_true (by omega)
        (try rw [show ((1 : Int)).toNat = 1 from rfl] at hx279_0)
        replace p279 := eq_true p279
        replace q279 := eq_true q279
        have p280 : 0 ≤ (0 : Int) := (by omega)
        have q280 : 0 < (t272.length : Int) := of_decide_eq_true (by first | (with_reducible assumption) | assumption)
        obtain ⟨ad280, e280, hx280_0⟩ := Kd.at_int (Kd.R_reads' HO274.out).2.2 0 p280 q280
        obtain rfl : ad279 = ad280 := (by injection e280)
        have qi280 : (0 < t272.length) = True := eq_true (by omega)
        (try rw [show ((0 : Int)).toNat = 0 from rfl] at hx280_0)
        (try rw [Addr.add_zero'] at hx280_0)
        replace p280 := eq_true p280
        replace q280 := eq_true q280
        have p281 : 0 ≤ (2 : Int) := (by omega)
        have q281 : 2 < (t272.length : Int) := of_decide_eq_true (by first | (with_reducible assumption) | assumption)
        obtain ⟨ad281, e281, hx281_0⟩ := Kd.at_int (Kd.R_reads' HO274.out).2.2 2 p281 q281
        obtain rfl : ad279 = ad281 := (by injection e281)
        (try simp only [show (2 : Int).toNat = 2 from rfl, Nat.reduceMul, Nat.reduceEqDiff, Go.Addr.add, ↓reduceIte] at hx281_0)
        have qi281 : (2 < t272.length) = True := eq_true (by omega)
        (try rw [show ((2 : Int)).toNat = 2 from rfl] at hx281_0)
        replace p281 := eq_true p281
        replace q281 := eq_true q281
        have p282 : 0 ≤ (3 : Int) := (by omega)
        have q282 : 3 < (t272.length : Int) := of_decide_eq_true (by first | (with_reducible assumption) | assumption)
        obtain ⟨ad282, e282, hx282_0⟩ := Kd.at_int (Kd.R_reads' HO274.out).2.2 3 p282 q282
        obtain rfl : ad279 = ad282 := (by injection e282)
        (try simp only [show (3 : Int).toNat = 3 from rfl, Nat.reduceMul, Nat.reduceEqDiff, Go.Addr.add, ↓reduceIte] at hx282_0)
        have qi282 : (3 < t272.length) = True := eq_true (by omega)
        (try rw [show ((3 : Int)).toNat = 3 from rfl] at hx282_0)
        replace p282 := eq_true p282
        replace q282 := eq_true q282
        have p283 : 0 ≤ (4 : Int) := (by omega)
        have q283 : 4 < (t272.length : Int) := of_decide_eq_true (by first | (with_reducible assumption) | assumption)
        obtain ⟨ad283, e283, hx283_0⟩ := Kd.at_int (Kd.R_reads' HO274.out).2.2 4 p283 q283
        obtain rfl : ad279 = ad283 := (by injection e283)
        (try simp only [show (4 : Int).toNat = 4 from rfl, Nat.reduceMul, Nat.reduceEqDiff, Go.Addr.add, ↓reduceIte] at hx283_0)
        have qi283 : (4 < t272.length) = True := eq_true (by omega)
        (try rw [show ((4 : Int)).toNat = 4 from rfl] at hx283_0)
        replace p283 := eq_true p283
        replace q283 := eq_true q283
        refine start_ (n := 18) (S := fun w' => w'.cell? ⟨ad279.block, ad279.off + 1, none⟩ = some (.int .i64 (rd t272 1)) ∧ w'.cell? ad279 = some (.int .i64 (rd t272 0)) ∧ w'.cell? ⟨ad279.block, ad279.off + 2, none⟩ = some (.int .i64 (rd t272 2)) ∧ w'.cell? ⟨ad279.block, ad279.off + 3, none⟩ = some (.int .i64 (rd t272 3)) ∧ w'.cell? ⟨ad279.block, ad279.off + 4, none⟩ = some (.int .i64 (rd t272 4))) (ds := []) #[false, false, false, false, false, false, false, false, false, false, false, false, false, false, false, false, false, false] (by kernel_rfl) rfl rfl ⟨hx279_0, hx280_0, hx281_0, hx282_0, hx283_0⟩ (fun hHeld => ?_); refine with_tabW impl_ReadHttpDate.tab11 impl_ReadHttpDate.bits11 (fun HT_ HW_ => ?_)
        generalize w45.drew = w46 at HO274 BK276 HB hx279_0 hx280_0 hx281_0 hx282_0 hx283_0 hHeld ⊢
        refine pure_ (i := 0) (N := some 34) (v := ?_) (a' := ?_) #[true, false, false, false, false, false, false, false, false, false, false, false, false, false, false, false, false, false] rfl rfl (any_of HT_.out (by kernel_rfl)) (fun _ _ _ h => h) (Or.inl ⟨by rfl, ?_⟩) ?_ ?_
        rotate_left
        ·
         intro w'
         go_simp
         with_reducible rfl
        rotate_left
        ·
         simp only [Act.put, List.setIfInBounds_toArray, List.set_cons_zero, List.set_cons_succ, i64_w, i32_w]
         rfl
        refine pure_ (i := 1) (N := some 35) (v := ?_) (a' := ?_) #[true, true, false, false, false, false, false, false, false, false, false, false, false, false, false, false, false, false] rfl rfl (any_of HT_.out (by kernel_rfl)) (fun _ _ _ h => h) (Or.inl ⟨by rfl, ?_⟩) ?_ ?_
        rotate_left
        ·
         intro w'
         go_simp
         with_reducible rfl
        rotate_left
        ·
         simp only [Act.put, List.setIfInBounds_toArray, List.set_cons_zero, List.set_cons_succ, i64_w, i32_w]
         rfl
        refine pure_ (i := 3) (N := some 37) (v := ?_) (a' := ?_) #[true, true, false, true, false, false, false, false, false, false, false, false, false, false, false, false, false, false] rfl rfl (any_of HT_.out (by kernel_rfl)) (fun _ _ _ h => h) (Or.inl ⟨by rfl, ?_⟩) ?_ ?_
        rotate_left
        ·
         intro w'
         go_simp
         with_reducible rfl
        rotate_left
        ·
         simp only [Act.put, List.setIfInBounds_toArray, List.set_cons_zero, List.set_cons_succ, i64_w, i32_w]
         rfl
        refine pure_ (i := 4) (N := some 38) (v := ?_) (a' := ?_) #[true, true, false, true, true, false, false, false, false, false, false, false, false, false, false, false, false, false] rfl rfl (any_of HT_.out (by kernel_rfl)) (fun _ _ _ h => h) (Or.inl ⟨by rfl, ?_⟩) ?_ ?_
        rotate_left
        ·
         intro w'
         go_simp
         with_reducible rfl
        rotate_left
        ·
         simp only [Act.put, List.setIfInBounds_toArray, List.set_cons_zero, List.set_cons_succ, i64_w, i32_w]
         rfl
        refine pure_ (i := 5) (N := some 39) (v := ?_) (a' := ?_) #[true, true, false, true, true, true, false, false, false, false, false, false, false, false, false, false, false, false] rfl rfl (any_of HT_.out (by kernel_rfl)) (fun _ _ _ h => h) (Or.inl ⟨by rfl, ?_⟩) ?_ ?_
        rotate_left
        ·
         intro w'
         go_simp
         with_reducible rfl
        rotate_left
        ·
         simp only [Act.put, List.setIfInBounds_toArray, List.set_cons_zero, List.set_cons_succ, i64_w, i32_w]
         rfl
        refine pure_ (i := 7) (N := some 41) (v := ?_) (a' := ?_) #[true, true, false, true, true, true, false, true, false, false, false, false, false, false, false, false, false, false] rfl rfl (any_of HT_.out (by kernel_rfl)) (fun _ _ _ h => h) (Or.inl ⟨by rfl, ?_⟩) ?_ ?_
        rotate_left
        ·
         intro w'
         go_simp
         with_reducible rfl
        rotate_left
        ·
         simp only [Act.put, List.setIfInBounds_toArray, List.set_cons_zero, List.set_cons_succ, i64_w, i32_w]
         rfl
        refine pure_ (i := 8) (N := some 42) (v := ?_) (a' := ?_) #[true, true, false, true, true, true, false, true, true, false, false, false, false, false, false, false, false, false] rfl rfl (any_of HT_.out (by kernel_rfl)) (fun _ _ _ h => h) (Or.inl ⟨by rfl, ?_⟩) ?_ ?_
        rotate_left
        ·
         intro w'
         go_simp
         with_reducible rfl
        rotate_left
        ·
         simp only [Act.put, List.setIfInBounds_toArray, List.set_cons_zero, List.set_cons_succ, i64_w, i32_w]
         rfl
        refine pure_ (i := 10) (N := some 44) (v := ?_) (a' := ?_) #[true, true, false, true, true, true, false, true, true, false, true, false, false, false, false, false, false, false] rfl rfl (any_of HT_.out (by kernel_rfl)) (fun _ _ _ h => h) (Or.inl ⟨by rfl, ?_⟩) ?_ ?_
        rotate_left
        ·
         intro w'
         go_simp
         with_reducible rfl
        rotate_left
        ·
         simp only [Act.put, List.setIfInBounds_toArray, List.set_cons_zero, List.set_cons_succ, i64_w, i32_w]
         rfl
        refine pure_ (i := 11) (N := some 45) (v := ?_) (a' := ?_) #[true, true, false, true, true, true, false, true, true, false, true, true, false, false, false, false, false, false] rfl rfl (any_of HT_.out (by kernel_rfl)) (fun _ _ _ h => h) (Or.inl ⟨by rfl, ?_⟩) ?_ ?_
        rotate_left
        ·
         intro w'
         go_simp
         with_reducible rfl
        rotate_left
        ·
         simp only [Act.put, List.setIfInBounds_toArray, List.set_cons_zero, List.set_cons_succ, i64_w, i32_w]
         rfl
        refine pure_ (i := 13) (N := some 47) (v := ?_) (a' := ?_) #[true, true, false, true, true, true, false, true, true, false, true, true, false, true, false, false, false, false] rfl rfl (any_of HT_.out (by kernel_rfl)) (fun _ _ _ h => h) (Or.inl ⟨by rfl, ?_⟩) ?_ ?_
        rotate_left
        ·
         intro w'
         go_simp
         with_reducible rfl
        rotate_left
        ·
         simp only [Act.put, List.setIfInBounds_toArray, List.set_cons_zero, List.set_cons_succ, i64_w, i32_w]
         rfl
        refine pure_ (i := 14) (N := some 48) (v := ?_) (a' := ?_) #[true, true, false, true, true, true, false, true, true, false, true, true, false, true, true, false, false, false] rfl rfl (any_of HT_.out (by kernel_rfl)) (fun _ _ _ h => h) (Or.inl ⟨by rfl, ?_⟩) ?_ ?_
        rotate_left
        ·
         intro w'
         go_simp
         with_reducible rfl
        rotate_left
        ·
         simp only [Act.put, List.setIfInBounds_toArray, List.set_cons_zero, List.set_cons_succ, i64_w, i32_w]
         rfl
        refine take_ (i := 2) (N := some 36) (v := ?_) (a' := ?_) #[true, true, true, true, true, true, false, true, true, false, true, true, false, true, true, false, false, false] rfl rfl (take_ofW HT_.out HW_.out (by kernel_rfl)) (fun _ _ _ h => h) (Or.inl ⟨by rfl, ?_⟩) hHeld ?_ ?_
        rotate_left
        ·
         rintro w' ⟨s0, s1, s2, s3, s4⟩
         go_simp
         with_reducible rfl
        rotate_left
        ·
         simp only [Act.put, List.setIfInBounds_toArray, List.set_cons_zero, List.set_cons_succ, i64_w, i32_w]
         rfl
        refine take_ (i := 6) (N := some 40) (v := ?_) (a' := ?_) #[true, true, true, true, true, true, true, true, true, false, true, true, false, true, true, false, false, false] rfl rfl (take_ofW HT_.out HW_.out (by kernel_rfl)) (fun _ _ _ h => h) (Or.inl ⟨by rfl, ?_⟩) hHeld ?_ ?_
        rotate_left
        ·
         rintro w' ⟨s0, s1, s2, s3, s4⟩
         go_simp
         with_reducible rfl
        rotate_left
        ·
         simp only [Act.put, List.setIfInBounds_toArray, List.set_cons_zero, List.set_cons_succ, i64_w, i32_w]
         rfl
        refine take_ (i := 9) (N := some 43) (v := ?_) (a' := ?_) #[true, true, true, true, true, true, true, true, true, true, true, true, false, true, true, false, false, false] rfl rfl (take_ofW HT_.out HW_.out (by kernel_rfl)) (fun _ _ _ h => h) (Or.inl ⟨by rfl, ?_⟩) hHeld ?_ ?_
        rotate_left
        ·
         rintro w' ⟨s0, s1, s2, s3, s4⟩
         go_simp
         with_reducible rfl
        rotate_left
        ·
         simp only [Act.put, List.setIfInBounds_toArray, List.set_cons_zero, List.set_cons_succ, i64_w, i32_w]
         rfl
        refine take_ (i := 12) (N := some 46) (v := ?_) (a' := ?_) #[true, true, true, true, true, true, true, true, true, true, true, true, true, true, true, false, false, false] rfl rfl (take_ofW HT_.out HW_.out (by kernel_rfl)) (fun _ _ _ h => h) (Or.inl ⟨by rfl, ?_⟩) hHeld ?_ ?_
        rotate_left
        ·
         rintro w' ⟨s0, s1, s2, s3, s4⟩
         go_simp
         with_reducible rfl
        rotate_left
        ·
         simp only [Act.put, List.setIfInBounds_toArray, List.set_cons_zero, List.set_cons_succ, i64_w, i32_w]
         rfl
        refine take_ (i := 15) (N := some 49) (v := ?_) (a' := ?_) #[true, true, true, true, true, true, true, true, true, true, true, true, true, true, true, true, false, false] rfl rfl (take_ofW HT_.out HW_.out (by kernel_rfl)) (fun _ _ _ h => h) (Or.inl ⟨by rfl, ?_⟩) hHeld ?_ ?_
        rotate_left
        ·
         rintro w' ⟨s0, s1, s2, s3, s4⟩
         go_simp
         with_reducible rfl
        rotate_left
        ·
         simp only [Act.put, List.setIfInBounds_toArray, List.set_cons_zero, List.set_cons_succ, i64_w, i32_w]
         rfl
        refine pure_ (i := 16) (N := some 50) (v := ?_) (a' := ?_) #[true, true, true, true, true, true, true, true, true, true, true, true, true, true, true, true, true, false] rfl rfl (any_of HT_.out (by kernel_rfl)) (fun _ _ _ h => h) (Or.inl ⟨by rfl, ?_⟩) ?_ ?_
        rotate_left
        ·
         intro w'
         go_simp
         with_reducible rfl
        rotate_left
        ·
         simp only [Act.put, List.setIfInBounds_toArray, List.set_cons_zero, List.set_cons_succ, i64_w, i32_w]
         rfl
        refine one_ (i := 17) (N := none) #[true, true, true, true, true, true, true, true, true, true, true, true, true, true, true, true, true, true] rfl rfl (one_of HT_.out (by kernel_rfl)) (by decide) (fun K hK => ?_)
        have hs47 : w46.cell? ⟨gb276, 0, none⟩ = some (.int .i64 0) := (blk_cell BK276.out 0).trans rfl
        have hfs47 := blk_frozen BK276.out 0
        have hs48 : w46.cell? ⟨gb276, 1, none⟩ = some (.int .i64 0) := (blk_cell BK276.out 1).trans rfl
        have hfs48 := blk_frozen BK276.out 1
        have hs49 : w46.cell? ⟨gb276, 2, none⟩ = some (.int .i64 0) := (blk_cell BK276.out 2).trans rfl
        have hfs49 := blk_frozen BK276.out 2
        have hs50 : w46.cell? ⟨gb276, 3, none⟩ = some (.int .i64 0) := (blk_cell BK276.out 3).trans rfl
        have hfs50 := blk_frozen BK276.out 3
        have hs51 : w46.cell? ⟨gb276, 4, none⟩ = some (.int .i64 0) := (blk_cell BK276.out 4).trans rfl
        have hfs51 := blk_frozen BK276.out 4
        have hs52 : w46.cell? ⟨gb276, 5, none⟩ = some (.int .i64 0) := (blk_cell BK276.out 5).trans rfl
        have hfs52 := blk_frozen BK276.out 5
        refine skip_ (w1 := ?_) (by rfl) rfl ?_ ?_
        rotate_left
        ·
         go_simp
         rfl
        have hne_ad279 : ad279.block ≠ gb276 := Kd.own_blk (Kd.R_ne HO274.out BK276.out (by decide))
        have hst : ∀ (W : World) (k : Nat) (v : Value), (fun w' => w'.cell? ⟨ad279.block, ad279.off + 1, none⟩ = some (.int .i64 (rd t272 1)) ∧ w'.cell? ad279 = some (.int .i64 (rd t272 0)) ∧ w'.cell? ⟨ad279.block, ad279.off + 2, none⟩ = some (.int .i64 (rd t272 2)) ∧ w'.cell? ⟨ad279.block, ad279.off + 3, none⟩ = some (.int .i64 (rd t272 3)) ∧ w'.cell? ⟨ad279.block, ad279.off + 4, none⟩ = some (.int .i64 (rd t272 4))) W → (fun w' => w'.cell? ⟨ad279.block, ad279.off + 1, none⟩ = some (.int .i64 (rd t272 1)) ∧ w'.cell? ad279 = some (.int .i64 (rd t272 0)) ∧ w'.cell? ⟨ad279.block, ad279.off + 2, none⟩ = some (.int .i64 (rd t272 2)) ∧ w'.cell? ⟨ad279.block, ad279.off + 3, none⟩ = some (.int .i64 (rd t272 3)) ∧ w'.cell? ⟨ad279.block, ad279.off + 4, none⟩ = some (.int .i64 (rd t272 4))) (W.setCell ⟨gb276, k, none⟩ v) := fun W k v h => ⟨(cell_far (W := W) (p := ⟨gb276, k, none⟩) (a := ⟨ad279.block, ad279.off + 1, none⟩) hne_ad279 v).trans h.1, (cell_far (W := W) (p := ⟨gb276, k, none⟩) (a := ad279) hne_ad279 v).trans h.2.1, (cell_far (W := W) (p := ⟨gb276, k, none⟩) (a := ⟨ad279.block, ad279.off + 2, none⟩) hne_ad279 v).trans h.2.2.1, (cell_far (W := W) (p := ⟨gb276, k, none⟩) (a := ⟨ad279.block, ad279.off + 3, none⟩) hne_ad279 v).trans h.2.2.2.1, (cell_far (W := W) (p := ⟨gb276, k, none⟩) (a := ⟨ad279.block, ad279.off + 4, none⟩) hne_ad279 v).trans h.2.2.2.2⟩
        refine hK.out _ _ (hst _ _ _ (hst _ _ _ (hst _ _ _ (hst _ _ _ (hst _ _ _ (hst _ _ _ (hHeld))))))) (fun hHeld => ?_)
        clear hK K
        refine done_ (done_of HT_.out (by kernel_rfl)) ?_
        try go_wp2_with (first | ((with_reducible refine gate_callee (f := 67) rfl ?_); refine goesL_ (some 52) rfl rfl Tryd.func67 (by kernel_rfl) rfl #[.string a0, .int .u8 45] rfl (by (try simp only [List.map_toArray, List.map_cons, List.map_nil]); first | done | rfl | (simp only [List.length_drop, List.length_take]; rfl)) ?_; (with_reducible refine (strings_IndexByte.calls a0 45 t284 _ A24.out).mono ?_); rintro e w' ⟨rfl, ⟨nd, rfl⟩⟩; refine ⟨_, rfl, ?_⟩))
        go_meet
        case rel => exact ⟨_, (rd t272 1), (t278), (rd t272 0), (rd t272 2), (rd t272 3), (rd t272 4), H', ⟨by have := HJ1.out; first | omega | exact Nat.le_refl _⟩, ⟨by (with_reducible repeat (first | refine blk_drewN ?_ _ | refine blk_drew ?_ | refine blk_alloc ?_ _)); refine blk_put (cs := #[.int .i64 (rd t272 1), .int .i64 t278, .int .i64 (rd t272 0), .int .i64 (rd t272 2), .int .i64 (rd t272 3), .int .i64 0]) ?_ 5 _ rfl; (with_reducible repeat (first | refine blk_drewN ?_ _ | refine blk_drew ?_ | refine blk_alloc ?_ _)); refine blk_put (cs := #[.int .i64 (rd t272 1), .int .i64 t278, .int .i64 (rd t272 0), .int .i64 (rd t272 2), .int .i64 0, .int .i64 0]) ?_ 4 _ rfl; (with_reducible repeat (first | refine blk_drewN ?_ _ | refine blk_drew ?_ | refine blk_alloc ?_ _)); refine blk_put (cs := #[.int .i64 (rd t272 1), .int .i64 t278, .int .i64 (rd t272 0), .int .i64 0, .int .i64 0, .int .i64 0]) ?_ 3 _ rfl; (with_reducible repeat (first | refine blk_drewN ?_ _ | refine blk_drew ?_ | refine blk_alloc ?_ _)); refine blk_put (cs := #[.int .i64 (rd t272 1), .int .i64 t278, .int .i64 0, .int .i64 0, .int .i64 0, .int .i64 0]) ?_ 2 _ rfl; (with_reducible repeat (first | refine blk_drewN ?_ _ | refine blk_drew ?_ | refine blk_alloc ?_ _)); refine blk_put (cs := #[.int .i64 (rd t272 1), .int .i64 0, .int .i64 0, .int .i64 0, .int .i64 0, .int .i64 0]) ?_ 1 _ rfl; (with_reducible repeat (first | refine blk_drewN ?_ _ | refine blk_drew ?_ | refine blk_alloc ?_ _)); refine blk_put (cs := #[.int .i64 0, .int .i64 0, .int .i64 0, .int .i64 0, .int .i64 0, .int .i64 0]) ?_ 0 _ rfl; (with_reducible repeat (first | refine blk_drewN ?_ _ | refine blk_drew ?_ | refine blk_alloc ?_ _)); exact BK276.out⟩, ⟨by repeat (first | (with_reducible first | exact HB.out | apply below_alloc | apply pw_below_drewN | apply below_drew1 | refine below_set ?_ GE276.out) | exact HB.out)⟩⟩
      ·
       rw [if_neg c15] at H
       have c15b0 : decide (0 ≤ t277) = false := decide_eq_false c15
       clear c15
       (first | rw [c15b0] | (simp only [i64_w, i32_w]; rw [c15b0]) | skip)
       have c53 : 4 < (t272.length : Int) := Classical.byContradiction fun h_ => by rw [if_neg h_] at H; exact absurd H (by simp)
       rw [if_pos c53] at H
       have c53b0 : decide (4 < (t272.length : Int)) = true := decide_eq_true c53
       have c53b1 : decide (4 < t272.length) = true := decide_eq_true (by omega)
       clear c53
       have c54 : 0 < (t272.length : Int) := Classical.byContradiction fun h_ => by rw [if_neg h_] at H; exact absurd H (by simp)
       rw [if_pos c54] at H
       have c54b0 : decide (0 < (t272.length : Int)) = true := decide_eq_true c54
       have c54b1 : decide (0 < t272.length) = true := decide_eq_true (by omega)
       clear c54
       have c55 : 1 < (t272.length : Int) := Classical.byContradiction fun h_ => by rw [if_neg h_] at H; exact absurd H (by simp)
       rw [if_pos c55] at H
       have c55b0 : decide (1 < (t272.length : Int)) = true := decide_eq_true c55
       have c55b1 : decide (1 < t272.length) = true := decide_eq_true (by omega)
       clear c55
       have c56 : 2 < (t272.length : Int) := Classical.byContradiction fun h_ => by rw [if_neg h_] at H; exact absurd H (by simp)
       rw [if_pos c56] at H
       have c56b0 : decide (2 < (t272.length : Int)) = true := decide_eq_true c56
       have c56b1 : decide (2 < t272.length) = true := decide_eq_true (by omega)
       clear c56
       have c57 : 3 < (t272.length : Int) := Classical.byContradiction fun h_ => by rw [if_neg h_] at H; exact absurd H (by simp)
       rw [if_pos c57] at H
       have c57b0 : decide (3 < (t272.length : Int)) = true := decide_eq_true c57
       have c57b1 : decide (3 < t272.length) = true := decide_eq_true (by omega)
       clear c57
       have H' := Aside0.mk H
       clear H
       try go_wp2
       have n0_ := Aside0.mk (Kd.R_drew (Kd.R_drewN HO274.out nd))
       have n1_ := Aside0.mk (blk_drew (blk_at (m := nd) rfl BK276.out))
       have n2_ := Aside0.mk (below_drew1 (below_at (m := nd) rfl HB.out))
       clear HO274
       clear BK276
       clear HB
       have HO274 := n0_
       have BK276 := n1_
       have HB := n2_
       clear n0_ n1_ n2_
       have p285 : 0 ≤ (4 : Int) := (by omega)
       have q285 : 4 < (t272.length : Int) := of_decide_eq_true (by first | (with_reducible assumption) | assumption)
       obtain ⟨ad285, e285, hx285_0⟩ := Kd.at_int (Kd.R_reads' HO274.out).2.2 4 p285 q285
       cases e285
       (try simp only [show (4 : Int).toNat = 4 from rfl, Nat.reduceMul, Nat.reduceEqDiff, Go.Addr.add, ↓reduceIte] at hx285_0)
       have qi285 : (4 < t272.length) = True := eq_true (by omega)
       (try rw [show ((4 : Int)).toNat = 4 from rfl] at hx285_0)
       replace p285 := eq_true p285
       replace q285 := eq_true q285
       have p286 : 0 ≤ (0 : Int) := (by omega)
       have q286 : 0 < (t272.length : Int) := of_decide_eq_true (by first | (with_reducible assumption) | assumption)
       obtain ⟨ad286, e286, hx286_0⟩ := Kd.at_int (Kd.R_reads' HO274.out).2.2 0 p286 q286
       obtain rfl : ad285 = ad286 := (by injection e286)
       have qi286 : (0 < t272.length) = True := eq_true (by omega)
       (try rw [show ((0 : Int)).toNat = 0 from rfl] at hx286_0)
       (try rw [Addr.add_zero'] at hx286_0)
       replace p286 := eq_true p286
       replace q286 := eq_true q286
       have p287 : 0 ≤ (1 : Int) := (by omega)
       have q287 : 1 < (t272.length : Int) := of_decide_eq_true (by first | (with_reducible assumption) | assumption)
       obtain ⟨ad287, e287, hx287_0⟩ := Kd.at_int (Kd.R_reads' HO274.out).2.2 1 p287 q287
       obtain rfl : ad285 = ad287 := (by injection e287)
       (try simp only [show (1 : Int).toNat = 1 from rfl, Nat.reduceMul, Nat.reduceEqDiff, Go.Addr.add, ↓reduceIte] at hx287_0)
       have qi287 : (1 < t272.length) = True := eq_true (by omega)
       (try rw [show ((1 : Int)).toNat = 1 from rfl] at hx287_0)
       replace p287 := eq_true p287
       replace q287 := eq_true q287
       have p288 : 0 ≤ (2 : Int) := (by omega)
       have q288 : 2 < (t272.length : Int) := of_decide_eq_true (by first | (with_reducible assumption) | assumption)
       obtain ⟨ad288, e288, hx288_0⟩ := Kd.at_int (Kd.R_reads' HO274.out).2.2 2 p288 q288
       obtain rfl : ad285 = ad288 := (by injection e288)
       (try simp only [show (2 : Int).toNat = 2 from rfl, Nat.reduceMul, Nat.reduceEqDiff, Go.Addr.add, ↓reduceIte] at hx288_0)
       have qi288 : (2 < t272.length) = True := eq_true (by omega)
       (try rw [show ((2 : Int)).toNat = 2 from rfl] at hx288_0)
       replace p288 := eq_true p288
       replace q288 := eq_true q288
       have p289 : 0 ≤ (3 : Int) := (by omega)
       have q289 : 3 < (t272.length : Int) := of_decide_eq_true (by first | (with_reducible assumption) | assumption)
       obtain ⟨ad289, e289, hx289_0⟩ := Kd.at_int (Kd.R_reads' HO274.out).2.2 3 p289 q289
       obtain rfl : ad285 = ad289 := (by injection e289)
       (try simp only [show (3 : Int).toNat = 3 from rfl, Nat.reduceMul, Nat.reduceEqDiff, Go.Addr.add, ↓reduceIte] at hx289_0)
       have qi289 : (3 < t272.length) = True := eq_true (by omega)
       (try rw [show ((3 : Int)).toNat = 3 from rfl] at hx289_0)
       replace p289 := eq_true p289
       replace q289 := eq_true q289
       refine start_ (n := 18) (S := fun w' => w'.cell? ⟨ad285.block, ad285.off + 4, none⟩ = some (.int .i64 (rd t272 4)) ∧ w'.cell? ad285 = some (.int .i64 (rd t272 0)) ∧ w'.cell? ⟨ad285.block, ad285.off + 1, none⟩ = some (.int .i64 (rd t272 1)) ∧ w'.cell? ⟨ad285.block, ad285.off + 2, none⟩ = some (.int .i64 (rd t272 2)) ∧ w'.cell? ⟨ad285.block, ad285.off + 3, none⟩ = some (.int .i64 (rd t272 3))) (ds := []) #[false, false, false, false, false, false, false, false, false, false, false, false, false, false, false, false, false, false] (by kernel_rfl) rfl rfl ⟨hx285_0, hx286_0, hx287_0, hx288_0, hx289_0⟩ (fun hHeld => ?_); refine with_tabW impl_ReadHttpDate.tab16 impl_ReadHttpDate.bits16 (fun HT_ HW_ => ?_)
       generalize (w14.drewN nd).drew = w58 at HO274 BK276 HB hx285_0 hx286_0 hx287_0 hx288_0 hx289_0 hHeld ⊢
       refine pure_ (i := 0) (N := some 65) (v := ?_) (a' := ?_) #[true, false, false, false, false, false, false, false, false, false, false, false, false, false, false, false, false, false] rfl rfl (any_of HT_.out (by kernel_rfl)) (fun _ _ _ h => h) (Or.inl ⟨by rfl, ?_⟩) ?_ ?_
       rotate_left
       ·
        intro w'
        go_simp
        with_reducible rfl
       rotate_left
       ·
        simp only [Act.put, List.setIfInBounds_toArray, List.set_cons_zero, List.set_cons_succ, i64_w, i32_w]
        rfl
       refine pure_ (i := 1) (N := some 66) (v := ?_) (a' := ?_) #[true, true, false, false, false, false, false, false, false, false, false, false, false, false, false, false, false, false] rfl rfl (any_of HT_.out (by kernel_rfl)) (fun _ _ _ h => h) (Or.inl ⟨by rfl, ?_⟩) ?_ ?_
       rotate_left
       ·
        intro w'
        go_simp
        with_reducible rfl
       rotate_left
       ·
        simp only [Act.put, List.setIfInBounds_toArray, List.set_cons_zero, List.set_cons_succ, i64_w, i32_w]
        rfl
       refine pure_ (i := 3) (N := some 68) (v := ?_) (a' := ?_) #[true, true, false, true, false, false, false, false, false, false, false, false, false, false, false, false, false, false] rfl rfl (any_of HT_.out (by kernel_rfl)) (fun _ _ _ h => h) (Or.inl ⟨by rfl, ?_⟩) ?_ ?_
       rotate_left
       ·
        intro w'
        go_simp
        with_reducible rfl
       rotate_left
       ·
        simp only [Act.put, List.setIfInBounds_toArray, List.set_cons_zero, List.set_cons_succ, i64_w, i32_w]
        rfl
       refine pure_ (i := 4) (N := some 69) (v := ?_) (a' := ?_) #[true, true, false, true, true, false, false, false, false, false, false, false, false, false, false, false, false, false] rfl rfl (any_of HT_.out (by kernel_rfl)) (fun _ _ _ h => h) (Or.inl ⟨by rfl, ?_⟩) ?_ ?_
       rotate_left
       ·
        intro w'
        go_simp
        with_reducible rfl
       rotate_left
       ·
        simp only [Act.put, List.setIfInBounds_toArray, List.set_cons_zero, List.set_cons_succ, i64_w, i32_w]
        rfl
       refine pure_ (i := 5) (N := some 70) (v := ?_) (a' := ?_) #[true, true, false, true, true, true, false, false, false, false, false, false, false, false, false, false, false, false] rfl rfl (any_of HT_.out (by kernel_rfl)) (fun _ _ _ h => h) (Or.inl ⟨by rfl, ?_⟩) ?_ ?_
       rotate_left
       ·
        intro w'
        go_simp
        with_reducible rfl
       rotate_left
       ·
        simp only [Act.put, List.setIfInBounds_toArray, List.set_cons_zero, List.set_cons_succ, i64_w, i32_w]
        rfl
       refine pure_ (i := 7) (N := some 72) (v := ?_) (a' := ?_) #[true, true, false, true, true, true, false, true, false, false, false, false, false, false, false, false, false, false] rfl rfl (any_of HT_.out (by kernel_rfl)) (fun _ _ _ h => h) (Or.inl ⟨by rfl, ?_⟩) ?_ ?_
       rotate_left
       ·
        intro w'
        go_simp
        with_reducible rfl
       rotate_left
       ·
        simp only [Act.put, List.setIfInBounds_toArray, List.set_cons_zero, List.set_cons_succ, i64_w, i32_w]
        rfl
       refine pure_ (i := 8) (N := some 73) (v := ?_) (a' := ?_) #[true, true, false, true, true, true, false, true, true, false, false, false, false, false, false, false, false, false] rfl rfl (any_of HT_.out (by kernel_rfl)) (fun _ _ _ h => h) (Or.inl ⟨by rfl, ?_⟩) ?_ ?_
       rotate_left
       ·
        intro w'
        go_simp
        with_reducible rfl
       rotate_left
       ·
        simp only [Act.put, List.setIfInBounds_toArray, List.set_cons_zero, List.set_cons_succ, i64_w, i32_w]
        rfl
       refine pure_ (i := 10) (N := some 75) (v := ?_) (a' := ?_) #[true, true, false, true, true, true, false, true, true, false, true, false, false, false, false, false, false, false] rfl rfl (any_of HT_.out (by kernel_rfl)) (fun _ _ _ h => h) (Or.inl ⟨by rfl, ?_⟩) ?_ ?_
       rotate_left
       ·
        intro w'
        go_simp
        with_reducible rfl
       rotate_left
       ·
        simp only [Act.put, List.setIfInBounds_toArray, List.set_cons_zero, List.set_cons_succ, i64_w, i32_w]
        rfl
       refine pure_ (i := 11) (N := some 76) (v := ?_) (a' := ?_) #[true, true, false, true, true, true, false, true, true, false, true, true, false, false, false, false, false, false] rfl rfl (any_of HT_.out (by kernel_rfl)) (fun _ _ _ h => h) (Or.inl ⟨by rfl, ?_⟩) ?_ ?_
       rotate_left
       ·
        intro w'
        go_simp
        with_reducible rfl
       rotate_left
       ·
        simp only [Act.put, List.setIfInBounds_toArray, List.set_cons_zero, List.set_cons_succ, i64_w, i32_w]
        rfl
       refine pure_ (i := 13) (N := some 78) (v := ?_) (a' := ?_) #[true, true, false, true, true, true, false, true, true, false, true, true, false, true, false, false, false, false] rfl rfl (any_of HT_.out (by kernel_rfl)) (fun _ _ _ h => h) (Or.inl ⟨by rfl, ?_⟩) ?_ ?_
       rotate_left
       ·
        intro w'
        go_simp
        with_reducible rfl
       rotate_left
       ·
        simp only [Act.put, List.setIfInBounds_toArray, List.set_cons_zero, List.set_cons_succ, i64_w, i32_w]
        rfl
       refine pure_ (i := 14) (N := some 79) (v := ?_) (a' := ?_) #[true, true, false, true, true, true, false, true, true, false, true, true, false, true, true, false, false, false] rfl rfl (any_of HT_.out (by kernel_rfl)) (fun _ _ _ h => h) (Or.inl ⟨by rfl, ?_⟩) ?_ ?_
       rotate_left
       ·
        intro w'
        go_simp
        with_reducible rfl
       rotate_left
       ·
        simp only [Act.put, List.setIfInBounds_toArray, List.set_cons_zero, List.set_cons_succ, i64_w, i32_w]
        rfl
       refine take_ (i := 2) (N := some 67) (v := ?_) (a' := ?_) #[true, true, true, true, true, true, false, true, true, false, true, true, false, true, true, false, false, false] rfl rfl (take_ofW HT_.out HW_.out (by kernel_rfl)) (fun _ _ _ h => h) (Or.inl ⟨by rfl, ?_⟩) hHeld ?_ ?_
       rotate_left
       ·
        rintro w' ⟨s0, s1, s2, s3, s4⟩
        go_simp
        with_reducible rfl
       rotate_left
       ·
        simp only [Act.put, List.setIfInBounds_toArray, List.set_cons_zero, List.set_cons_succ, i64_w, i32_w]
        rfl
       refine take_ (i := 6) (N := some 71) (v := ?_) (a' := ?_) #[true, true, true, true, true, true, true, true, true, false, true, true, false, true, true, false, false, false] rfl rfl (take_ofW HT_.out HW_.out (by kernel_rfl)) (fun _ _ _ h => h) (Or.inl ⟨by rfl, ?_⟩) hHeld ?_ ?_
       rotate_left
       ·
        rintro w' ⟨s0, s1, s2, s3, s4⟩
        go_simp
        with_reducible rfl
       rotate_left
       ·
        simp only [Act.put, List.setIfInBounds_toArray, List.set_cons_zero, List.set_cons_succ, i64_w, i32_w]
        rfl
       refine take_ (i := 9) (N := some 74) (v := ?_) (a' := ?_) #[true, true, true, true, true, true, true, true, true, true, true, true, false, true, true, false, false, false] rfl rfl (take_ofW HT_.out HW_.out (by kernel_rfl)) (fun _ _ _ h => h) (Or.inl ⟨by rfl, ?_⟩) hHeld ?_ ?_
       rotate_left
       ·
        rintro w' ⟨s0, s1, s2, s3, s4⟩
        go_simp
        with_reducible rfl
       rotate_left
       ·
        simp only [Act.put, List.setIfInBounds_toArray, List.set_cons_zero, List.set_cons_succ, i64_w, i32_w]
        rfl
       refine take_ (i := 12) (N := some 77) (v := ?_) (a' := ?_) #[true, true, true, true, true, true, true, true, true, true, true, true, true, true, true, false, false, false] rfl rfl (take_ofW HT_.out HW_.out (by kernel_rfl)) (fun _ _ _ h => h) (Or.inl ⟨by rfl, ?_⟩) hHeld ?_ ?_
       rotate_left
       ·
        rintro w' ⟨s0, s1, s2, s3, s4⟩
        go_simp
        with_reducible rfl
       rotate_left
       ·
        simp only [Act.put, List.setIfInBounds_toArray, List.set_cons_zero, List.set_cons_succ, i64_w, i32_w]
        rfl
       refine take_ (i := 15) (N := some 80) (v := ?_) (a' := ?_) #[true, true, true, true, true, true, true, true, true, true, true, true, true, true, true, true, false, false] rfl rfl (take_ofW HT_.out HW_.out (by kernel_rfl)) (fun _ _ _ h => h) (Or.inl ⟨by rfl, ?_⟩) hHeld ?_ ?_
       rotate_left
       ·
        rintro w' ⟨s0, s1, s2, s3, s4⟩
        go_simp
        with_reducible rfl
       rotate_left
       ·
        simp only [Act.put, List.setIfInBounds_toArray, List.set_cons_zero, List.set_cons_succ, i64_w, i32_w]
        rfl
       refine pure_ (i := 16) (N := some 81) (v := ?_) (a' := ?_) #[true, true, true, true, true, true, true, true, true, true, true, true, true, true, true, true, true, false] rfl rfl (any_of HT_.out (by kernel_rfl)) (fun _ _ _ h => h) (Or.inl ⟨by rfl, ?_⟩) ?_ ?_
       rotate_left
       ·
        intro w'
        go_simp
        with_reducible rfl
       rotate_left
       ·
        simp only [Act.put, List.setIfInBounds_toArray, List.set_cons_zero, List.set_cons_succ, i64_w, i32_w]
        rfl
       refine one_ (i := 17) (N := none) #[true, true, true, true, true, true, true, true, true, true, true, true, true, true, true, true, true, true] rfl rfl (one_of HT_.out (by kernel_rfl)) (by decide) (fun K hK => ?_)
       have hs59 : w58.cell? ⟨gb276, 0, none⟩ = some (.int .i64 0) := (blk_cell BK276.out 0).trans rfl
       have hfs59 := blk_frozen BK276.out 0
       have hs60 : w58.cell? ⟨gb276, 1, none⟩ = some (.int .i64 0) := (blk_cell BK276.out 1).trans rfl
       have hfs60 := blk_frozen BK276.out 1
       have hs61 : w58.cell? ⟨gb276, 2, none⟩ = some (.int .i64 0) := (blk_cell BK276.out 2).trans rfl
       have hfs61 := blk_frozen BK276.out 2
       have hs62 : w58.cell? ⟨gb276, 3, none⟩ = some (.int .i64 0) := (blk_cell BK276.out 3).trans rfl
       have hfs62 := blk_frozen BK276.out 3
       have hs63 : w58.cell? ⟨gb276, 4, none⟩ = some (.int .i64 0) := (blk_cell BK276.out 4).trans rfl
       have hfs63 := blk_frozen BK276.out 4
       have hs64 : w58.cell? ⟨gb276, 5, none⟩ = some (.int .i64 0) := (blk_cell BK276.out 5).trans rfl
       have hfs64 := blk_frozen BK276.out 5
       refine skip_ (w1 := ?_) (by rfl) rfl ?_ ?_
       rotate_left
       ·
        go_simp
        rfl
       have hne_ad285 : ad285.block ≠ gb276 := Kd.own_blk (Kd.R_ne HO274.out BK276.out (by decide))
       have hst : ∀ (W : World) (k : Nat) (v : Value), (fun w' => w'.cell? ⟨ad285.block, ad285.off + 4, none⟩ = some (.int .i64 (rd t272 4)) ∧ w'.cell? ad285 = some (.int .i64 (rd t272 0)) ∧ w'.cell? ⟨ad285.block, ad285.off + 1, none⟩ = some (.int .i64 (rd t272 1)) ∧ w'.cell? ⟨ad285.block, ad285.off + 2, none⟩ = some (.int .i64 (rd t272 2)) ∧ w'.cell? ⟨ad285.block, ad285.off + 3, none⟩ = some (.int .i64 (rd t272 3))) W → (fun w' => w'.cell? ⟨ad285.block, ad285.off + 4, none⟩ = some (.int .i64 (rd t272 4)) ∧ w'.cell? ad285 = some (.int .i64 (rd t272 0)) ∧ w'.cell? ⟨ad285.block, ad285.off + 1, none⟩ = some (.int .i64 (rd t272 1)) ∧ w'.cell? ⟨ad285.block, ad285.off + 2, none⟩ = some (.int .i64 (rd t272 2)) ∧ w'.cell? ⟨ad285.block, ad285.off + 3, none⟩ = some (.int .i64 (rd t272 3))) (W.setCell ⟨gb276, k, none⟩ v) := fun W k v h => ⟨(cell_far (W := W) (p := ⟨gb276, k, none⟩) (a := ⟨ad285.block, ad285.off + 4, none⟩) hne_ad285 v).trans h.1, (cell_far (W := W) (p := ⟨gb276, k, none⟩) (a := ad285) hne_ad285 v).trans h.2.1, (cell_far (W := W) (p := ⟨gb276, k, none⟩) (a := ⟨ad285.block, ad285.off + 1, none⟩) hne_ad285 v).trans h.2.2.1, (cell_far (W := W) (p := ⟨gb276, k, none⟩) (a := ⟨ad285.block, ad285.off + 2, none⟩) hne_ad285 v).trans h.2.2.2.1, (cell_far (W := W) (p := ⟨gb276, k, none⟩) (a := ⟨ad285.block, ad285.off + 3, none⟩) hne_ad285 v).trans h.2.2.2.2⟩
       refine hK.out _ _ (hst _ _ _ (hst _ _ _ (hst _ _ _ (hst _ _ _ (hst _ _ _ (hst _ _ _ (hHeld))))))) (fun hHeld => ?_)
       clear hK K
       refine done_ (done_of HT_.out (by kernel_rfl)) ?_
       try go_wp2
       go_meet
       case rel => exact ⟨_, (rd t272 4), (t275), (rd t272 0), (rd t272 1), (rd t272 2), (rd t272 3), H', ⟨by have := HJ1.out; first | omega | exact Nat.le_refl _⟩, ⟨by (with_reducible repeat (first | refine blk_drewN ?_ _ | refine blk_drew ?_ | refine blk_alloc ?_ _)); refine blk_put (cs := #[.int .i64 (rd t272 4), .int .i64 t275, .int .i64 (rd t272 0), .int .i64 (rd t272 1), .int .i64 (rd t272 2), .int .i64 0]) ?_ 5 _ rfl; (with_reducible repeat (first | refine blk_drewN ?_ _ | refine blk_drew ?_ | refine blk_alloc ?_ _)); refine blk_put (cs := #[.int .i64 (rd t272 4), .int .i64 t275, .int .i64 (rd t272 0), .int .i64 (rd t272 1), .int .i64 0, .int .i64 0]) ?_ 4 _ rfl; (with_reducible repeat (first | refine blk_drewN ?_ _ | refine blk_drew ?_ | refine blk_alloc ?_ _)); refine blk_put (cs := #[.int .i64 (rd t272 4), .int .i64 t275, .int .i64 (rd t272 0), .int .i64 0, .int .i64 0, .int .i64 0]) ?_ 3 _ rfl; (with_reducible repeat (first | refine blk_drewN ?_ _ | refine blk_drew ?_ | refine blk_alloc ?_ _)); refine blk_put (cs := #[.int .i64 (rd t272 4), .int .i64 t275, .int .i64 0, .int .i64 0, .int .i64 0, .int .i64 0]) ?_ 2 _ rfl; (with_reducible repeat (first | refine blk_drewN ?_ _ | refine blk_drew ?_ | refine blk_alloc ?_ _)); refine blk_put (cs := #[.int .i64 (rd t272 4), .int .i64 0, .int .i64 0, .int .i64 0, .int .i64 0, .int .i64 0]) ?_ 1 _ rfl; (with_reducible repeat (first | refine blk_drewN ?_ _ | refine blk_drew ?_ | refine blk_alloc ?_ _)); refine blk_put (cs := #[.int .i64 0, .int .i64 0, .int .i64 0, .int .i64 0, .int .i64 0, .int .i64 0]) ?_ 0 _ rfl; (with_reducible repeat (first | refine blk_drewN ?_ _ | refine blk_drew ?_ | refine blk_alloc ?_ _)); exact BK276.out⟩, ⟨by repeat (first | (with_reducible first | exact HB.out | apply below_alloc | apply pw_below_drewN | apply below_drew1 | refine below_set ?_ GE276.out) | exact HB.out)⟩⟩
     case rest =>
      clear HC10
      try clear c1
      try clear c2
      try clear p2
      try clear q2
      try clear hx2
      try clear qi2
      try clear c5
      try clear c6
      try clear p6
      try clear c15
      try clear c15b0
      try clear c25
      try clear c25b0
      try clear p27
      try clear q27
      try clear hx27
      try clear qi27
      try clear p28
      try clear q28
      try clear hx28
      try clear qi28
      try clear c53
      try clear c53b0
      try clear c53b1
      try clear c54
      try clear c54b0
      try clear c54b1
      try clear c55
      try clear c55b0
      try clear c55b1
      try clear c56
      try clear c56b0
      try clear c56b1
      try clear c57
      try clear c57b0
      try clear c57b1
      try clear p64
      try clear hcz44_0
      try clear hcz44_1
      try clear hcz44_2
      try clear hcz44_3
      try clear hcz44_4
      try clear hcz44_5
      try clear hfz44_0
      try clear hfz44_1
      try clear hfz44_2
      try clear hfz44_3
      try clear hfz44_4
      try clear hfz44_5
      try clear hx279_0
      try clear hx280_0
      try clear hx281_0
      try clear hx282_0
      try clear hx283_0
      try clear hx285_0
      try clear hx286_0
      try clear hx287_0
      try clear hx288_0
      try clear hx289_0
      try clear p279
      try clear p280
      try clear p281
      try clear p282
      try clear p283
      try clear p285
      try clear p286
      try clear p287
      try clear p288
      try clear p289
      try clear q279
      try clear q280
      try clear q281
      try clear q282
      try clear q283
      try clear q285
      try clear q286
      try clear q287
      try clear q288
      try clear q289
      obtain ⟨kq, x277000_9, x277001_9, x277002_9, x277003_9, x277004_9, x277005_9, HA, HJ9, BK276, HB⟩ := hcut
      cases kq with
      | zero => exact absurd HA.out (by simp [impl_ReadHttpDate.j1])
      | succ kj9 =>
       have H := HA.out
       clear HA
       simp only [impl_ReadHttpDate.j1] at H
       replace H := Option.bind_eq_some_iff.mp H
       obtain ⟨⟨t290, t291⟩, A650, H⟩ := H
       replace H : (if t291 = true then ((impl_HttpDate.f t290).bind fun t292 => (if t292.toList = a0.toList then (some (t290, true)) else ((impl_LongDate.f kj9 t290).bind fun t293 => (if t293.toList = a0.toList then (some (t290, true)) else ((impl_LineDate.f kj9 t290).bind fun t294 => (if t294.toList = a0.toList then (some (t290, true)) else (some (0, false)))))))) else (some (0, false))) = some (r1, r2) := H
       have A65 := Aside0.mk A650
       clear A650
       by_cases c66 : t291 = true
       ·
        subst c66
        have H1 : ((impl_HttpDate.f t290).bind fun t292 => (if t292.toList = a0.toList then (some (t290, true)) else ((impl_LongDate.f kj9 t290).bind fun t293 => (if t293.toList = a0.toList then (some (t290, true)) else ((impl_LineDate.f kj9 t290).bind fun t294 => (if t294.toList = a0.toList then (some (t290, true)) else (some (0, false)))))))) = some (r1, r2) := by rw [if_pos rfl] at H; exact H
        clear H
        have H := H1
        clear H1
        replace H := Option.bind_eq_some_iff.mp H
        obtain ⟨t292, A670, H⟩ := H
        replace H : (if t292.toList = a0.toList then (some (t290, true)) else ((impl_LongDate.f kj9 t290).bind fun t293 => (if t293.toList = a0.toList then (some (t290, true)) else ((impl_LineDate.f kj9 t290).bind fun t294 => (if t294.toList = a0.toList then (some (t290, true)) else (some (0, false))))))) = some (r1, r2) := H
        have A67 := Aside0.mk A670
        clear A670
        by_cases c68 : t292.toList = a0.toList
        ·
         rw [if_pos c68] at H
         have c68b0 : (t292.toList == a0.toList) = true := beq_iff_eq.mpr c68
         have c68b1 : (t292.toList != a0.toList) = false := bne_eq_false_iff_eq.mpr c68
         clear c68
         simp only [Option.some.injEq, Prod.mk.injEq] at H
         obtain ⟨rfl, rfl⟩ := H
         have hcz69_0 : wc.cell? ⟨gb276, 0, none⟩ = some (.int .i64 x277000_9) := (blk_cell BK276.out 0).trans rfl
         have hcz69_1 : wc.cell? ⟨gb276, 1, none⟩ = some (.int .i64 x277001_9) := (blk_cell BK276.out 1).trans rfl
         have hcz69_2 : wc.cell? ⟨gb276, 2, none⟩ = some (.int .i64 x277002_9) := (blk_cell BK276.out 2).trans rfl
         have hcz69_3 : wc.cell? ⟨gb276, 3, none⟩ = some (.int .i64 x277003_9) := (blk_cell BK276.out 3).trans rfl
         have hcz69_4 : wc.cell? ⟨gb276, 4, none⟩ = some (.int .i64 x277004_9) := (blk_cell BK276.out 4).trans rfl
         have hcz69_5 : wc.cell? ⟨gb276, 5, none⟩ = some (.int .i64 x277005_9) := (blk_cell BK276.out 5).trans rfl
         have hfz69_0 := blk_frozen BK276.out 0
         have hfz69_1 := blk_frozen BK276.out 1
         have hfz69_2 := blk_frozen BK276.out 2
         have hfz69_3 := blk_frozen BK276.out 3
         have hfz69_4 := blk_frozen BK276.out 4
         have hfz69_5 := blk_frozen BK276.out 5
         go_wp2_with (first | ((with_reducible refine gate_callee (f := 24) rfl ?_); refine goesL_ (some 84) rfl rfl Tryd.func24 (by kernel_rfl) rfl #[.agg #[.int .i64 x277000_9, .int .i64 x277001_9, .int .i64 x277002_9, .int .i64 x277003_9, .int .i64 x277004_9, .int .i64 x277005_9]] rfl (by (try simp only [List.map_toArray, List.map_cons, List.map_nil]); first | done | rfl | (simp only [List.length_drop, List.length_take]; rfl)) ?_; (with_reducible refine (impl_SecondsOf.calls x277000_9 x277001_9 x277002_9 x277003_9 x277004_9 x277005_9 t290 true _ A65.out).mono ?_); rintro e w70 ⟨rfl, hb⟩; refine ⟨_, rfl, ?_⟩; have n0_ := Aside0.mk (blk_below (g := gb276) (o := .cells #[.int .i64 x277000_9, .int .i64 x277001_9, .int .i64 x277002_9, .int .i64 x277003_9, .int .i64 x277004_9, .int .i64 x277005_9] 30 (0, 0)) (by (with_reducible repeat (first | refine blk_drewN ?_ _ | refine blk_drew ?_ | refine blk_alloc ?_ _)); exact BK276.out) hb); have n1_ := Aside0.mk (below_step (by repeat (first | (with_reducible first | exact HB.out | apply below_alloc | apply pw_below_drewN | apply below_drew1 | refine below_set ?_ GE276.out) | exact HB.out)) hb); clear BK276; clear HB; have BK276 := n0_; have HB := n1_; clear n0_ n1_; (try clear hb); (try clear hb2); (try clear hk); (try clear hi)) | (go_at_call 27; (with_reducible refine (impl_HttpDate.calls t290 t292 _ A67.out).mono ?_); rintro e w71 ⟨rfl, hb⟩; have n0_ := Aside0.mk (blk_below (g := gb276) (o := .cells #[.int .i64 x277000_9, .int .i64 x277001_9, .int .i64 x277002_9, .int .i64 x277003_9, .int .i64 x277004_9, .int .i64 x277005_9] 30 (0, 0)) (by (with_reducible repeat (first | refine blk_drewN ?_ _ | refine blk_drew ?_ | refine blk_alloc ?_ _)); exact BK276.out) hb); have n1_ := Aside0.mk (below_step (by repeat (first | (with_reducible first | exact HB.out | apply below_alloc | apply pw_below_drewN | apply below_drew1 | refine below_set ?_ GE276.out) | exact HB.out)) hb); clear BK276; clear HB; have BK276 := n0_; have HB := n1_; clear n0_ n1_; (try clear hb); (try clear hb2); (try clear hk); (try clear hi)))
         go_ret2
         exact ⟨by first | rfl | (simp [errW_none, errW_some] <;> rfl) | (simp [*, errW_none, errW_some] <;> rfl), by repeat (first | (with_reducible first | exact HB.out | apply below_alloc | apply pw_below_drewN | apply below_drew1 | refine below_set ?_ GE276.out) | exact HB.out)⟩
        ·
         rw [if_neg c68] at H
         have c68b0 : (t292.toList == a0.toList) = false := beq_eq_false_iff_ne.mpr c68
         have c68b1 : (t292.toList != a0.toList) = true := bne_iff_ne.mpr c68
         replace H := Option.bind_eq_some_iff.mp H
         obtain ⟨t293, A720, H⟩ := H
         replace H : (if t293.toList = a0.toList then (some (t290, true)) else ((impl_LineDate.f kj9 t290).bind fun t294 => (if t294.toList = a0.toList then (some (t290, true)) else (some (0, false))))) = some (r1, r2) := H
         have A72 := Aside0.mk A720
         clear A720
         by_cases c73 : t293.toList = a0.toList
         ·
          rw [if_pos c73] at H
          have c73b0 : (t293.toList == a0.toList) = true := beq_iff_eq.mpr c73
          have c73b1 : (t293.toList != a0.toList) = false := bne_eq_false_iff_eq.mpr c73
          clear c73
          simp only [Option.some.injEq, Prod.mk.injEq] at H
          obtain ⟨rfl, rfl⟩ := H
          have hcz74_0 : wc.cell? ⟨gb276, 0, none⟩ = some (.int .i64 x277000_9) := (blk_cell BK276.out 0).trans rfl
          have hcz74_1 : wc.cell? ⟨gb276, 1, none⟩ = some (.int .i64 x277001_9) := (blk_cell BK276.out 1).trans rfl
          have hcz74_2 : wc.cell? ⟨gb276, 2, none⟩ = some (.int .i64 x277002_9) := (blk_cell BK276.out 2).trans rfl
          have hcz74_3 : wc.cell? ⟨gb276, 3, none⟩ = some (.int .i64 x277003_9) := (blk_cell BK276.out 3).trans rfl
          have hcz74_4 : wc.cell? ⟨gb276, 4, none⟩ = some (.int .i64 x277004_9) := (blk_cell BK276.out 4).trans rfl
          have hcz74_5 : wc.cell? ⟨gb276, 5, none⟩ = some (.int .i64 x277005_9) := (blk_cell BK276.out 5).trans rfl
          have hfz74_0 := blk_frozen BK276.out 0
          have hfz74_1 := blk_frozen BK276.out 1
          have hfz74_2 := blk_frozen BK276.out 2
          have hfz74_3 := blk_frozen BK276.out 3
          have hfz74_4 := blk_frozen BK276.out 4
          have hfz74_5 := blk_frozen BK276.out 5
          go_wp2_with (first | ((with_reducible refine gate_callee (f := 24) rfl ?_); refine goesL_ (some 84) rfl rfl Tryd.func24 (by kernel_rfl) rfl #[.agg #[.int .i64 x277000_9, .int .i64 x277001_9, .int .i64 x277002_9, .int .i64 x277003_9, .int .i64 x277004_9, .int .i64 x277005_9]] rfl (by (try simp only [List.map_toArray, List.map_cons, List.map_nil]); first | done | rfl | (simp only [List.length_drop, List.length_take]; rfl)) ?_; (with_reducible refine (impl_SecondsOf.calls x277000_9 x277001_9 x277002_9 x277003_9 x277004_9 x277005_9 t290 true _ A65.out).mono ?_); rintro e w75 ⟨rfl, hb⟩; refine ⟨_, rfl, ?_⟩; have n0_ := Aside0.mk (blk_below (g := gb276) (o := .cells #[.int .i64 x277000_9, .int .i64 x277001_9, .int .i64 x277002_9, .int .i64 x277003_9, .int .i64 x277004_9, .int .i64 x277005_9] 30 (0, 0)) (by (with_reducible repeat (first | refine blk_drewN ?_ _ | refine blk_drew ?_ | refine blk_alloc ?_ _)); exact BK276.out) hb); have n1_ := Aside0.mk (below_step (by repeat (first | (with_reducible first | exact HB.out | apply below_alloc | apply pw_below_drewN | apply below_drew1 | refine below_set ?_ GE276.out) | exact HB.out)) hb); clear BK276; clear HB; have BK276 := n0_; have HB := n1_; clear n0_ n1_; (try clear hb); (try clear hb2); (try clear hk); (try clear hi)) | (go_at_call 27; (with_reducible refine (impl_HttpDate.calls t290 t292 _ A67.out).mono ?_); rintro e w76 ⟨rfl, hb⟩; have n0_ := Aside0.mk (blk_below (g := gb276) (o := .cells #[.int .i64 x277000_9, .int .i64 x277001_9, .int .i64 x277002_9, .int .i64 x277003_9, .int .i64 x277004_9, .int .i64 x277005_9] 30 (0, 0)) (by (with_reducible repeat (first | refine blk_drewN ?_ _ | refine blk_drew ?_ | refine blk_alloc ?_ _)); exact BK276.out) hb); have n1_ := Aside0.mk (below_step (by repeat (first | (with_reducible first | exact HB.out | apply below_alloc | apply pw_below_drewN | apply below_drew1 | refine below_set ?_ GE276.out) | exact HB.out)) hb); clear BK276; clear HB; have BK276 := n0_; have HB := n1_; clear n0_ n1_; (try clear hb); (try clear hb2); (try clear hk); (try clear hi)) | (go_at_call 29; (with_reducible refine (impl_LongDate.calls kj9 t290 t293 _ A72.out).mono ?_); rintro e w77 ⟨rfl, hb⟩; have n0_ := Aside0.mk (blk_below (g := gb276) (o := .cells #[.int .i64 x277000_9, .int .i64 x277001_9, .int .i64 x277002_9, .int .i64 x277003_9, .int .i64 x277004_9, .int .i64 x277005_9] 30 (0, 0)) (by (with_reducible repeat (first | refine blk_drewN ?_ _ | refine blk_drew ?_ | refine blk_alloc ?_ _)); exact BK276.out) hb); have n1_ := Aside0.mk (below_step (by repeat (first | (with_reducible first | exact HB.out | apply below_alloc | apply pw_below_drewN | apply below_drew1 | refine below_set ?_ GE276.out) | exact HB.out)) hb); clear BK276; clear HB; have BK276 := n0_; have HB := n1_; clear n0_ n1_; (try clear hb); (try clear hb2); (try clear hk); (try clear hi)))
          go_ret2
          exact ⟨by first | rfl | (simp [errW_none, errW_some] <;> rfl) | (simp [*, errW_none, errW_some] <;> rfl), by repeat (first | (with_reducible first | exact HB.out | apply below_alloc | apply pw_below_drewN | apply below_drew1 | refine below_set ?_ GE276.out) | exact HB.out)⟩
         ·
          rw [if_neg c73] at H
          have c73b0 : (t293.toList == a0.toList) = false := beq_eq_false_iff_ne.mpr c73
          have c73b1 : (t293.toList != a0.toList) = true := bne_iff_ne.mpr c73
          replace H := Option.bind_eq_some_iff.mp H
          obtain ⟨t294, A780, H⟩ := H
          replace H : (if t294.toList = a0.toList then (some (t290, true)) else (some (0, false))) = some (r1, r2) := H
          have A78 := Aside0.mk A780
          clear A780
          by_cases c79 : t294.toList = a0.toList
          ·
           rw [if_pos c79] at H
           have c79b0 : (t294.toList == a0.toList) = true := beq_iff_eq.mpr c79
           have c79b1 : (t294.toList != a0.toList) = false := bne_eq_false_iff_eq.mpr c79
           clear c79
           simp only [Option.some.injEq, Prod.mk.injEq] at H
           obtain ⟨rfl, rfl⟩ := H
           have hcz80_0 : wc.cell? ⟨gb276, 0, none⟩ = some (.int .i64 x277000_9) := (blk_cell BK276.out 0).trans rfl
           have hcz80_1 : wc.cell? ⟨gb276, 1, none⟩ = some (.int .i64 x277001_9) := (blk_cell BK276.out 1).trans rfl
           have hcz80_2 : wc.cell? ⟨gb276, 2, none⟩ = some (.int .i64 x277002_9) := (blk_cell BK276.out 2).trans rfl
           have hcz80_3 : wc.cell? ⟨gb276, 3, none⟩ = some (.int .i64 x277003_9) := (blk_cell BK276.out 3).trans rfl
           have hcz80_4 : wc.cell? ⟨gb276, 4, none⟩ = some (.int .i64 x277004_9) := (blk_cell BK276.out 4).trans rfl
           have hcz80_5 : wc.cell? ⟨gb276, 5, none⟩ = some (.int .i64 x277005_9) := (blk_cell BK276.out 5).trans rfl
           have hfz80_0 := blk_frozen BK276.out 0
           have hfz80_1 := blk_frozen BK276.out 1
           have hfz80_2 := blk_frozen BK276.out 2
           have hfz80_3 := blk_frozen BK276.out 3
           have hfz80_4 := blk_frozen BK276.out 4
           have hfz80_5 := blk_frozen BK276.out 5
           go_wp2_with (first | ((with_reducible refine gate_callee (f := 24) rfl ?_); refine goesL_ (some 84) rfl rfl Tryd.func24 (by kernel_rfl) rfl #[.agg #[.int .i64 x277000_9, .int .i64 x277001_9, .int .i64 x277002_9, .int .i64 x277003_9, .int .i64 x277004_9, .int .i64 x277005_9]] rfl (by (try simp only [List.map_toArray, List.map_cons, List.map_nil]); first | done | rfl | (simp only [List.length_drop, List.length_take]; rfl)) ?_; (with_reducible refine (impl_SecondsOf.calls x277000_9 x277001_9 x277002_9 x277003_9 x277004_9 x277005_9 t290 true _ A65.out).mono ?_); rintro e w81 ⟨rfl, hb⟩; refine ⟨_, rfl, ?_⟩; have n0_ := Aside0.mk (blk_below (g := gb276) (o := .cells #[.int .i64 x277000_9, .int .i64 x277001_9, .int .i64 x277002_9, .int .i64 x277003_9, .int .i64 x277004_9, .int .i64 x277005_9] 30 (0, 0)) (by (with_reducible repeat (first | refine blk_drewN ?_ _ | refine blk_drew ?_ | refine blk_alloc ?_ _)); exact BK276.out) hb); have n1_ := Aside0.mk (below_step (by repeat (first | (with_reducible first | exact HB.out | apply below_alloc | apply pw_below_drewN | apply below_drew1 | refine below_set ?_ GE276.out) | exact HB.out)) hb); clear BK276; clear HB; have BK276 := n0_; have HB := n1_; clear n0_ n1_; (try clear hb); (try clear hb2); (try clear hk); (try clear hi)) | (go_at_call 27; (with_reducible refine (impl_HttpDate.calls t290 t292 _ A67.out).mono ?_); rintro e w82 ⟨rfl, hb⟩; have n0_ := Aside0.mk (blk_below (g := gb276) (o := .cells #[.int .i64 x277000_9, .int .i64 x277001_9, .int .i64 x277002_9, .int .i64 x277003_9, .int .i64 x277004_9, .int .i64 x277005_9] 30 (0, 0)) (by (with_reducible repeat (first | refine blk_drewN ?_ _ | refine blk_drew ?_ | refine blk_alloc ?_ _)); exact BK276.out) hb); have n1_ := Aside0.mk (below_step (by repeat (first | (with_reducible first | exact HB.out | apply below_alloc | apply pw_below_drewN | apply below_drew1 | refine below_set ?_ GE276.out) | exact HB.out)) hb); clear BK276; clear HB; have BK276 := n0_; have HB := n1_; clear n0_ n1_; (try clear hb); (try clear hb2); (try clear hk); (try clear hi)) | (go_at_call 29; (with_reducible refine (impl_LongDate.calls kj9 t290 t293 _ A72.out).mono ?_); rintro e w83 ⟨rfl, hb⟩; have n0_ := Aside0.mk (blk_below (g := gb276) (o := .cells #[.int .i64 x277000_9, .int .i64 x277001_9, .int .i64 x277002_9, .int .i64 x277003_9, .int .i64 x277004_9, .int .i64 x277005_9] 30 (0, 0)) (by (with_reducible repeat (first | refine blk_drewN ?_ _ | refine blk_drew ?_ | refine blk_alloc ?_ _)); exact BK276.out) hb); have n1_ := Aside0.mk (below_step (by repeat (first | (with_reducible first | exact HB.out | apply below_alloc | apply pw_below_drewN | apply below_drew1 | refine below_set ?_ GE276.out) | exact HB.out)) hb); clear BK276; clear HB; have BK276 := n0_; have HB := n1_; clear n0_ n1_; (try clear hb); (try clear hb2); (try clear hk); (try clear hi)) | (go_at_call 31; (with_reducible refine (impl_LineDate.calls kj9 t290 t294 _ A78.out).mono ?_); rintro e w84 ⟨rfl, hb⟩; have n0_ := Aside0.mk (blk_below (g := gb276) (o := .cells #[.int .i64 x277000_9, .int .i64 x277001_9, .int .i64 x277002_9, .int .i64 x277003_9, .int .i64 x277004_9, .int .i64 x277005_9] 30 (0, 0)) (by (with_reducible repeat (first | refine blk_drewN ?_ _ | refine blk_drew ?_ | refine blk_alloc ?_ _)); exact BK276.out) hb); have n1_ := Aside0.mk (below_step (by repeat (first | (with_reducible first | exact HB.out | apply below_alloc | apply pw_below_drewN | apply below_drew1 | refine below_set ?_ GE276.out) | exact HB.out)) hb); clear BK276; clear HB; have BK276 := n0_; have HB := n1_; clear n0_ n1_; (try clear hb); (try clear hb2); (try clear hk); (try clear hi)))
           go_ret2
           exact ⟨by first | rfl | (simp [errW_none, errW_some] <;> rfl) | (simp [*, errW_none, errW_some] <;> rfl), by repeat (first | (with_reducible first | exact HB.out | apply below_alloc | apply pw_below_drewN | apply below_drew1 | refine below_set ?_ GE276.out) | exact HB.out)⟩
          ·
           rw [if_neg c79] at H
           have c79b0 : (t294.toList == a0.toList) = false := beq_eq_false_iff_ne.mpr c79
           have c79b1 : (t294.toList != a0.toList) = true := bne_iff_ne.mpr c79
           simp only [Option.some.injEq, Prod.mk.injEq] at H
           obtain ⟨rfl, rfl⟩ := H
           have hcz85_0 : wc.cell? ⟨gb276, 0, none⟩ = some (.int .i64 x277000_9) := (blk_cell BK276.out 0).trans rfl
           have hcz85_1 : wc.cell? ⟨gb276, 1, none⟩ = some (.int .i64 x277001_9) := (blk_cell BK276.out 1).trans rfl
           have hcz85_2 : wc.cell? ⟨gb276, 2, none⟩ = some (.int .i64 x277002_9) := (blk_cell BK276.out 2).trans rfl
           have hcz85_3 : wc.cell? ⟨gb276, 3, none⟩ = some (.int .i64 x277003_9) := (blk_cell BK276.out 3).trans rfl
           have hcz85_4 : wc.cell? ⟨gb276, 4, none⟩ = some (.int .i64 x277004_9) := (blk_cell BK276.out 4).trans rfl
           have hcz85_5 : wc.cell? ⟨gb276, 5, none⟩ = some (.int .i64 x277005_9) := (blk_cell BK276.out 5).trans rfl
           have hfz85_0 := blk_frozen BK276.out 0
           have hfz85_1 := blk_frozen BK276.out 1
           have hfz85_2 := blk_frozen BK276.out 2
           have hfz85_3 := blk_frozen BK276.out 3
           have hfz85_4 := blk_frozen BK276.out 4
           have hfz85_5 := blk_frozen BK276.out 5
           go_wp2_with (first | ((with_reducible refine gate_callee (f := 24) rfl ?_); refine goesL_ (some 84) rfl rfl Tryd.func24 (by kernel_rfl) rfl #[.agg #[.int .i64 x277000_9, .int .i64 x277001_9, .int .i64 x277002_9, .int .i64 x277003_9, .int .i64 x277004_9, .int .i64 x277005_9]] rfl (by (try simp only [List.map_toArray, List.map_cons, List.map_nil]); first | done | rfl | (simp only [List.length_drop, List.length_take]; rfl)) ?_; (with_reducible refine (impl_SecondsOf.calls x277000_9 x277001_9 x277002_9 x277003_9 x277004_9 x277005_9 t290 true _ A65.out).mono ?_); rintro e w86 ⟨rfl, hb⟩; refine ⟨_, rfl, ?_⟩; have n0_ := Aside0.mk (blk_below (g := gb276) (o := .cells #[.int .i64 x277000_9, .int .i64 x277001_9, .int .i64 x277002_9, .int .i64 x277003_9, .int .i64 x277004_9, .int .i64 x277005_9] 30 (0, 0)) (by (with_reducible repeat (first | refine blk_drewN ?_ _ | refine blk_drew ?_ | refine blk_alloc ?_ _)); exact BK276.out) hb); have n1_ := Aside0.mk (below_step (by repeat (first | (with_reducible first | exact HB.out | apply below_alloc | apply pw_below_drewN | apply below_drew1 | refine below_set ?_ GE276.out) | exact HB.out)) hb); clear BK276; clear HB; have BK276 := n0_; have HB := n1_; clear n0_ n1_; (try clear hb); (try clear hb2); (try clear hk); (try clear hi)) | (go_at_call 27; (with_reducible refine (impl_HttpDate.calls t290 t292 _ A67.out).mono ?_); rintro e w87 ⟨rfl, hb⟩; have n0_ := Aside0.mk (blk_below (g := gb276) (o := .cells #[.int .i64 x277000_9, .int .i64 x277001_9, .int .i64 x277002_9, .int .i64 x277003_9, .int .i64 x277004_9, .int .i64 x277005_9] 30 (0, 0)) (by (with_reducible repeat (first | refine blk_drewN ?_ _ | refine blk_drew ?_ | refine blk_alloc ?_ _)); exact BK276.out) hb); have n1_ := Aside0.mk (below_step (by repeat (first | (with_reducible first | exact HB.out | apply below_alloc | apply pw_below_drewN | apply below_drew1 | refine below_set ?_ GE276.out) | exact HB.out)) hb); clear BK276; clear HB; have BK276 := n0_; have HB := n1_; clear n0_ n1_; (try clear hb); (try clear hb2); (try clear hk); (try clear hi)) | (go_at_call 29; (with_reducible refine (impl_LongDate.calls kj9 t290 t293 _ A72.out).mono ?_); rintro e w88 ⟨rfl, hb⟩; have n0_ := Aside0.mk (blk_below (g := gb276) (o := .cells #[.int .i64 x277000_9, .int .i64 x277001_9, .int .i64 x277002_9, .int .i64 x277003_9, .int .i64 x277004_9, .int .i64 x277005_9] 30 (0, 0)) (by (with_reducible repeat (first | refine blk_drewN ?_ _ | refine blk_drew ?_ | refine blk_alloc ?_ _)); exact BK276.out) hb); have n1_ := Aside0.mk (below_step (by repeat (first | (with_reducible first | exact HB.out | apply below_alloc | apply pw_below_drewN | apply below_drew1 | refine below_set ?_ GE276.out) | exact HB.out)) hb); clear BK276; clear HB; have BK276 := n0_; have HB := n1_; clear n0_ n1_; (try clear hb); (try clear hb2); (try clear hk); (try clear hi)) | (go_at_call 31; (with_reducible refine (impl_LineDate.calls kj9 t290 t294 _ A78.out).mono ?_); rintro e w89 ⟨rfl, hb⟩; have n0_ := Aside0.mk (blk_below (g := gb276) (o := .cells #[.int .i64 x277000_9, .int .i64 x277001_9, .int .i64 x277002_9, .int .i64 x277003_9, .int .i64 x277004_9, .int .i64 x277005_9] 30 (0, 0)) (by (with_reducible repeat (first | refine blk_drewN ?_ _ | refine blk_drew ?_ | refine blk_alloc ?_ _)); exact BK276.out) hb); have n1_ := Aside0.mk (below_step (by repeat (first | (with_reducible first | exact HB.out | apply below_alloc | apply pw_below_drewN | apply below_drew1 | refine below_set ?_ GE276.out) | exact HB.out)) hb); clear BK276; clear HB; have BK276 := n0_; have HB := n1_; clear n0_ n1_; (try clear hb); (try clear hb2); (try clear hk); (try clear hi)))
           go_ret2
           exact ⟨by first | rfl | (simp [errW_none, errW_some] <;> rfl) | (simp [*, errW_none, errW_some] <;> rfl), by repeat (first | (with_reducible first | exact HB.out | apply below_alloc | apply pw_below_drewN | apply below_drew1 | refine below_set ?_ GE276.out) | exact HB.out)⟩
       ·
        replace c66 := Bool.eq_false_iff.mpr c66
        subst c66
        have H1 : (some (0, false)) = some (r1, r2) := by rw [if_neg (show ¬ (false = true) by decide)] at H; exact H
        clear H
        have H := H1
        clear H1
        simp only [Option.some.injEq, Prod.mk.injEq] at H
        obtain ⟨rfl, rfl⟩ := H
        have hcz90_0 : wc.cell? ⟨gb276, 0, none⟩ = some (.int .i64 x277000_9) := (blk_cell BK276.out 0).trans rfl
        have hcz90_1 : wc.cell? ⟨gb276, 1, none⟩ = some (.int .i64 x277001_9) := (blk_cell BK276.out 1).trans rfl
        have hcz90_2 : wc.cell? ⟨gb276, 2, none⟩ = some (.int .i64 x277002_9) := (blk_cell BK276.out 2).trans rfl
        have hcz90_3 : wc.cell? ⟨gb276, 3, none⟩ = some (.int .i64 x277003_9) := (blk_cell BK276.out 3).trans rfl
        have hcz90_4 : wc.cell? ⟨gb276, 4, none⟩ = some (.int .i64 x277004_9) := (blk_cell BK276.out 4).trans rfl
        have hcz90_5 : wc.cell? ⟨gb276, 5, none⟩ = some (.int .i64 x277005_9) := (blk_cell BK276.out 5).trans rfl
        have hfz90_0 := blk_frozen BK276.out 0
        have hfz90_1 := blk_frozen BK276.out 1
        have hfz90_2 := blk_frozen BK276.out 2
        have hfz90_3 := blk_frozen BK276.out 3
        have hfz90_4 := blk_frozen BK276.out 4
        have hfz90_5 := blk_frozen BK276.out 5
        go_wp2_with (first | ((with_reducible refine gate_callee (f := 24) rfl ?_); refine goesL_ (some 84) rfl rfl Tryd.func24 (by kernel_rfl) rfl #[.agg #[.int .i64 x277000_9, .int .i64 x277001_9, .int .i64 x277002_9, .int .i64 x277003_9, .int .i64 x277004_9, .int .i64 x277005_9]] rfl (by (try simp only [List.map_toArray, List.map_cons, List.map_nil]); first | done | rfl | (simp only [List.length_drop, List.length_take]; rfl)) ?_; (with_reducible refine (impl_SecondsOf.calls x277000_9 x277001_9 x277002_9 x277003_9 x277004_9 x277005_9 t290 false _ A65.out).mono ?_); rintro e w91 ⟨rfl, hb⟩; refine ⟨_, rfl, ?_⟩; have n0_ := Aside0.mk (blk_below (g := gb276) (o := .cells #[.int .i64 x277000_9, .int .i64 x277001_9, .int .i64 x277002_9, .int .i64 x277003_9, .int .i64 x277004_9, .int .i64 x277005_9] 30 (0, 0)) (by (with_reducible repeat (first | refine blk_drewN ?_ _ | refine blk_drew ?_ | refine blk_alloc ?_ _)); exact BK276.out) hb); have n1_ := Aside0.mk (below_step (by repeat (first | (with_reducible first | exact HB.out | apply below_alloc | apply pw_below_drewN | apply below_drew1 | refine below_set ?_ GE276.out) | exact HB.out)) hb); clear BK276; clear HB; have BK276 := n0_; have HB := n1_; clear n0_ n1_; (try clear hb); (try clear hb2); (try clear hk); (try clear hi)))
        go_ret2
        exact ⟨by first | rfl | (simp [errW_none, errW_some] <;> rfl) | (simp [*, errW_none, errW_some] <;> rfl), by repeat (first | (with_reducible first | exact HB.out | apply below_alloc | apply pw_below_drewN | apply below_drew1 | refine below_set ?_ GE276.out) | exact HB.out)⟩
    ·
     rw [if_neg c6] at H
     have c6b0 : ((t272.length : Int) == 5) = false := beq_eq_false_iff_ne.mpr c6
     have c6b1 : ((t272.length : Int) != 5) = true := bne_iff_ne.mpr c6
     simp only [Option.some.injEq, Prod.mk.injEq] at H
     obtain ⟨rfl, rfl⟩ := H
     go_wp2_with (first | ((with_reducible refine gate_callee (f := 65) rfl ?_); refine goesL_ (some 19) rfl rfl Tryd.func65 (by kernel_rfl) rfl #[.string a0] rfl (by (try simp only [List.map_toArray, List.map_cons, List.map_nil]); first | done | rfl | (simp only [List.length_drop, List.length_take]; rfl)) ?_; (with_reducible refine (impl_numbersIn.calls kj1 a0 t272 _ A5.out).mono ?_); rintro e w92 ⟨v273, rfl, ho0, hb⟩; refine ⟨_, rfl, ?_⟩; have n0_ := Aside0.mk (Kd.R_lower ho0 (below_size (by repeat (first | (with_reducible first | exact HB.out | apply below_alloc | apply pw_below_drewN | apply below_drew1) | exact HB.out)))); have n1_ := Aside0.mk (below_step (by repeat (first | (with_reducible first | exact HB.out | apply below_alloc | apply pw_below_drewN | apply below_drew1) | exact HB.out)) hb); clear HB; have HO274 := n0_; have HB := n1_; clear n0_ n1_; (try clear hb); (try clear hb2); (try clear hk); (try clear hi); (try clear ho0); obtain ⟨Ao93, co93, eo93⟩ := Kd.R_slice HO274.out; subst eo93))
     go_ret2
     exact ⟨by first | rfl | (simp [errW_none, errW_some] <;> rfl) | (simp [*, errW_none, errW_some] <;> rfl), by repeat (first | (with_reducible first | exact HB.out | apply below_alloc | apply pw_below_drewN | apply below_drew1) | exact HB.out)⟩

end Go.Proofs.YtgjbhdfncappdaaDoor.PFnExactReadHttpDate
namespace Go.Proofs.YtgjbhdfncappdaaDoor.PFnExactReadHttpDate
open Go.Proofs.YtgjbhdfncappdaaDoor.Foreign
open Go.RowKit Go.Proofs.YtgjbhdfncappdaaDoorV.PrintWords Go.Proofs.YtgjbhdfncappdaaDoorV.PrintLast Go.Proofs.YtgjbhdfncappdaaDoorV.PrintMore
attribute [local go_sem] max2_int min2_int max_two min_two max_three min_three max_four min_four   -- for this text's walks alone
set_option linter.unusedVariables false
set_option linter.unusedSimpArgs false

/-! ### laws_FnExactReadHttpDate: function 11 -/
def laws_FnExactReadHttpDate.f (k : Nat) (a0 : ByteArray) : Option (Bool) := if (a0.size : Int) > 1048576 then (some true) else ((spec_ReadHttpDate.f k a0).bind fun bt295 => ((impl_ReadHttpDate.f k a0).bind fun bt297 => (if bt297.1 = bt295.1 then (if (bt297.2 != bt295.2) = true then (some false) else (some true)) else (some false))))
theorem laws_FnExactReadHttpDate.mono : ∀ a0 k, LeO (laws_FnExactReadHttpDate.f k a0) (laws_FnExactReadHttpDate.f (k + 1) a0) := by
 intro a0 k
 unfold laws_FnExactReadHttpDate.f
 repeat' first
   | (with_reducible exact impl_ReadHttpDate.mono _ _)
   | (with_reducible exact spec_ReadHttpDate.mono _ _)
   | (with_reducible exact LeO.refl _)
   | (with_reducible exact LeO.none _)
   | (with_reducible refine LeO.ite ?_ ?_)
   | (with_reducible refine LeO.bind ?_ (fun _ => ?_))
   | exact impl_ReadHttpDate.mono _ _
   | exact spec_ReadHttpDate.mono _ _
   | exact LeO.none _
   | refine LeO.ite ?_ ?_
   | refine LeO.bind ?_ (fun _ => ?_)
set_option maxHeartbeats 8000000 in
set_option maxRecDepth 100000 in
theorem laws_FnExactReadHttpDate.calls (k : Nat) (a0 : ByteArray) (r : Bool) (w : World) (ht : Tab w) (h : laws_FnExactReadHttpDate.f k a0 = some r) :
  Calls Tryd.prog 11 #[.string a0] w fun e w' => e = .returned (.bool r) ∧ Below w.heap.size w w' := by
 have HB := Aside0.mk (Below.refl w.heap.size w)
 have HT := Aside0.mk ht
 clear ht
 have H : (if (a0.size : Int) > 1048576 then (some true) else ((spec_ReadHttpDate.f k a0).bind fun bt295 => ((impl_ReadHttpDate.f k a0).bind fun bt297 => (if bt297.1 = bt295.1 then (if (bt297.2 != bt295.2) = true then (some false) else (some true)) else (some false))))) = some r := h
 clear h
 by_cases c2 : (a0.size : Int) > 1048576
 ·
  rw [if_pos c2] at H
  have c2b0 : decide (1048576 < (a0.size : Int)) = true := decide_eq_true c2
  have c2b1 : decide (1048576 < a0.size) = true := decide_eq_true (by omega)
  clear c2
  obtain rfl := Option.some.inj H
  go_enter Tryd.func11, Tryd.ntmps11
  go_wp2
  go_ret
  exact ⟨by first | rfl | (simp [errW_none, errW_some] <;> rfl) | (simp [*, errW_none, errW_some] <;> rfl), by repeat (first | (with_reducible first | exact HB.out | apply below_alloc | apply pw_below_drewN | apply below_drew1) | exact HB.out)⟩
 ·
  rw [if_neg c2] at H
  have c2b0 : decide (1048576 < (a0.size : Int)) = false := decide_eq_false c2
  have c2b1 : decide (1048576 < a0.size) = false := decide_eq_false (by omega)
  clear c2
  replace H := Option.bind_eq_some_iff.mp H
  obtain ⟨⟨t295, t296⟩, A30, H⟩ := H
  replace H : ((impl_ReadHttpDate.f k a0).bind fun bt297 => (if bt297.1 = t295 then (if (bt297.2 != t296) = true then (some false) else (some true)) else (some false))) = some r := H
  have A3 := Aside0.mk A30
  clear A30
  replace H := Option.bind_eq_some_iff.mp H
  obtain ⟨⟨t297, t298⟩, A40, H⟩ := H
  replace H : (if t297 = t295 then (if (t298 != t296) = true then (some false) else (some true)) else (some false)) = some r := H
  have A4 := Aside0.mk A40
  clear A40
  by_cases c5 : t297 = t295
  ·
   rw [if_pos c5] at H
   have c5b0 : (t297 == t295) = true := beq_iff_eq.mpr c5
   have c5b1 : (t297 != t295) = false := bne_eq_false_iff_eq.mpr c5
   clear c5
   by_cases c6 : (t298 != t296) = true
   ·
    rw [if_pos c6] at H
    have c6b0 : (t298 != t296) = true := c6
    (try (have c6b1 : decide (t298 = t296) = false := by simpa using c6))
    (try (have c6b2 : (t298 == t296) = false := by simpa using c6))
    (try (have c6b3 : ¬ (t298 = t296) := by simpa using c6))
    clear c6
    obtain rfl := Option.some.inj H
    go_enter Tryd.func11, Tryd.ntmps11
    go_wp2_with (first | ((with_reducible refine gate_callee (f := 34) rfl ?_); refine goesL_ (some 12) rfl rfl Tryd.func34 (by kernel_rfl) rfl #[.string a0] rfl (by (try simp only [List.map_toArray, List.map_cons, List.map_nil]); first | done | rfl | (simp only [List.length_drop, List.length_take]; rfl)) ?_; (with_reducible refine (spec_ReadHttpDate.calls k a0 t295 t296 _ A3.out).mono ?_); rintro e w7 ⟨rfl, hb⟩; refine ⟨_, rfl, ?_⟩; have n0_ := Aside0.mk (below_step (by repeat (first | (with_reducible first | exact HB.out | apply below_alloc | apply pw_below_drewN | apply below_drew1) | exact HB.out)) hb); clear HB; have HB := n0_; clear n0_; (try clear hb); (try clear hb2); (try clear hk); (try clear hi)) | ((with_reducible refine gate_callee (f := 35) rfl ?_); refine goesL_ (some 17) rfl rfl Tryd.func35 (by kernel_rfl) rfl #[.string a0] rfl (by (try simp only [List.map_toArray, List.map_cons, List.map_nil]); first | done | rfl | (simp only [List.length_drop, List.length_take]; rfl)) ?_; (with_reducible refine (impl_ReadHttpDate.calls k a0 t297 t298 _ ?side1 A4.out).mono ?_); (case side1 => exact Tab.below HT.out (by repeat (first | (with_reducible first | exact HB.out | apply below_alloc | apply pw_below_drewN | apply below_drew1) | exact HB.out))); rintro e w8 ⟨rfl, hb⟩; refine ⟨_, rfl, ?_⟩; have n0_ := Aside0.mk (below_step (by repeat (first | (with_reducible first | exact HB.out | apply below_alloc | apply pw_below_drewN | apply below_drew1) | exact HB.out)) hb); clear HB; have HB := n0_; clear n0_; (try clear hb); (try clear hb2); (try clear hk); (try clear hi)))
    go_ret
    exact ⟨by first | rfl | (simp [errW_none, errW_some] <;> rfl) | (simp [*, errW_none, errW_some] <;> rfl), by repeat (first | (with_reducible first | exact HB.out | apply below_alloc | apply pw_below_drewN | apply below_drew1) | exact HB.out)⟩
   ·
    rw [if_neg c6] at H
    have c6b0 : (t298 != t296) = false := by simpa using c6
    (try (have c6b1 : decide (t298 = t296) = true := by simpa using c6))
    (try (have c6b2 : (t298 == t296) = true := by simpa using c6))
    clear c6
    obtain rfl := Option.some.inj H
    go_enter Tryd.func11, Tryd.ntmps11
    go_wp2_with (first | ((with_reducible refine gate_callee (f := 34) rfl ?_); refine goesL_ (some 12) rfl rfl Tryd.func34 (by kernel_rfl) rfl #[.string a0] rfl (by (try simp only [List.map_toArray, List.map_cons, List.map_nil]); first | done | rfl | (simp only [List.length_drop, List.length_take]; rfl)) ?_; (with_reducible refine (spec_ReadHttpDate.calls k a0 t295 t296 _ A3.out).mono ?_); rintro e w9 ⟨rfl, hb⟩; refine ⟨_, rfl, ?_⟩; have n0_ := Aside0.mk (below_step (by repeat (first | (with_reducible first | exact HB.out | apply below_alloc | apply pw_below_drewN | apply below_drew1) | exact HB.out)) hb); clear HB; have HB := n0_; clear n0_; (try clear hb); (try clear hb2); (try clear hk); (try clear hi)) | ((with_reducible refine gate_callee (f := 35) rfl ?_); refine goesL_ (some 17) rfl rfl Tryd.func35 (by kernel_rfl) rfl #[.string a0] rfl (by (try simp only [List.map_toArray, List.map_cons, List.map_nil]); first | done | rfl | (simp only [List.length_drop, List.length_take]; rfl)) ?_; (with_reducible refine (impl_ReadHttpDate.calls k a0 t297 t298 _ ?side1 A4.out).mono ?_); (case side1 => exact Tab.below HT.out (by repeat (first | (with_reducible first | exact HB.out | apply below_alloc | apply pw_below_drewN | apply below_drew1) | exact HB.out))); rintro e w10 ⟨rfl, hb⟩; refine ⟨_, rfl, ?_⟩; have n0_ := Aside0.mk (below_step (by repeat (first | (with_reducible first | exact HB.out | apply below_alloc | apply pw_below_drewN | apply below_drew1) | exact HB.out)) hb); clear HB; have HB := n0_; clear n0_; (try clear hb); (try clear hb2); (try clear hk); (try clear hi)))
    go_ret
    exact ⟨by first | rfl | (simp [errW_none, errW_some] <;> rfl) | (simp [*, errW_none, errW_some] <;> rfl), by repeat (first | (with_reducible first | exact HB.out | apply below_alloc | apply pw_below_drewN | apply below_drew1) | exact HB.out)⟩
  ·
   rw [if_neg c5] at H
   have c5b0 : (t297 == t295) = false := beq_eq_false_iff_ne.mpr c5
   have c5b1 : (t297 != t295) = true := bne_iff_ne.mpr c5
   obtain rfl := Option.some.inj H
   go_enter Tryd.func11, Tryd.ntmps11
   go_wp2_with (first | ((with_reducible refine gate_callee (f := 34) rfl ?_); refine goesL_ (some 12) rfl rfl Tryd.func34 (by kernel_rfl) rfl #[.string a0] rfl (by (try simp only [List.map_toArray, List.map_cons, List.map_nil]); first | done | rfl | (simp only [List.length_drop, List.length_take]; rfl)) ?_; (with_reducible refine (spec_ReadHttpDate.calls k a0 t295 t296 _ A3.out).mono ?_); rintro e w11 ⟨rfl, hb⟩; refine ⟨_, rfl, ?_⟩; have n0_ := Aside0.mk (below_step (by repeat (first | (with_reducible first | exact HB.out | apply below_alloc | apply pw_below_drewN | apply below_drew1) | exact HB.out)) hb); clear HB; have HB := n0_; clear n0_; (try clear hb); (try clear hb2); (try clear hk); (try clear hi)) | ((with_reducible refine gate_callee (f := 35) rfl ?_); refine goesL_ (some 17) rfl rfl Tryd.func35 (by kernel_rfl) rfl #[.string a0] rfl (by (try simp only [List.map_toArray, List.map_cons, List.map_nil]); first | done | rfl | (simp only [List.length_drop, List.length_take]; rfl)) ?_; (with_reducible refine (impl_ReadHttpDate.calls k a0 t297 t298 _ ?side1 A4.out).mono ?_); (case side1 => exact Tab.below HT.out (by repeat (first | (with_reducible first | exact HB.out | apply below_alloc | apply pw_below_drewN | apply below_drew1) | exact HB.out))); rintro e w12 ⟨rfl, hb⟩; refine ⟨_, rfl, ?_⟩; have n0_ := Aside0.mk (below_step (by repeat (first | (with_reducible first | exact HB.out | apply below_alloc | apply pw_below_drewN | apply below_drew1) | exact HB.out)) hb); clear HB; have HB := n0_; clear n0_; (try clear hb); (try clear hb2); (try clear hk); (try clear hi)))
   go_ret
   exact ⟨by first | rfl | (simp [errW_none, errW_some] <;> rfl) | (simp [*, errW_none, errW_some] <;> rfl), by repeat (first | (with_reducible first | exact HB.out | apply below_alloc | apply pw_below_drewN | apply below_drew1) | exact HB.out)⟩

/-- THE ONE PURE STATEMENT of laws_FnExactReadHttpDate: yours. -/
def laws_FnExactReadHttpDate.Pure : Prop := ∀ (a0 : ByteArray), a0.size ≤ 140737488351232 → ∃ k, laws_FnExactReadHttpDate.f k a0 = some true
theorem laws_FnExactReadHttpDate.walk (P : laws_FnExactReadHttpDate.Pure) (a0 : ByteArray) (w : World) (w0 : a0.size ≤ 140737488351232) (ht : Tab w) :
  Calls Tryd.prog 11 #[.string a0] w fun e w' => e = .returned (.bool true) ∧ Below w.heap.size w w' := by
 obtain ⟨k, h⟩ := P a0 w0
 refine (laws_FnExactReadHttpDate.calls k a0 true w ht h).mono ?_
 rintro e w' ⟨rfl, hd⟩
 exact ⟨rfl, hd⟩

end Go.Proofs.YtgjbhdfncappdaaDoor.PFnExactReadHttpDate
