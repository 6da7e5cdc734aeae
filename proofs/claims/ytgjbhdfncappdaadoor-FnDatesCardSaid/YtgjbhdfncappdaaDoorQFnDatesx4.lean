-- Written by a program of this session.
import Derived.Test.YtgjbhdfncappdaaDoorQFnDatesx0
import Derived.Test.YtgjbhdfncappdaaDoorQFnDatesx2
namespace Go.Proofs.YtgjbhdfncappdaaDoor.PFnDates
open Go.Proofs.YtgjbhdfncappdaaDoor.Foreign
open Go.RowKit Go.Proofs.YtgjbhdfncappdaaDoorW.PrintWords Go.Proofs.YtgjbhdfncappdaaDoorW.PrintLast Go.Proofs.YtgjbhdfncappdaaDoorW.PrintMore
attribute [local go_sem] max2_int min2_int max_two min_two max_three min_three max_four min_four   -- for this text's walks alone
set_option linter.unusedVariables false
set_option linter.unusedSimpArgs false

/-! ### impl_monthIn: function 66 -/
def impl_monthIn.l0 : Nat → ByteArray → List ByteArray → Int → Int → Option (Int)
 | 0, _, _, _, _ => none
 | k + 1, x0, x5, x6, x7 => if x7 < x6 then (if 0 ≤ x7 then (if x7 < (x5.length : Int) then ((strings_Contains.f x0 (rdOf ByteArray.empty x5 x7)).bind fun t196 => (if t196 = true then (some (wrap64 (x7 + 1))) else (impl_monthIn.l0 k x0 x5 x6 (wrap64 (x7 + 1))))) else (none)) else (none)) else (some 0)
def impl_monthIn.f (k : Nat) (a0 : ByteArray) : Option (Int) := (impl_months.f).bind fun t192 => (impl_monthIn.l0 k a0 t192 (t192.length : Int) 0)
theorem impl_monthIn.mono_l : ∀ k, (∀ y0 y1 y2 y3, LeO (impl_monthIn.l0 k y0 y1 y2 y3) (impl_monthIn.l0 (k + 1) y0 y1 y2 y3))
 | 0 => fun _ _ _ _ r h => by simp [impl_monthIn.l0] at h
 | k + 1 => by
  have ih0 := impl_monthIn.mono_l k
  ·
   intro y0 y1 y2 y3
   unfold impl_monthIn.l0
   repeat' first
   | (with_reducible exact ih0 _ _ _ _)
   | (with_reducible exact LeO.refl _)
   | (with_reducible exact LeO.none _)
   | (with_reducible refine LeO.ite ?_ ?_)
   | (with_reducible refine LeO.bind ?_ (fun _ => ?_))
   | exact ih0 _ _ _ _
   | exact LeO.none _
   | refine LeO.ite ?_ ?_
   | refine LeO.bind ?_ (fun _ => ?_)
theorem impl_monthIn.mono : ∀ a0 k, LeO (impl_monthIn.f k a0) (impl_monthIn.f (k + 1) a0) := by
 intro a0 k
 have ih0 := impl_monthIn.mono_l k
 unfold impl_monthIn.f
 repeat' first
   | (with_reducible exact ih0 _ _ _ _)
   | (with_reducible exact LeO.refl _)
   | (with_reducible exact LeO.none _)
   | (with_reducible refine LeO.ite ?_ ?_)
   | (with_reducible refine LeO.bind ?_ (fun _ => ?_))
   | exact ih0 _ _ _ _
   | exact LeO.none _
   | refine LeO.ite ?_ ?_
   | refine LeO.bind ?_ (fun _ => ?_)
set_option maxHeartbeats 8000000 in
set_option maxRecDepth 100000 in
theorem impl_monthIn.calls (k : Nat) (a0 : ByteArray) (r : Int) (w : World) (ht : Tab w) (h : impl_monthIn.f k a0 = some r) :
  Calls Tryd.prog 66 #[.string a0] w fun e w' => e = .returned (.int .i64 r) ∧ Below w.heap.size w w' := by
 have HB := Aside0.mk (Below.refl w.heap.size w)
 have HT := Aside0.mk ht
 clear ht
 have H : ((impl_months.f).bind fun t192 => (impl_monthIn.l0 k a0 t192 (t192.length : Int) 0)) = some r := h
 clear h
 replace H := Option.bind_eq_some_iff.mp H
 obtain ⟨t192, A20, H⟩ := H
 replace H : (impl_monthIn.l0 k a0 t192 (t192.length : Int) 0) = some r := H
 have A2 := Aside0.mk A20
 clear A20
 have H' := Aside0.mk H
 clear H
 go_enter Tryd.func66, Tryd.ntmps66
 go_wp2_with (first | ((with_reducible refine gate_callee (f := 55) rfl ?_); refine goesL_ (some 5) rfl rfl Tryd.func55 (by kernel_rfl) rfl #[] rfl (by (try simp only [List.map_toArray, List.map_cons, List.map_nil]); first | done | rfl | (simp only [List.length_drop, List.length_take]; rfl)) ?_; (with_reducible refine (impl_months.calls  t192 _ A2.out).mono ?_); rintro e w3 ⟨v193, rfl, ho0, hb⟩; refine ⟨_, rfl, ?_⟩; have n0_ := Aside0.mk (Kd.R_lower ho0 (below_size (by repeat (first | (with_reducible first | exact HB.out | apply below_alloc | apply pw_below_drewN | apply below_drew1) | exact HB.out)))); have n1_ := Aside0.mk (below_step (by repeat (first | (with_reducible first | exact HB.out | apply below_alloc | apply pw_below_drewN | apply below_drew1) | exact HB.out)) hb); clear HB; have HO194 := n0_; have HB := n1_; clear n0_ n1_; (try clear hb); (try clear hb2); (try clear hk); (try clear hi); (try clear ho0); obtain ⟨Ao4, co4, eo4⟩ := Kd.R_slice HO194.out; subst eo4))
 go_loopg [7] k (fun kq v7 w' => ∃ (x7_1 : Int), v7 = .int .i64 x7_1 ∧ Aside0 (impl_monthIn.l0 kq a0 t192 (t192.length : Int) x7_1 = some r) ∧ Aside0 (kq ≤ k) ∧ Aside0 (Kd.R Kd.string 9 w' w.heap.size (fun _ => True) (.slice Ao4 t192.length co4) t192) ∧ Aside0 (Below w.heap.size w w'))
 case atStart => exact ⟨(0), (by first | rfl | (simp; done) | (simp [*]; done)), H', ⟨Nat.le_refl _⟩, ⟨by (with_reducible repeat (first | apply Kd.R_alloc | apply Kd.R_drewN | apply Kd.R_drew)); exact HO194.out⟩, ⟨by repeat (first | (with_reducible first | exact HB.out | apply below_alloc | apply pw_below_drewN | apply below_drew1) | exact HB.out)⟩⟩
 case round =>
  clear H'
  try clear p2
  obtain ⟨x7_1, rfl, HA, HK1, HO_5, HB⟩ := hrel
  cases gk with
  | zero => exact absurd HA.out (by simp [impl_monthIn.l0])
  | succ k1 =>
   have H := HA.out
   clear HA
   simp only [impl_monthIn.l0] at H
   by_cases c5 : x7_1 < (t192.length : Int)
   ·
    rw [if_pos c5] at H
    have c5b0 : decide (x7_1 < (t192.length : Int)) = true := decide_eq_true c5
    clear c5
    have c6 : 0 ≤ x7_1 := Classical.byContradiction fun h_ => by rw [if_neg h_] at H; exact absurd H (by simp)
    rw [if_pos c6] at H
    have c6b0 : decide (0 ≤ x7_1) = true := decide_eq_true c6
    clear c6
    have c7 : x7_1 < (t192.length : Int) := Classical.byContradiction fun h_ => by rw [if_neg h_] at H; exact absurd H (by simp)
    rw [if_pos c7] at H
    have c7b0 : decide (x7_1 < (t192.length : Int)) = true := decide_eq_true c7
    clear c7
    replace H := Option.bind_eq_some_iff.mp H
    obtain ⟨t196, A80, H⟩ := H
    replace H : (if t196 = true then (some (wrap64 (x7_1 + 1))) else (impl_monthIn.l0 k1 a0 t192 (t192.length : Int) (wrap64 (x7_1 + 1)))) = some r := H
    have A8 := Aside0.mk A80
    clear A80
    by_cases c9 : t196 = true
    ·
     subst c9
     have H1 : (some (wrap64 (x7_1 + 1))) = some r := by rw [if_pos rfl] at H; exact H
     clear H
     have H := H1
     clear H1
     obtain rfl := Option.some.inj H
     have p195 : 0 ≤ (x7_1 : Int) := of_decide_eq_true (by first | (with_reducible assumption) | assumption)
     have q195 : x7_1 < (t192.length : Int) := of_decide_eq_true (by first | (with_reducible assumption) | assumption)
     obtain ⟨ad195, e195, hx195_0⟩ := Kd.at_string (Kd.R_reads' HO_5.out).2.2 x7_1 p195 q195
     cases e195
     replace p195 := eq_true p195
     replace q195 := eq_true q195
     go_wp2_with (first | ((with_reducible refine gate_callee (f := 78) rfl ?_); refine goesL_ (some 14) rfl rfl Tryd.func78 (by kernel_rfl) rfl #[.string a0, .string (rdOf ByteArray.empty t192 x7_1)] rfl (by (try simp only [List.map_toArray, List.map_cons, List.map_nil]); first | done | rfl | (simp only [List.length_drop, List.length_take]; rfl)) ?_; (with_reducible refine (strings_Contains.calls a0 (rdOf ByteArray.empty t192 x7_1) true _ ?side1 A8.out).mono ?_); (case side1 => exact Tab.below HT.out (by repeat (first | (with_reducible first | exact HB.out | apply below_alloc | apply pw_below_drewN | apply below_drew1) | exact HB.out))); rintro e w' ⟨rfl, ⟨nd, rfl⟩⟩; refine ⟨_, rfl, ?_⟩))
     go_ret
     exact ⟨by first | rfl | (simp [errW_none, errW_some] <;> rfl) | (simp [*, errW_none, errW_some] <;> rfl), by repeat (first | (with_reducible first | exact HB.out | apply below_alloc | apply pw_below_drewN | apply below_drew1) | exact HB.out)⟩
    ·
     replace c9 := Bool.eq_false_iff.mpr c9
     subst c9
     have H1 : (impl_monthIn.l0 k1 a0 t192 (t192.length : Int) (wrap64 (x7_1 + 1))) = some r := by rw [if_neg (show ¬ (false = true) by decide)] at H; exact H
     clear H
     have H := H1
     clear H1
     have H' := Aside0.mk H
     clear H
     have p195 : 0 ≤ (x7_1 : Int) := of_decide_eq_true (by first | (with_reducible assumption) | assumption)
     have q195 : x7_1 < (t192.length : Int) := of_decide_eq_true (by first | (with_reducible assumption) | assumption)
     obtain ⟨ad195, e195, hx195_0⟩ := Kd.at_string (Kd.R_reads' HO_5.out).2.2 x7_1 p195 q195
     cases e195
     replace p195 := eq_true p195
     replace q195 := eq_true q195
     go_wp2_with (first | ((with_reducible refine gate_callee (f := 78) rfl ?_); refine goesL_ (some 14) rfl rfl Tryd.func78 (by kernel_rfl) rfl #[.string a0, .string (rdOf ByteArray.empty t192 x7_1)] rfl (by (try simp only [List.map_toArray, List.map_cons, List.map_nil]); first | done | rfl | (simp only [List.length_drop, List.length_take]; rfl)) ?_; (with_reducible refine (strings_Contains.calls a0 (rdOf ByteArray.empty t192 x7_1) false _ ?side1 A8.out).mono ?_); (case side1 => exact Tab.below HT.out (by repeat (first | (with_reducible first | exact HB.out | apply below_alloc | apply pw_below_drewN | apply below_drew1) | exact HB.out))); rintro e w' ⟨rfl, ⟨nd, rfl⟩⟩; refine ⟨_, rfl, ?_⟩))
     go_roundg k1
     case measure => have := HK1.out; omega
     case rel => exact ⟨(wrap64 (x7_1 + 1)), (by first | rfl | (simp; done) | (simp [*]; done)), H', ⟨by have := HK1.out; omega⟩, ⟨by (with_reducible repeat (first | apply Kd.R_alloc | apply Kd.R_drewN | apply Kd.R_drew)); exact HO_5.out⟩, ⟨by repeat (first | (with_reducible first | exact HB.out | apply below_alloc | apply pw_below_drewN | apply below_drew1) | exact HB.out)⟩⟩
   ·
    rw [if_neg c5] at H
    have c5b0 : decide (x7_1 < (t192.length : Int)) = false := decide_eq_false c5
    clear c5
    obtain rfl := Option.some.inj H
    go_wp2
    go_ret
    exact ⟨by first | rfl | (simp [errW_none, errW_some] <;> rfl) | (simp [*, errW_none, errW_some] <;> rfl), by repeat (first | (with_reducible first | exact HB.out | apply below_alloc | apply pw_below_drewN | apply below_drew1) | exact HB.out)⟩

-- told elsewhere: function 67 (strings_IndexByte)

end Go.Proofs.YtgjbhdfncappdaaDoor.PFnDates
namespace Go.Proofs.YtgjbhdfncappdaaDoor.PFnDates
open Go.Proofs.YtgjbhdfncappdaaDoor.Foreign
open Go.RowKit Go.Proofs.YtgjbhdfncappdaaDoorW.PrintWords Go.Proofs.YtgjbhdfncappdaaDoorW.PrintLast Go.Proofs.YtgjbhdfncappdaaDoorW.PrintMore
attribute [local go_sem] max2_int min2_int max_two min_two max_three min_three max_four min_four   -- for this text's walks alone
set_option linter.unusedVariables false
set_option linter.unusedSimpArgs false

/-! ### impl_ReadHttpDate: function 35 -/
mutual
def impl_ReadHttpDate.j0 : Nat → ByteArray → Bool → Option (Int × Bool)
 | 0, _, _ => none
 | k + 1, x0, x17 => if x17 = true then (some (0, false)) else ((impl_numbersIn.f k x0).bind fun t197 => (if (t197.length : Int) = 5 then (if 3 ≤ (x0.size : Int) then ((impl_monthIn.f k (x0.extract 3 x0.size)).bind fun t200 => ((strings_IndexByte.f x0 44).bind fun t202 => (if t202 ≥ 0 then (if 0 ≤ t202 then (if t202 ≤ (x0.size : Int) then ((impl_monthIn.f k (x0.extract (t202 : Int).toNat x0.size)).bind fun t203 => (if 1 < (t197.length : Int) then (if 0 < (t197.length : Int) then (if 2 < (t197.length : Int) then (if 3 < (t197.length : Int) then (if 4 < (t197.length : Int) then ((strings_IndexByte.f x0 45).bind fun t209 => (if t209 ≥ 0 then (if (wrap64 ((rd t197 1) + 1900)) < 1970 then (impl_ReadHttpDate.j1 k x0 (wrap64 ((wrap64 ((rd t197 1) + 1900)) + 100)) t203 (rd t197 0) (rd t197 2) (rd t197 3) (rd t197 4)) else (impl_ReadHttpDate.j1 k x0 (wrap64 ((rd t197 1) + 1900)) t203 (rd t197 0) (rd t197 2) (rd t197 3) (rd t197 4))) else (impl_ReadHttpDate.j1 k x0 (rd t197 1) t203 (rd t197 0) (rd t197 2) (rd t197 3) (rd t197 4)))) else (none)) else (none)) else (none)) else (none)) else (none))) else (none)) else (none)) else (if 4 < (t197.length : Int) then (if 0 < (t197.length : Int) then (if 1 < (t197.length : Int) then (if 2 < (t197.length : Int) then (if 3 < (t197.length : Int) then (impl_ReadHttpDate.j1 k x0 (rd t197 4) t200 (rd t197 0) (rd t197 1) (rd t197 2) (rd t197 3)) else (none)) else (none)) else (none)) else (none)) else (none))))) else (none)) else (some (0, false))))
def impl_ReadHttpDate.j1 : Nat → ByteArray → Int → Int → Int → Int → Int → Int → Option (Int × Bool)
 | 0, _, _, _, _, _, _, _ => none
 | k + 1, x0, x202000, x202001, x202002, x202003, x202004, x202005 => (impl_SecondsOf.f x202000 x202001 x202002 x202003 x202004 x202005).bind fun bt215 => (if bt215.2 = true then ((impl_HttpDate.f bt215.1).bind fun t217 => (if t217.toList = x0.toList then (some (bt215.1, true)) else ((impl_LongDate.f k bt215.1).bind fun t218 => (if t218.toList = x0.toList then (some (bt215.1, true)) else ((impl_LineDate.f k bt215.1).bind fun t219 => (if t219.toList = x0.toList then (some (bt215.1, true)) else (some (0, false)))))))) else (some (0, false)))
end
def impl_ReadHttpDate.f (k : Nat) (a0 : ByteArray) : Option (Int × Bool) := if (a0.size : Int) < 6 then (impl_ReadHttpDate.j0 k a0 true) else (impl_ReadHttpDate.j0 k a0 (decide ((a0.size : Int) > 40)))
theorem impl_ReadHttpDate.mono_l : ∀ k, (∀ y0 y1, LeO (impl_ReadHttpDate.j0 k y0 y1) (impl_ReadHttpDate.j0 (k + 1) y0 y1)) ∧ (∀ y0 y1 y2 y3 y4 y5 y6, LeO (impl_ReadHttpDate.j1 k y0 y1 y2 y3 y4 y5 y6) (impl_ReadHttpDate.j1 (k + 1) y0 y1 y2 y3 y4 y5 y6))
 | 0 => ⟨fun _ _ r h => by simp [impl_ReadHttpDate.j0] at h, fun _ _ _ _ _ _ _ r h => by simp [impl_ReadHttpDate.j1] at h⟩
 | k + 1 => by
  obtain ⟨ih0, ih1⟩ := impl_ReadHttpDate.mono_l k
  refine ⟨?_, ?_⟩
  ·
   intro y0 y1
   unfold impl_ReadHttpDate.j0
   repeat' first
   | (with_reducible exact ih0 _ _)
   | (with_reducible exact ih1 _ _ _ _ _ _ _)
   | (with_reducible exact impl_LineDate.mono _ _)
   | (with_reducible exact impl_LongDate.mono _ _)
   | (with_reducible exact impl_monthIn.mono _ _)
   | (with_reducible exact impl_numbersIn.mono _ _)
   | (with_reducible exact LeO.refl _)
   | (with_reducible exact LeO.none _)
   | (with_reducible refine LeO.ite ?_ ?_)
   | (with_reducible refine LeO.bind ?_ (fun _ => ?_))
   | exact ih0 _ _
   | exact ih1 _ _ _ _ _ _ _
   | exact impl_LineDate.mono _ _
   | exact impl_LongDate.mono _ _
   | exact impl_monthIn.mono _ _
   | exact impl_numbersIn.mono _ _
   | exact LeO.none _
   | refine LeO.ite ?_ ?_
   | refine LeO.bind ?_ (fun _ => ?_)
  ·
   intro y0 y1 y2 y3 y4 y5 y6
   unfold impl_ReadHttpDate.j1
   repeat' first
   | (with_reducible exact ih0 _ _)
   | (with_reducible exact ih1 _ _ _ _ _ _ _)
   | (with_reducible exact impl_LineDate.mono _ _)
   | (with_reducible exact impl_LongDate.mono _ _)
   | (with_reducible exact impl_monthIn.mono _ _)
   | (with_reducible exact impl_numbersIn.mono _ _)
   | (with_reducible exact LeO.refl _)
   | (with_reducible exact LeO.none _)
   | (with_reducible refine LeO.ite ?_ ?_)
   | (with_reducible refine LeO.bind ?_ (fun _ => ?_))
   | exact ih0 _ _
   | exact ih1 _ _ _ _ _ _ _
   | exact impl_LineDate.mono _ _
   | exact impl_LongDate.mono _ _
   | exact impl_monthIn.mono _ _
   | exact impl_numbersIn.mono _ _
   | exact LeO.none _
   | refine LeO.ite ?_ ?_
   | refine LeO.bind ?_ (fun _ => ?_)
theorem impl_ReadHttpDate.mono : ∀ a0 k, LeO (impl_ReadHttpDate.f k a0) (impl_ReadHttpDate.f (k + 1) a0) := by
 intro a0 k
 obtain ⟨ih0, ih1⟩ := impl_ReadHttpDate.mono_l k
 unfold impl_ReadHttpDate.f
 repeat' first
   | (with_reducible exact ih0 _ _)
   | (with_reducible exact ih1 _ _ _ _ _ _ _)
   | (with_reducible exact impl_LineDate.mono _ _)
   | (with_reducible exact impl_LongDate.mono _ _)
   | (with_reducible exact impl_monthIn.mono _ _)
   | (with_reducible exact impl_numbersIn.mono _ _)
   | (with_reducible exact LeO.refl _)
   | (with_reducible exact LeO.none _)
   | (with_reducible refine LeO.ite ?_ ?_)
   | (with_reducible refine LeO.bind ?_ (fun _ => ?_))
   | exact ih0 _ _
   | exact ih1 _ _ _ _ _ _ _
   | exact impl_LineDate.mono _ _
   | exact impl_LongDate.mono _ _
   | exact impl_monthIn.mono _ _
   | exact impl_numbersIn.mono _ _
   | exact LeO.none _
   | refine LeO.ite ?_ ?_
   | refine LeO.bind ?_ (fun _ => ?_)
def impl_ReadHttpDate.T11 : Bool × List (List Nat × List Nat) := (true, [([], []), ([0], [0]), ([1], [1]), ([], []), ([], []), ([4], [4]), ([5], [5]), ([], []), ([7], [7]), ([8], [8]), ([], []), ([10], [10]), ([11], [11]), ([], []), ([13], [13]), ([14], [14]), ([2, 3, 6, 9, 12, 15], [2, 3, 6, 9, 12, 15]), ([16, 0, 1, 2, 3, 4, 5, 6, 7, 8, 9, 10, 11, 12, 13, 14, 15, 16], [16])])
def impl_ReadHttpDate.B11 : List Nat := [0, 1, 3, 0, 0, 16, 48, 0, 128, 384, 0, 1024, 3072, 0, 8192, 24576, 65535, 131071]
theorem impl_ReadHttpDate.tab11 : rtab .any (opsOf Tryd.f35 11) = impl_ReadHttpDate.T11 := by kernel_rfl
theorem impl_ReadHttpDate.bits11 : waitsOk impl_ReadHttpDate.T11.2 impl_ReadHttpDate.B11 = true := by kernel_rfl
def impl_ReadHttpDate.T16 : Bool × List (List Nat × List Nat) := (true, [([], []), ([0], [0]), ([1], [1]), ([], []), ([], []), ([4], [4]), ([5], [5]), ([], []), ([7], [7]), ([8], [8]), ([], []), ([10], [10]), ([11], [11]), ([], []), ([13], [13]), ([14], [14]), ([2, 3, 6, 9, 12, 15], [2, 3, 6, 9, 12, 15]), ([16, 0, 1, 2, 3, 4, 5, 6, 7, 8, 9, 10, 11, 12, 13, 14, 15, 16], [16])])
def impl_ReadHttpDate.B16 : List Nat := [0, 1, 3, 0, 0, 16, 48, 0, 128, 384, 0, 1024, 3072, 0, 8192, 24576, 65535, 131071]
theorem impl_ReadHttpDate.tab16 : rtab .any (opsOf Tryd.f35 16) = impl_ReadHttpDate.T16 := by kernel_rfl
theorem impl_ReadHttpDate.bits16 : waitsOk impl_ReadHttpDate.T16.2 impl_ReadHttpDate.B16 = true := by kernel_rfl
set_option maxHeartbeats 8000000 in
set_option maxRecDepth 100000 in
theorem impl_ReadHttpDate.calls (k : Nat) (a0 : ByteArray) (r1 : Int) (r2 : Bool) (w : World) (ht : Tab w) (h : impl_ReadHttpDate.f k a0 = some (r1, r2)) :
  Calls Tryd.prog 35 #[.string a0] w fun e w' => e = .returned (.tuple #[.int .i64 r1, .bool r2]) ∧ Below w.heap.size w w' := by
 have hu30 := Tryd.underlying30
 have HB := Aside0.mk (Below.refl w.heap.size w)
 have HT := Aside0.mk ht
 clear ht
 have H : (if (a0.size : Int) < 6 then (impl_ReadHttpDate.j0 k a0 true) else (impl_ReadHttpDate.j0 k a0 (decide ((a0.size : Int) > 40)))) = some (r1, r2) := h
 clear h
 have HC2 := Aside0.mk H
 clear H
 go_enter Tryd.func35, Tryd.ntmps35
 go_upto_region 1 with (fail)
 go_cut [17] (fun v17 wc => ∃ (kq : Nat) (x17_1 : Bool), v17 = .bool x17_1 ∧ Aside0 (impl_ReadHttpDate.j0 kq a0 x17_1 = some (r1, r2)) ∧ Aside0 (kq ≤ k) ∧ Aside0 (Below w.heap.size w wc))
 case first =>
  have H := HC2.out
  clear HC2
  by_cases c3 : (a0.size : Int) < 6
  ·
   rw [if_pos c3] at H
   have c3b0 : decide ((a0.size : Int) < 6) = true := decide_eq_true c3
   have c3b1 : decide (a0.size < 6) = true := decide_eq_true (by omega)
   clear c3
   (first | rw [c3b0] | (simp only [i64_w, i32_w]; rw [c3b0]) | skip)
   have H' := Aside0.mk H
   clear H
   go_wp2
   go_meet
   case rel => exact ⟨_, (true), (by first | rfl | (simp; done) | (simp [*]; done)), H', ⟨by first | omega | exact Nat.le_refl _⟩, ⟨by repeat (first | (with_reducible first | exact HB.out | apply below_alloc | apply pw_below_drewN | apply below_drew1) | exact HB.out)⟩⟩
  ·
   rw [if_neg c3] at H
   have c3b0 : decide ((a0.size : Int) < 6) = false := decide_eq_false c3
   have c3b1 : decide (a0.size < 6) = false := decide_eq_false (by omega)
   clear c3
   (first | rw [c3b0] | (simp only [i64_w, i32_w]; rw [c3b0]) | skip)
   have H' := Aside0.mk H
   clear H
   go_wp2
   go_meet
   case rel => exact ⟨_, (decide ((a0.size : Int) > 40)), (by first | rfl | (simp; done) | (simp [*]; done)), H', ⟨by first | omega | exact Nat.le_refl _⟩, ⟨by repeat (first | (with_reducible first | exact HB.out | apply below_alloc | apply pw_below_drewN | apply below_drew1) | exact HB.out)⟩⟩
 case rest =>
  clear HC2
  try clear p2
  try clear c3
  try clear c3b0
  try clear c3b1
  obtain ⟨kq, x17_1, rfl, HA, HJ1, HB⟩ := hcut
  cases kq with
  | zero => exact absurd HA.out (by simp [impl_ReadHttpDate.j0])
  | succ kj1 =>
   have H := HA.out
   clear HA
   simp only [impl_ReadHttpDate.j0] at H
   by_cases c4 : x17_1 = true
   ·
    subst c4
    have H1 : (some (0, false)) = some (r1, r2) := by rw [if_pos rfl] at H; exact H
    clear H
    have H := H1
    clear H1
    simp only [Option.some.injEq, Prod.mk.injEq] at H
    obtain ⟨rfl, rfl⟩ := H
    go_wp2
    go_ret2
    exact ⟨by first | rfl | (simp [errW_none, errW_some] <;> rfl) | (simp [*, errW_none, errW_some] <;> rfl), by repeat (first | (with_reducible first | exact HB.out | apply below_alloc | apply pw_below_drewN | apply below_drew1) | exact HB.out)⟩
   ·
    replace c4 := Bool.eq_false_iff.mpr c4
    subst c4
    have H1 : ((impl_numbersIn.f kj1 a0).bind fun t197 => (if (t197.length : Int) = 5 then (if 3 ≤ (a0.size : Int) then ((impl_monthIn.f kj1 (a0.extract 3 a0.size)).bind fun t200 => ((strings_IndexByte.f a0 44).bind fun t202 => (if t202 ≥ 0 then (if 0 ≤ t202 then (if t202 ≤ (a0.size : Int) then ((impl_monthIn.f kj1 (a0.extract (t202 : Int).toNat a0.size)).bind fun t203 => (if 1 < (t197.length : Int) then (if 0 < (t197.length : Int) then (if 2 < (t197.length : Int) then (if 3 < (t197.length : Int) then (if 4 < (t197.length : Int) then ((strings_IndexByte.f a0 45).bind fun t209 => (if t209 ≥ 0 then (if (wrap64 ((rd t197 1) + 1900)) < 1970 then (impl_ReadHttpDate.j1 kj1 a0 (wrap64 ((wrap64 ((rd t197 1) + 1900)) + 100)) t203 (rd t197 0) (rd t197 2) (rd t197 3) (rd t197 4)) else (impl_ReadHttpDate.j1 kj1 a0 (wrap64 ((rd t197 1) + 1900)) t203 (rd t197 0) (rd t197 2) (rd t197 3) (rd t197 4))) else (impl_ReadHttpDate.j1 kj1 a0 (rd t197 1) t203 (rd t197 0) (rd t197 2) (rd t197 3) (rd t197 4)))) else (none)) else (none)) else (none)) else (none)) else (none))) else (none)) else (none)) else (if 4 < (t197.length : Int) then (if 0 < (t197.length : Int) then (if 1 < (t197.length : Int) then (if 2 < (t197.length : Int) then (if 3 < (t197.length : Int) then (impl_ReadHttpDate.j1 kj1 a0 (rd t197 4) t200 (rd t197 0) (rd t197 1) (rd t197 2) (rd t197 3)) else (none)) else (none)) else (none)) else (none)) else (none))))) else (none)) else (some (0, false)))) = some (r1, r2) := by rw [if_neg (show ¬ (false = true) by decide)] at H; exact H
    clear H
    have H := H1
    clear H1
    replace H := Option.bind_eq_some_iff.mp H
    obtain ⟨t197, A50, H⟩ := H
    replace H : (if (t197.length : Int) = 5 then (if 3 ≤ (a0.size : Int) then ((impl_monthIn.f kj1 (a0.extract 3 a0.size)).bind fun t200 => ((strings_IndexByte.f a0 44).bind fun t202 => (if t202 ≥ 0 then (if 0 ≤ t202 then (if t202 ≤ (a0.size : Int) then ((impl_monthIn.f kj1 (a0.extract (t202 : Int).toNat a0.size)).bind fun t203 => (if 1 < (t197.length : Int) then (if 0 < (t197.length : Int) then (if 2 < (t197.length : Int) then (if 3 < (t197.length : Int) then (if 4 < (t197.length : Int) then ((strings_IndexByte.f a0 45).bind fun t209 => (if t209 ≥ 0 then (if (wrap64 ((rd t197 1) + 1900)) < 1970 then (impl_ReadHttpDate.j1 kj1 a0 (wrap64 ((wrap64 ((rd t197 1) + 1900)) + 100)) t203 (rd t197 0) (rd t197 2) (rd t197 3) (rd t197 4)) else (impl_ReadHttpDate.j1 kj1 a0 (wrap64 ((rd t197 1) + 1900)) t203 (rd t197 0) (rd t197 2) (rd t197 3) (rd t197 4))) else (impl_ReadHttpDate.j1 kj1 a0 (rd t197 1) t203 (rd t197 0) (rd t197 2) (rd t197 3) (rd t197 4)))) else (none)) else (none)) else (none)) else (none)) else (none))) else (none)) else (none)) else (if 4 < (t197.length : Int) then (if 0 < (t197.length : Int) then (if 1 < (t197.length : Int) then (if 2 < (t197.length : Int) then (if 3 < (t197.length : Int) then (impl_ReadHttpDate.j1 kj1 a0 (rd t197 4) t200 (rd t197 0) (rd t197 1) (rd t197 2) (rd t197 3)) else (none)) else (none)) else (none)) else (none)) else (none))))) else (none)) else (some (0, false))) = some (r1, r2) := H
    have A5 := Aside0.mk A50
    clear A50
    by_cases c6 : (t197.length : Int) = 5
    ·
     rw [if_pos c6] at H
     have c6b0 : ((t197.length : Int) == 5) = true := beq_iff_eq.mpr c6
     have c6b1 : ((t197.length : Int) != 5) = false := bne_eq_false_iff_eq.mpr c6
     clear c6
     have c7 : 3 ≤ (a0.size : Int) := Classical.byContradiction fun h_ => by rw [if_neg h_] at H; exact absurd H (by simp)
     rw [if_pos c7] at H
     have c7b0 := eq_true c7
     have c7b1 : decide (3 ≤ (a0.size : Int)) = true := decide_eq_true c7
     clear c7
     replace H := Option.bind_eq_some_iff.mp H
     obtain ⟨t200, A80, H⟩ := H
     replace H : ((strings_IndexByte.f a0 44).bind fun t202 => (if t202 ≥ 0 then (if 0 ≤ t202 then (if t202 ≤ (a0.size : Int) then ((impl_monthIn.f kj1 (a0.extract (t202 : Int).toNat a0.size)).bind fun t203 => (if 1 < (t197.length : Int) then (if 0 < (t197.length : Int) then (if 2 < (t197.length : Int) then (if 3 < (t197.length : Int) then (if 4 < (t197.length : Int) then ((strings_IndexByte.f a0 45).bind fun t209 => (if t209 ≥ 0 then (if (wrap64 ((rd t197 1) + 1900)) < 1970 then (impl_ReadHttpDate.j1 kj1 a0 (wrap64 ((wrap64 ((rd t197 1) + 1900)) + 100)) t203 (rd t197 0) (rd t197 2) (rd t197 3) (rd t197 4)) else (impl_ReadHttpDate.j1 kj1 a0 (wrap64 ((rd t197 1) + 1900)) t203 (rd t197 0) (rd t197 2) (rd t197 3) (rd t197 4))) else (impl_ReadHttpDate.j1 kj1 a0 (rd t197 1) t203 (rd t197 0) (rd t197 2) (rd t197 3) (rd t197 4)))) else (none)) else (none)) else (none)) else (none)) else (none))) else (none)) else (none)) else (if 4 < (t197.length : Int) then (if 0 < (t197.length : Int) then (if 1 < (t197.length : Int) then (if 2 < (t197.length : Int) then (if 3 < (t197.length : Int) then (impl_ReadHttpDate.j1 kj1 a0 (rd t197 4) t200 (rd t197 0) (rd t197 1) (rd t197 2) (rd t197 3)) else (none)) else (none)) else (none)) else (none)) else (none)))) = some (r1, r2) := H
     have A8 := Aside0.mk A80
     clear A80
     replace H := Option.bind_eq_some_iff.mp H
     obtain ⟨t202, A90, H⟩ := H
     replace H : (if t202 ≥ 0 then (if 0 ≤ t202 then (if t202 ≤ (a0.size : Int) then ((impl_monthIn.f kj1 (a0.extract (t202 : Int).toNat a0.size)).bind fun t203 => (if 1 < (t197.length : Int) then (if 0 < (t197.length : Int) then (if 2 < (t197.length : Int) then (if 3 < (t197.length : Int) then (if 4 < (t197.length : Int) then ((strings_IndexByte.f a0 45).bind fun t209 => (if t209 ≥ 0 then (if (wrap64 ((rd t197 1) + 1900)) < 1970 then (impl_ReadHttpDate.j1 kj1 a0 (wrap64 ((wrap64 ((rd t197 1) + 1900)) + 100)) t203 (rd t197 0) (rd t197 2) (rd t197 3) (rd t197 4)) else (impl_ReadHttpDate.j1 kj1 a0 (wrap64 ((rd t197 1) + 1900)) t203 (rd t197 0) (rd t197 2) (rd t197 3) (rd t197 4))) else (impl_ReadHttpDate.j1 kj1 a0 (rd t197 1) t203 (rd t197 0) (rd t197 2) (rd t197 3) (rd t197 4)))) else (none)) else (none)) else (none)) else (none)) else (none))) else (none)) else (none)) else (if 4 < (t197.length : Int) then (if 0 < (t197.length : Int) then (if 1 < (t197.length : Int) then (if 2 < (t197.length : Int) then (if 3 < (t197.length : Int) then (impl_ReadHttpDate.j1 kj1 a0 (rd t197 4) t200 (rd t197 0) (rd t197 1) (rd t197 2) (rd t197 3)) else (none)) else (none)) else (none)) else (none)) else (none))) = some (r1, r2) := H
     have A9 := Aside0.mk A90
     clear A90
     have HC10 := Aside0.mk H
     clear H
     go_upto_if 29 with (first | ((with_reducible refine gate_callee (f := 65) rfl ?_); refine goesL_ (some 19) rfl rfl Tryd.func65 (by kernel_rfl) rfl #[.string a0] rfl (by (try simp only [List.map_toArray, List.map_cons, List.map_nil]); first | done | rfl | (simp only [List.length_drop, List.length_take]; rfl)) ?_; (with_reducible refine (impl_numbersIn.calls kj1 a0 t197 _ A5.out).mono ?_); rintro e w11 ⟨v198, rfl, ho0, hb⟩; refine ⟨_, rfl, ?_⟩; have n0_ := Aside0.mk (Kd.R_lower ho0 (below_size (by repeat (first | (with_reducible first | exact HB.out | apply below_alloc | apply pw_below_drewN | apply below_drew1) | exact HB.out)))); have n1_ := Aside0.mk (below_step (by repeat (first | (with_reducible first | exact HB.out | apply below_alloc | apply pw_below_drewN | apply below_drew1) | exact HB.out)) hb); clear HB; have HO199 := n0_; have HB := n1_; clear n0_ n1_; (try clear hb); (try clear hb2); (try clear hk); (try clear hi); (try clear ho0); obtain ⟨Ao12, co12, eo12⟩ := Kd.R_slice HO199.out; subst eo12) | ((with_reducible refine gate_callee (f := 66) rfl ?_); refine goesL_ (some 25) rfl rfl Tryd.func66 (by kernel_rfl) rfl #[.string (a0.extract 3 a0.size)] rfl (by (try simp only [List.map_toArray, List.map_cons, List.map_nil]); first | done | rfl | (simp only [List.length_drop, List.length_take]; rfl)) ?_; (with_reducible refine (impl_monthIn.calls kj1 (a0.extract 3 a0.size) t200 _ ?side1 A8.out).mono ?_); (case side1 => exact Tab.below HT.out (by repeat (first | (with_reducible first | exact HB.out | apply below_alloc | apply pw_below_drewN | apply below_drew1) | exact HB.out))); rintro e w13 ⟨rfl, hb⟩; refine ⟨_, rfl, ?_⟩; have n0_ := Aside0.mk (Kd.R_below (by (with_reducible repeat (first | apply Kd.R_alloc | apply Kd.R_drewN | apply Kd.R_drew)); exact HO199.out) hb); have n1_ := Aside0.mk (below_step (by repeat (first | (with_reducible first | exact HB.out | apply below_alloc | apply pw_below_drewN | apply below_drew1) | exact HB.out)) hb); clear HO199; clear HB; have HO199 := n0_; have HB := n1_; clear n0_ n1_; (try clear hb); (try clear hb2); (try clear hk); (try clear hi)) | ((with_reducible refine gate_dst (N := 6) rfl ?_); (try (refine gate_guard (by rfl) ?_; dsimp only)); refine box_event ?hg (N := 6) ?hd (cs := #[.int .i64 0, .int .i64 0, .int .i64 0, .int .i64 0, .int .i64 0, .int .i64 0]) (t := 30) ?hr ?_; (case hd => rfl); (case hg => rfl); (case hr => first | (go_simp; done) | (go_simp; rfl)); intro gb201 hg w14 hbox hb; have n0_ := Aside0.mk (Kd.R_below (by (with_reducible repeat (first | apply Kd.R_alloc | apply Kd.R_drewN | apply Kd.R_drew)); exact HO199.out) hb); have n1_ := Aside0.mk (below_step (by repeat (first | (with_reducible first | exact HB.out | apply below_alloc | apply pw_below_drewN | apply below_drew1) | exact HB.out)) hb); have n2_ := Aside0.mk (hbox); have n3_ := Aside0.mk ((by rw [hg]; exact (below_size (by repeat (first | (with_reducible first | exact HB.out | apply below_alloc | apply pw_below_drewN | apply below_drew1) | exact HB.out))) : w.heap.size ≤ gb201)); have n4_ := Aside0.mk ((by rw [hg]; exact (below_size (by repeat (first | (with_reducible first | exact HB.out | apply below_alloc | apply pw_below_drewN | apply below_drew1) | exact HB.out))) : w.heap.size ≤ gb201)); clear HO199; clear HB; have HO199 := n0_; have HB := n1_; have BK201 := n2_; have GW201 := n3_; have GE201 := n4_; clear n0_ n1_ n2_ n3_ n4_; clear hb hbox hg) | ((with_reducible refine gate_callee (f := 67) rfl ?_); refine goesL_ (some 27) rfl rfl Tryd.func67 (by kernel_rfl) rfl #[.string a0, .int .u8 44] rfl (by (try simp only [List.map_toArray, List.map_cons, List.map_nil]); first | done | rfl | (simp only [List.length_drop, List.length_take]; rfl)) ?_; (with_reducible refine (strings_IndexByte.calls a0 44 t202 _ A9.out).mono ?_); rintro e w' ⟨rfl, ⟨nd, rfl⟩⟩; refine ⟨_, rfl, ?_⟩))
     (try simp only [Act.put, List.setIfInBounds_toArray, List.set_cons_zero, List.set_cons_succ])
     go_cut [] (fun wc => ∃ (kq : Nat) (x202000_9 : Int) (x202001_9 : Int) (x202002_9 : Int) (x202003_9 : Int) (x202004_9 : Int) (x202005_9 : Int), Aside0 (impl_ReadHttpDate.j1 kq a0 x202000_9 x202001_9 x202002_9 x202003_9 x202004_9 x202005_9 = some (r1, r2)) ∧ Aside0 (kq ≤ kj1) ∧ Aside0 (wc.heap[gb201]? = some (.cells #[.int .i64 x202000_9, .int .i64 x202001_9, .int .i64 x202002_9, .int .i64 x202003_9, .int .i64 x202004_9, .int .i64 x202005_9] 30 (0, 0))) ∧ Aside0 (Below w.heap.size w wc))
     case first =>
      have H := HC10.out
      clear HC10
      by_cases c15 : t202 ≥ 0
      ·
       rw [if_pos c15] at H
       have c15b0 : decide (0 ≤ t202) = true := decide_eq_true c15
       clear c15
       (first | rw [c15b0] | (simp only [i64_w, i32_w]; rw [c15b0]) | skip)
       have c16 : 0 ≤ t202 := Classical.byContradiction fun h_ => by rw [if_neg h_] at H; exact absurd H (by simp)
       rw [if_pos c16] at H
       have c16b0 := eq_true c16
       have c16b1 : decide (0 ≤ t202) = true := decide_eq_true c16
       clear c16
       have c17 : t202 ≤ (a0.size : Int) := Classical.byContradiction fun h_ => by rw [if_neg h_] at H; exact absurd H (by simp)
       rw [if_pos c17] at H
       have c17b0 := eq_true c17
       have c17b1 : decide (t202 ≤ (a0.size : Int)) = true := decide_eq_true c17
       clear c17
       replace H := Option.bind_eq_some_iff.mp H
       obtain ⟨t203, A180, H⟩ := H
       replace H : (if 1 < (t197.length : Int) then (if 0 < (t197.length : Int) then (if 2 < (t197.length : Int) then (if 3 < (t197.length : Int) then (if 4 < (t197.length : Int) then ((strings_IndexByte.f a0 45).bind fun t209 => (if t209 ≥ 0 then (if (wrap64 ((rd t197 1) + 1900)) < 1970 then (impl_ReadHttpDate.j1 kj1 a0 (wrap64 ((wrap64 ((rd t197 1) + 1900)) + 100)) t203 (rd t197 0) (rd t197 2) (rd t197 3) (rd t197 4)) else (impl_ReadHttpDate.j1 kj1 a0 (wrap64 ((rd t197 1) + 1900)) t203 (rd t197 0) (rd t197 2) (rd t197 3) (rd t197 4))) else (impl_ReadHttpDate.j1 kj1 a0 (rd t197 1) t203 (rd t197 0) (rd t197 2) (rd t197 3) (rd t197 4)))) else (none)) else (none)) else (none)) else (none)) else (none)) = some (r1, r2) := H
       have A18 := Aside0.mk A180
       clear A180
       have c19 : 1 < (t197.length : Int) := Classical.byContradiction fun h_ => by rw [if_neg h_] at H; exact absurd H (by simp)
       rw [if_pos c19] at H
       have c19b0 : decide (1 < (t197.length : Int)) = true := decide_eq_true c19
       have c19b1 : decide (1 < t197.length) = true := decide_eq_true (by omega)
       clear c19
       have c20 : 0 < (t197.length : Int) := Classical.byContradiction fun h_ => by rw [if_neg h_] at H; exact absurd H (by simp)
       rw [if_pos c20] at H
       have c20b0 : decide (0 < (t197.length : Int)) = true := decide_eq_true c20
       have c20b1 : decide (0 < t197.length) = true := decide_eq_true (by omega)
       clear c20
       have c21 : 2 < (t197.length : Int) := Classical.byContradiction fun h_ => by rw [if_neg h_] at H; exact absurd H (by simp)
       rw [if_pos c21] at H
       have c21b0 : decide (2 < (t197.length : Int)) = true := decide_eq_true c21
       have c21b1 : decide (2 < t197.length) = true := decide_eq_true (by omega)
       clear c21
       have c22 : 3 < (t197.length : Int) := Classical.byContradiction fun h_ => by rw [if_neg h_] at H; exact absurd H (by simp)
       rw [if_pos c22] at H
       have c22b0 : decide (3 < (t197.length : Int)) = true := decide_eq_true c22
       have c22b1 : decide (3 < t197.length) = true := decide_eq_true (by omega)
       clear c22
       have c23 : 4 < (t197.length : Int) := Classical.byContradiction fun h_ => by rw [if_neg h_] at H; exact absurd H (by simp)
       rw [if_pos c23] at H
       have c23b0 : decide (4 < (t197.length : Int)) = true := decide_eq_true c23
       have c23b1 : decide (4 < t197.length) = true := decide_eq_true (by omega)
       clear c23
       replace H := Option.bind_eq_some_iff.mp H
       obtain ⟨t209, A240, H⟩ := H
       replace H : (if t209 ≥ 0 then (if (wrap64 ((rd t197 1) + 1900)) < 1970 then (impl_ReadHttpDate.j1 kj1 a0 (wrap64 ((wrap64 ((rd t197 1) + 1900)) + 100)) t203 (rd t197 0) (rd t197 2) (rd t197 3) (rd t197 4)) else (impl_ReadHttpDate.j1 kj1 a0 (wrap64 ((rd t197 1) + 1900)) t203 (rd t197 0) (rd t197 2) (rd t197 3) (rd t197 4))) else (impl_ReadHttpDate.j1 kj1 a0 (rd t197 1) t203 (rd t197 0) (rd t197 2) (rd t197 3) (rd t197 4))) = some (r1, r2) := H
       have A24 := Aside0.mk A240
       clear A240
       by_cases c25 : t209 ≥ 0
       ·
        rw [if_pos c25] at H
        have c25b0 : decide (0 ≤ t209) = true := decide_eq_true c25
        clear c25
        by_cases c26 : (wrap64 ((rd t197 1) + 1900)) < 1970
        ·
         rw [if_pos c26] at H
         have c26b0 : decide ((wrap64 ((rd t197 1) + 1900)) < 1970) = true := decide_eq_true c26
         clear c26
         have H' := Aside0.mk H
         clear H
         try go_wp2_with (first | ((with_reducible refine gate_callee (f := 66) rfl ?_); refine goesL_ (some 33) rfl rfl Tryd.func66 (by kernel_rfl) rfl #[.string (a0.extract (t202 : Int).toNat a0.size)] rfl (by (try simp only [List.map_toArray, List.map_cons, List.map_nil]); first | done | rfl | (simp only [List.length_drop, List.length_take]; rfl)) ?_; (with_reducible refine (impl_monthIn.calls kj1 (a0.extract (t202 : Int).toNat a0.size) t203 _ ?side1 A18.out).mono ?_); (case side1 => exact Tab.below HT.out (by repeat (first | (with_reducible first | exact HB.out | apply below_alloc | apply pw_below_drewN | apply below_drew1 | refine below_set ?_ GE201.out) | exact HB.out))); rintro e w27 ⟨rfl, hb⟩; refine ⟨_, rfl, ?_⟩; have n0_ := Aside0.mk (Kd.R_below (by (with_reducible repeat (first | apply Kd.R_alloc | apply Kd.R_drewN | apply Kd.R_drew)); exact HO199.out) hb); have n1_ := Aside0.mk (blk_below (g := gb201) (o := .cells #[.int .i64 0, .int .i64 0, .int .i64 0, .int .i64 0, .int .i64 0, .int .i64 0] 30 (0, 0)) (by (with_reducible repeat (first | refine blk_drewN ?_ _ | refine blk_drew ?_ | refine blk_alloc ?_ _)); exact BK201.out) hb); have n2_ := Aside0.mk (below_step (by repeat (first | (with_reducible first | exact HB.out | apply below_alloc | apply pw_below_drewN | apply below_drew1 | refine below_set ?_ GE201.out) | exact HB.out)) hb); clear HO199; clear BK201; clear HB; have HO199 := n0_; have BK201 := n1_; have HB := n2_; clear n0_ n1_ n2_; (try clear hb); (try clear hb2); (try clear hk); (try clear hi)))
         have n0_ := Aside0.mk (Kd.R_drew HO199.out)
         have n1_ := Aside0.mk (blk_drew BK201.out)
         have n2_ := Aside0.mk (below_drew1 HB.out)
         clear HO199
         clear BK201
         clear HB
         have HO199 := n0_
         have BK201 := n1_
         have HB := n2_
         clear n0_ n1_ n2_
         have p204 : 0 ≤ (1 : Int) := (by omega)
         have q204 : 1 < (t197.length : Int) := of_decide_eq_true (by first | (with_reducible assumption) | assumption)
         obtain ⟨ad204, e204, hx204_0⟩ := Kd.at_int (Kd.R_reads' HO199.out).2.2 1 p204 q204
         cases e204
         (try simp only [show (1 : Int).toNat = 1 from rfl, Nat.reduceMul, Nat.reduceEqDiff, Go.Addr.add, ↓reduceIte] at hx204_0)
         have qi204 : (1 < t197.length) = True := eq_true (by omega)
         (try rw [show ((1 : Int)).toNat = 1 from rfl] at hx204_0)
         replace p204 := eq_true p204
         replace q204 := eq_true q204
         have p205 : 0 ≤ (0 : Int) := (by omega)
         have q205 : 0 < (t197.length : Int) := of_decide_eq_true (by first | (with_reducible assumption) | assumption)
         obtain ⟨ad205, e205, hx205_0⟩ := Kd.at_int (Kd.R_reads' HO199.out).2.2 0 p205 q205
         obtain rfl : ad204 = ad205 := (by injection e205)
         have qi205 : (0 < t197.length) = True := eq_true (by omega)
         (try rw [show ((0 : Int)).toNat = 0 from rfl] at hx205_0)
         (try rw [Addr.add_zero'] at hx205_0)
         replace p205 := eq_true p205
         replace q205 := eq_true q205
         have p206 : 0 ≤ (2 : Int) := (by omega)
         have q206 : 2 < (t197.length : Int) := of_decide_eq_true (by first | (with_reducible assumption) | assumption)
         obtain ⟨ad206, e206, hx206_0⟩ := Kd.at_int (Kd.R_reads' HO199.out).2.2 2 p206 q206
         obtain rfl : ad204 = ad206 := (by injection e206)
         (try simp only [show (2 : Int).toNat = 2 from rfl, Nat.reduceMul, Nat.reduceEqDiff, Go.Addr.add, ↓reduceIte] at hx206_0)
         have qi206 : (2 < t197.length) = True := eq_true (by omega)
         (try rw [show ((2 : Int)).toNat = 2 from rfl] at hx206_0)
         replace p206 := eq_true p206
         replace q206 := eq_true q206
         have p207 : 0 ≤ (3 : Int) := (by omega)
         have q207 : 3 < (t197.length : Int) := of_decide_eq_true (by first | (with_reducible assumption) | assumption)
         obtain ⟨ad207, e207, hx207_0⟩ := Kd.at_int (Kd.R_reads' HO199.out).2.2 3 p207 q207
         obtain rfl : ad204 = ad207 := (by injection e207)
         (try simp only [show (3 : Int).toNat = 3 from rfl, Nat.reduceMul, Nat.reduceEqDiff, Go.Addr.add, ↓reduceIte] at hx207_0)
         have qi207 : (3 < t197.length) = True := eq_true (by omega)
         (try rw [show ((3 : Int)).toNat = 3 from rfl] at hx207_0)
         replace p207 := eq_true p207
         replace q207 := eq_true q207
         have p208 : 0 ≤ (4 : Int) := (by omega)
         have q208 : 4 < (t197.length : Int) := of_decide_eq_true (by first | (with_reducible assumption) | assumption)
         obtain ⟨ad208, e208, hx208_0⟩ := Kd.at_int (Kd.R_reads' HO199.out).2.2 4 p208 q208
         obtain rfl : ad204 = ad208 := (by injection e208)
         (try simp only [show (4 : Int).toNat = 4 from rfl, Nat.reduceMul, Nat.reduceEqDiff, Go.Addr.add, ↓reduceIte] at hx208_0)
         have qi208 : (4 < t197.length) = True := eq_true (by omega)
         (try rw [show ((4 : Int)).toNat = 4 from rfl] at hx208_0)
         replace p208 := eq_true p208
         replace q208 := eq_true q208
         refine start_ (n := 18) (S := fun w' => w'.cell? ⟨ad204.block, ad204.off + 1, none⟩ = some (.int .i64 (rd t197 1)) ∧ w'.cell? ad204 = some (.int .i64 (rd t197 0)) ∧ w'.cell? ⟨ad204.block, ad204.off + 2, none⟩ = some (.int .i64 (rd t197 2)) ∧ w'.cell? ⟨ad204.block, ad204.off + 3, none⟩ = some (.int .i64 (rd t197 3)) ∧ w'.cell? ⟨ad204.block, ad204.off + 4, none⟩ = some (.int .i64 (rd t197 4))) (ds := []) #[false, false, false, false, false, false, false, false, false, false, false, false, false, false, false, false, false, false] (by kernel_rfl) rfl rfl ⟨hx204_0, hx205_0, hx206_0, hx207_0, hx208_0⟩ (fun hHeld => ?_); refine with_tabW impl_ReadHttpDate.tab11 impl_ReadHttpDate.bits11 (fun HT_ HW_ => ?_)
         generalize w27.drew = w28 at HO199 BK201 HB hx204_0 hx205_0 hx206_0 hx207_0 hx208_0 hHeld ⊢
         refine pure_ (i := 0) (N := some 34) (v := ?_) (a' := ?_) #[true, false, false, false, false, false, false, false, false, false, false, false, false, false, false, false, false, false] rfl rfl (any_of HT_.out (by kernel_rfl)) (fun _ _ _ h => h) (Or.inl ⟨by rfl, ?_⟩) ?_ ?_
         rotate_left
         ·
          intro w'
          go_simp
          with_reducible rfl
         rotate_left
         ·
          simp only [Act.put, List.setIfInBounds_toArray, List.set_cons_zero, List.set_cons_succ, i64_w, i32_w]
          rfl
         refine pure_ (i := 1) (N := some 35) (v := ?_) (a' := ?_) #[true, true, false, false, false, false, false, false, false, false, false, false, false, false, false, false, false, false] rfl rfl (any_of HT_.out (by kernel_rfl)) (fun _ _ _ h => h) (Or.inl ⟨by rfl, ?_⟩) ?_ ?_
         rotate_left
         ·
          intro w'
          go_simp
          with_reducible rfl
         rotate_left
         ·
          simp only [Act.put, List.setIfInBounds_toArray, List.set_cons_zero, List.set_cons_succ, i64_w, i32_w]
          rfl
         refine pure_ (i := 3) (N := some 37) (v := ?_) (a' := ?_) #[true, true, false, true, false, false, false, false, false, false, false, false, false, false, false, false, false, false] rfl rfl (any_of HT_.out (by kernel_rfl)) (fun _ _ _ h => h) (Or.inl ⟨by rfl, ?_⟩) ?_ ?_
         rotate_left
         ·
          intro w'
          go_simp
          with_reducible rfl
         rotate_left
         ·
          simp only [Act.put, List.setIfInBounds_toArray, List.set_cons_zero, List.set_cons_succ, i64_w, i32_w]
          rfl
         refine pure_ (i := 4) (N := some 38) (v := ?_) (a' := ?_) #[true, true, false, true, true, false, false, false, false, false, false, false, false, false, false, false, false, false] rfl rfl (any_of HT_.out (by kernel_rfl)) (fun _ _ _ h => h) (Or.inl ⟨by rfl, ?_⟩) ?_ ?_
         rotate_left
         ·
          intro w'
          go_simp
          with_reducible rfl
         rotate_left
         ·
          simp only [Act.put, List.setIfInBounds_toArray, List.set_cons_zero, List.set_cons_succ, i64_w, i32_w]
          rfl
         refine pure_ (i := 5) (N := some 39) (v := ?_) (a' := ?_) #[true, true, false, true, true, true, false, false, false, false, false, false, false, false, false, false, false, false] rfl rfl (any_of HT_.out (by kernel_rfl)) (fun _ _ _ h => h) (Or.inl ⟨by rfl, ?_⟩) ?_ ?_
         rotate_left
         ·
          intro w'
          go_simp
          with_reducible rfl
         rotate_left
         ·
          simp only [Act.put, List.setIfInBounds_toArray, List.set_cons_zero, List.set_cons_succ, i64_w, i32_w]
          rfl
         refine pure_ (i := 7) (N := some 41) (v := ?_) (a' := ?_) #[true, true, false, true, true, true, false, true, false, false, false, false, false, false, false, false, false, false] rfl rfl (any_of HT_.out (by kernel_rfl)) (fun _ _ _ h => h) (Or.inl ⟨by rfl, ?_⟩) ?_ ?_
         rotate_left
         ·
          intro w'
          go_simp
          with_reducible rfl
         rotate_left
         ·
          simp only [Act.put, List.setIfInBounds_toArray, List.set_cons_zero, List.set_cons_succ, i64_w, i32_w]
          rfl
         refine pure_ (i := 8) (N := some 42) (v := ?_) (a' := ?_) #[true, true, false, true, true, true, false, true, true, false, false, false, false, false, false, false, false, false] rfl rfl (any_of HT_.out (by kernel_rfl)) (fun _ _ _ h => h) (Or.inl ⟨by rfl, ?_⟩) ?_ ?_
         rotate_left
         ·
          intro w'
          go_simp
          with_reducible rfl
         rotate_left
         ·
          simp only [Act.put, List.setIfInBounds_toArray, List.set_cons_zero, List.set_cons_succ, i64_w, i32_w]
          rfl
         refine pure_ (i := 10) (N := some 44) (v := ?_) (a' := ?_) #[true, true, false, true, true, true, false, true, true, false, true, false, false, false, false, false, false, false] rfl rfl (any_of HT_.out (by kernel_rfl)) (fun _ _ _ h => h) (Or.inl ⟨by rfl, ?_⟩) ?_ ?_
         rotate_left
         ·
          intro w'
          go_simp
          with_reducible rfl
         rotate_left
         ·
          simp only [Act.put, List.setIfInBounds_toArray, List.set_cons_zero, List.set_cons_succ, i64_w, i32_w]
          rfl
         refine pure_ (i := 11) (N := some 45) (v := ?_) (a' := ?_) #[true, true, false, true, true, true, false, true, true, false, true, true, false, false, false, false, false, false] rfl rfl (any_of HT_.out (by kernel_rfl)) (fun _ _ _ h => h) (Or.inl ⟨by rfl, ?_⟩) ?_ ?_
         rotate_left
         ·
          intro w'
          go_simp
          with_reducible rfl
         rotate_left
         ·
          simp only [Act.put, List.setIfInBounds_toArray, List.set_cons_zero, List.set_cons_succ, i64_w, i32_w]
          rfl
         refine pure_ (i := 13) (N := some 47) (v := ?_) (a' := ?_) #[true, true, false, true, true, true, false, true, true, false, true, true, false, true, false, false, false, false] rfl rfl (any_of HT_.out (by kernel_rfl)) (fun _ _ _ h => h) (Or.inl ⟨by rfl, ?_⟩) ?_ ?_
         rotate_left
         ·
          intro w'
          go_simp
          with_reducible rfl
         rotate_left
         ·
          simp only [Act.put, List.setIfInBounds_toArray, List.set_cons_zero, List.set_cons_succ, i64_w, i32_w]
          rfl
         refine pure_ (i := 14) (N := some 48) (v := ?_) (a' := ?_) #[true, true, false, true, true, true, false, true, true, false, true, true, false, true, true, false, false, false] rfl rfl (any_of HT_.out (by kernel_rfl)) (fun _ _ _ h => h) (Or.inl ⟨by rfl, ?_⟩) ?_ ?_
         rotate_left
         ·
          intro w'
          go_simp
          with_reducible rfl
         rotate_left
         ·
          simp only [Act.put, List.setIfInBounds_toArray, List.set_cons_zero, List.set_cons_succ, i64_w, i32_w]
          rfl
         refine take_ (i := 2) (N := some 36) (v := ?_) (a' := ?_) #[true, true, true, true, true, true, false, true, true, false, true, true, false, true, true, false, false, false] rfl rfl (take_ofW HT_.out HW_.out (by kernel_rfl)) (fun _ _ _ h => h) (Or.inl ⟨by rfl, ?_⟩) hHeld ?_ ?_
         rotate_left
         ·
          rintro w' ⟨s0, s1, s2, s3, s4⟩
          go_simp
          with_reducible rfl
         rotate_left
         ·
          simp only [Act.put, List.setIfInBounds_toArray, List.set_cons_zero, List.set_cons_succ, i64_w, i32_w]
          rfl
         refine take_ (i := 6) (N := some 40) (v := ?_) (a' := ?_) #[true, true, true, true, true, true, true, true, true, false, true, true, false, true, true, false, false, false] rfl rfl (take_ofW HT_.out HW_.out (by kernel_rfl)) (fun _ _ _ h => h) (Or.inl ⟨by rfl, ?_⟩) hHeld ?_ ?_
         rotate_left
         ·
          rintro w' ⟨s0, s1, s2, s3, s4⟩
          go_simp
          with_reducible rfl
         rotate_left
         ·
          simp only [Act.put, List.setIfInBounds_toArray, List.set_cons_zero, List.set_cons_succ, i64_w, i32_w]
          rfl
         refine take_ (i := 9) (N := some 43) (v := ?_) (a' := ?_) #[true, true, true, true, true, true, true, true, true, true, true, true, false, true, true, false, false, false] rfl rfl (take_ofW HT_.out HW_.out (by kernel_rfl)) (fun _ _ _ h => h) (Or.inl ⟨by rfl, ?_⟩) hHeld ?_ ?_
         rotate_left
         ·
          rintro w' ⟨s0, s1, s2, s3, s4⟩
          go_simp
          with_reducible rfl
         rotate_left
         ·
          simp only [Act.put, List.setIfInBounds_toArray, List.set_cons_zero, List.set_cons_succ, i64_w, i32_w]
          rfl
         refine take_ (i := 12) (N := some 46) (v := ?_) (a' := ?_) #[true, true, true, true, true, true, true, true, true, true, true, true, true, true, true, false, false, false] rfl rfl (take_ofW HT_.out HW_.out (by kernel_rfl)) (fun _ _ _ h => h) (Or.inl ⟨by rfl, ?_⟩) hHeld ?_ ?_
         rotate_left
         ·
          rintro w' ⟨s0, s1, s2, s3, s4⟩
          go_simp
          with_reducible rfl
         rotate_left
         ·
          simp only [Act.put, List.setIfInBounds_toArray, List.set_cons_zero, List.set_cons_succ, i64_w, i32_w]
          rfl
         refine take_ (i := 15) (N := some 49) (v := ?_) (a' := ?_) #[true, true, true, true, true, true, true, true, true, true, true, true, true, true, true, true, false, false] rfl rfl (take_ofW HT_.out HW_.out (by kernel_rfl)) (fun _ _ _ h => h) (Or.inl ⟨by rfl, ?_⟩) hHeld ?_ ?_
         rotate_left
         ·
          rintro w' ⟨s0, s1, s2, s3, s4⟩
          go_simp
          with_reducible rfl
         rotate_left
         ·
          simp only [Act.put, List.setIfInBounds_toArray, List.set_cons_zero, List.set_cons_succ, i64_w, i32_w]
          rfl
         refine pure_ (i := 16) (N := some 50) (v := ?_) (a' := ?_) #[true, true, true, true, true, true, true, true, true, true, true, true, true, true, true, true, true, false] rfl rfl (any_of HT_.out (by kernel_rfl)) (fun _ _ _ h => h) (Or.inl ⟨by rfl, ?_⟩) ?_ ?_
         rotate_left
         ·
          intro w'
          go_simp
          with_reducible rfl
         rotate_left
         ·
          simp only [Act.put, List.setIfInBounds_toArray, List.set_cons_zero, List.set_cons_succ, i64_w, i32_w]
          rfl
         refine one_ (i := 17) (N := none) #[true, true, true, true, true, true, true, true, true, true, true, true, true, true, true, true, true, true] rfl rfl (one_of HT_.out (by kernel_rfl)) (by decide) (fun K hK => ?_)
         have hs29 : w28.cell? ⟨gb201, 0, none⟩ = some (.int .i64 0) := (blk_cell BK201.out 0).trans rfl
         have hfs29 := blk_frozen BK201.out 0
         have hs30 : w28.cell? ⟨gb201, 1, none⟩ = some (.int .i64 0) := (blk_cell BK201.out 1).trans rfl
         have hfs30 := blk_frozen BK201.out 1
         have hs31 : w28.cell? ⟨gb201, 2, none⟩ = some (.int .i64 0) := (blk_cell BK201.out 2).trans rfl
         have hfs31 := blk_frozen BK201.out 2
         have hs32 : w28.cell? ⟨gb201, 3, none⟩ = some (.int .i64 0) := (blk_cell BK201.out 3).trans rfl
         have hfs32 := blk_frozen BK201.out 3
         have hs33 : w28.cell? ⟨gb201, 4, none⟩ = some (.int .i64 0) := (blk_cell BK201.out 4).trans rfl
         have hfs33 := blk_frozen BK201.out 4
         have hs34 : w28.cell? ⟨gb201, 5, none⟩ = some (.int .i64 0) := (blk_cell BK201.out 5).trans rfl
         have hfs34 := blk_frozen BK201.out 5
         refine skip_ (w1 := ?_) (by rfl) rfl ?_ ?_
         rotate_left
         ·
          go_simp
          rfl
         have hne_ad204 : ad204.block ≠ gb201 := Kd.own_blk (Kd.R_ne HO199.out BK201.out (by decide))
         have hst : ∀ (W : World) (k : Nat) (v : Value), (fun w' => w'.cell? ⟨ad204.block, ad204.off + 1, none⟩ = some (.int .i64 (rd t197 1)) ∧ w'.cell? ad204 = some (.int .i64 (rd t197 0)) ∧ w'.cell? ⟨ad204.block, ad204.off + 2, none⟩ = some (.int .i64 (rd t197 2)) ∧ w'.cell? ⟨ad204.block, ad204.off + 3, none⟩ = some (.int .i64 (rd t197 3)) ∧ w'.cell? ⟨ad204.block, ad204.off + 4, none⟩ = some (.int .i64 (rd t197 4))) W → (fun w' => w'.cell? ⟨ad204.block, ad204.off + 1, none⟩ = some (.int .i64 (rd t197 1)) ∧ w'.cell? ad204 = some (.int .i64 (rd t197 0)) ∧ w'.cell? ⟨ad204.block, ad204.off + 2, none⟩ = some (.int .i64 (rd t197 2)) ∧ w'.cell? ⟨ad204.block, ad204.off + 3, none⟩ = some (.int .i64 (rd t197 3)) ∧ w'.cell? ⟨ad204.block, ad204.off + 4, none⟩ = some (.int .i64 (rd t197 4))) (W.setCell ⟨gb201, k, none⟩ v) := fun W k v h => ⟨(cell_far (W := W) (p := ⟨gb201, k, none⟩) (a := ⟨ad204.block, ad204.off + 1, none⟩) hne_ad204 v).trans h.1, (cell_far (W := W) (p := ⟨gb201, k, none⟩) (a := ad204) hne_ad204 v).trans h.2.1, (cell_far (W := W) (p := ⟨gb201, k, none⟩) (a := ⟨ad204.block, ad204.off + 2, none⟩) hne_ad204 v).trans h.2.2.1, (cell_far (W := W) (p := ⟨gb201, k, none⟩) (a := ⟨ad204.block, ad204.off + 3, none⟩) hne_ad204 v).trans h.2.2.2.1, (cell_far (W := W) (p := ⟨gb201, k, none⟩) (a := ⟨ad204.block, ad204.off + 4, none⟩) hne_ad204 v).trans h.2.2.2.2⟩
         refine hK.out _ _ (hst _ _ _ (hst _ _ _ (hst _ _ _ (hst _ _ _ (hst _ _ _ (hst _ _ _ (hHeld))))))) (fun hHeld => ?_)
         clear hK K
         refine done_ (done_of HT_.out (by kernel_rfl)) ?_
         try go_wp2_with (first | ((with_reducible refine gate_callee (f := 67) rfl ?_); refine goesL_ (some 52) rfl rfl Tryd.func67 (by kernel_rfl) rfl #[.string a0, .int .u8 45] rfl (by (try simp only [List.map_toArray, List.map_cons, List.map_nil]); first | done | rfl | (simp only [List.length_drop, List.length_take]; rfl)) ?_; (with_reducible refine (strings_IndexByte.calls a0 45 t209 _ A24.out).mono ?_); rintro e w' ⟨rfl, ⟨nd, rfl⟩⟩; refine ⟨_, rfl, ?_⟩; have hcz35_0 : w28.cell? ⟨gb201, 0, none⟩ = some (.int .i64 0) := (blk_cell BK201.out 0).trans rfl; have hcz35_1 : w28.cell? ⟨gb201, 1, none⟩ = some (.int .i64 0) := (blk_cell BK201.out 1).trans rfl; have hcz35_2 : w28.cell? ⟨gb201, 2, none⟩ = some (.int .i64 0) := (blk_cell BK201.out 2).trans rfl; have hcz35_3 : w28.cell? ⟨gb201, 3, none⟩ = some (.int .i64 0) := (blk_cell BK201.out 3).trans rfl; have hcz35_4 : w28.cell? ⟨gb201, 4, none⟩ = some (.int .i64 0) := (blk_cell BK201.out 4).trans rfl; have hcz35_5 : w28.cell? ⟨gb201, 5, none⟩ = some (.int .i64 0) := (blk_cell BK201.out 5).trans rfl; have hfz35_0 := blk_frozen BK201.out 0; have hfz35_1 := blk_frozen BK201.out 1; have hfz35_2 := blk_frozen BK201.out 2; have hfz35_3 := blk_frozen BK201.out 3; have hfz35_4 := blk_frozen BK201.out 4; have hfz35_5 := blk_frozen BK201.out 5))
         go_meet
         case rel => exact ⟨_, (wrap64 ((wrap64 ((rd t197 1) + 1900)) + 100)), (t203), (rd t197 0), (rd t197 2), (rd t197 3), (rd t197 4), H', ⟨by have := HJ1.out; first | omega | exact Nat.le_refl _⟩, ⟨by (with_reducible repeat (first | refine blk_drewN ?_ _ | refine blk_drew ?_ | refine blk_alloc ?_ _)); refine blk_put (cs := #[.int .i64 (wrap64 ((rd t197 1) + 1900)), .int .i64 t203, .int .i64 (rd t197 0), .int .i64 (rd t197 2), .int .i64 (rd t197 3), .int .i64 (rd t197 4)]) ?_ 0 _ rfl; (with_reducible repeat (first | refine blk_drewN ?_ _ | refine blk_drew ?_ | refine blk_alloc ?_ _)); refine blk_put (cs := #[.int .i64 (rd t197 1), .int .i64 t203, .int .i64 (rd t197 0), .int .i64 (rd t197 2), .int .i64 (rd t197 3), .int .i64 (rd t197 4)]) ?_ 0 _ rfl; (with_reducible repeat (first | refine blk_drewN ?_ _ | refine blk_drew ?_ | refine blk_alloc ?_ _)); refine blk_put (cs := #[.int .i64 (rd t197 1), .int .i64 t203, .int .i64 (rd t197 0), .int .i64 (rd t197 2), .int .i64 (rd t197 3), .int .i64 0]) ?_ 5 _ rfl; (with_reducible repeat (first | refine blk_drewN ?_ _ | refine blk_drew ?_ | refine blk_alloc ?_ _)); refine blk_put (cs := #[.int .i64 (rd t197 1), .int .i64 t203, .int .i64 (rd t197 0), .int .i64 (rd t197 2), .int .i64 0, .int .i64 0]) ?_ 4 _ rfl; (with_reducible repeat (first | refine blk_drewN ?_ _ | refine blk_drew ?_ | refine blk_alloc ?_ _)); refine blk_put (cs := #[.int .i64 (rd t197 1), .int .i64 t203, .int .i64 (rd t197 0), .int .i64 0, .int .i64 0, .int .i64 0]) ?_ 3 _ rfl; (with_reducible repeat (first | refine blk_drewN ?_ _ | refine blk_drew ?_ | refine blk_alloc ?_ _)); refine blk_put (cs := #[.int .i64 (rd t197 1), .int .i64 t203, .int .i64 0, .int .i64 0, .int .i64 0, .int .i64 0]) ?_ 2 _ rfl; (with_reducible repeat (first | refine blk_drewN ?_ _ | refine blk_drew ?_ | refine blk_alloc ?_ _)); refine blk_put (cs := #[.int .i64 (rd t197 1), .int .i64 0, .int .i64 0, .int .i64 0, .int .i64 0, .int .i64 0]) ?_ 1 _ rfl; (with_reducible repeat (first | refine blk_drewN ?_ _ | refine blk_drew ?_ | refine blk_alloc ?_ _)); refine blk_put (cs := #[.int .i64 0, .int .i64 0, .int .i64 0, .int .i64 0, .int .i64 0, .int .i64 0]) ?_ 0 _ rfl; (with_reducible repeat (first | refine blk_drewN ?_ _ | refine blk_drew ?_ | refine blk_alloc ?_ _)); exact BK201.out⟩, ⟨by repeat (first | (with_reducible first | exact HB.out | apply below_alloc | apply pw_below_drewN | apply below_drew1 | refine below_set ?_ GE201.out) | exact HB.out)⟩⟩
        ·
         rw [if_neg c26] at H
         have c26b0 : decide ((wrap64 ((rd t197 1) + 1900)) < 1970) = false := decide_eq_false c26
         clear c26
         have H' := Aside0.mk H
         clear H
         try go_wp2_with (first | ((with_reducible refine gate_callee (f := 66) rfl ?_); refine goesL_ (some 33) rfl rfl Tryd.func66 (by kernel_rfl) rfl #[.string (a0.extract (t202 : Int).toNat a0.size)] rfl (by (try simp only [List.map_toArray, List.map_cons, List.map_nil]); first | done | rfl | (simp only [List.length_drop, List.length_take]; rfl)) ?_; (with_reducible refine (impl_monthIn.calls kj1 (a0.extract (t202 : Int).toNat a0.size) t203 _ ?side1 A18.out).mono ?_); (case side1 => exact Tab.below HT.out (by repeat (first | (with_reducible first | exact HB.out | apply below_alloc | apply pw_below_drewN | apply below_drew1 | refine below_set ?_ GE201.out) | exact HB.out))); rintro e w36 ⟨rfl, hb⟩; refine ⟨_, rfl, ?_⟩; have n0_ := Aside0.mk (Kd.R_below (by (with_reducible repeat (first | apply Kd.R_alloc | apply Kd.R_drewN | apply Kd.R_drew)); exact HO199.out) hb); have n1_ := Aside0.mk (blk_below (g := gb201) (o := .cells #[.int .i64 0, .int .i64 0, .int .i64 0, .int .i64 0, .int .i64 0, .int .i64 0] 30 (0, 0)) (by (with_reducible repeat (first | refine blk_drewN ?_ _ | refine blk_drew ?_ | refine blk_alloc ?_ _)); exact BK201.out) hb); have n2_ := Aside0.mk (below_step (by repeat (first | (with_reducible first | exact HB.out | apply below_alloc | apply pw_below_drewN | apply below_drew1 | refine below_set ?_ GE201.out) | exact HB.out)) hb); clear HO199; clear BK201; clear HB; have HO199 := n0_; have BK201 := n1_; have HB := n2_; clear n0_ n1_ n2_; (try clear hb); (try clear hb2); (try clear hk); (try clear hi)))
         have n0_ := Aside0.mk (Kd.R_drew HO199.out)
         have n1_ := Aside0.mk (blk_drew BK201.out)
         have n2_ := Aside0.mk (below_drew1 HB.out)
         clear HO199
         clear BK201
         clear HB
         have HO199 := n0_
         have BK201 := n1_
         have HB := n2_
         clear n0_ n1_ n2_
         have p204 : 0 ≤ (1 : Int) := (by omega)
         have q204 : 1 < (t197.length : Int) := of_decide_eq_true (by first | (with_reducible assumption) | assumption)
         obtain ⟨ad204, e204, hx204_0⟩ := Kd.at_int (Kd.R_reads' HO199.out).2.2 1 p204 q204
         cases e204
         (try simp only [show (1 : Int).toNat = 1 from rfl, Nat.reduceMul, Nat.reduceEqDiff, Go.Addr.add, ↓reduceIte] at hx204_0)
         have qi204 : (1 < t197.length) = True := eq_true (by omega)
         (try rw [show ((1 : Int)).toNat = 1 from rfl] at hx204_0)
         replace p204 := eq_true p204
         replace q204 := eq_true q204
         have p205 : 0 ≤ (0 : Int) := (by omega)
         have q205 : 0 < (t197.length : Int) := of_decide_eq_true (by first | (with_reducible assumption) | assumption)
         obtain ⟨ad205, e205, hx205_0⟩ := Kd.at_int (Kd.R_reads' HO199.out).2.2 0 p205 q205
         obtain rfl : ad204 = ad205 := (by injection e205)
         have qi205 : (0 < t197.length) = True := eq_true (by omega)
         (try rw [show ((0 : Int)).toNat = 0 from rfl] at hx205_0)
         (try rw [Addr.add_zero'] at hx205_0)
         replace p205 := eq_true p205
         replace q205 := eq_true q205
         have p206 : 0 ≤ (2 : Int) := (by omega)
         have q206 : 2 < (t197.length : Int) := of_decide_eq_true (by first | (with_reducible assumption) | assumption)
         obtain ⟨ad206, e206, hx206_0⟩ := Kd.at_int (Kd.R_reads' HO199.out).2.2 2 p206 q206
         obtain rfl : ad204 = ad206 := (by injection e206)
         (try simp only [show (2 : Int).toNat = 2 from rfl, Nat.reduceMul, Nat.reduceEqDiff, Go.Addr.add, ↓reduceIte] at hx206_0)
         have qi206 : (2 < t197.length) = True := eq_true (by omega)
         (try rw [show ((2 : Int)).toNat = 2 from rfl] at hx206_0)
         replace p206 := eq_true p206
         replace q206 := eq_true q206
         have p207 : 0 ≤ (3 : Int) := (by omega)
         have q207 : 3 < (t197.length : Int) := of_decide_eq_true (by first | (with_reducible assumption) | assumption)
         obtain ⟨ad207, e207, hx207_0⟩ := Kd.at_int (Kd.R_reads' HO199.out).2.2 3 p207 q207
         obtain rfl : ad204 = ad207 := (by injection e207)
         (try simp only [show (3 : Int).toNat = 3 from rfl, Nat.reduceMul, Nat.reduceEqDiff, Go.Addr.add, ↓reduceIte] at hx207_0)
         have qi207 : (3 < t197.length) = True := eq_true (by omega)
         (try rw [show ((3 : Int)).toNat = 3 from rfl] at hx207_0)
         replace p207 := eq_true p207
         replace q207 := eq_true q207
         have p208 : 0 ≤ (4 : Int) := (by omega)
         have q208 : 4 < (t197.length : Int) := of_decide_eq_true (by first | (with_reducible assumption) | assumption)
         obtain ⟨ad208, e208, hx208_0⟩ := Kd.at_int (Kd.R_reads' HO199.out).2.2 4 p208 q208
         obtain rfl : ad204 = ad208 := (by injection e208)
         (try simp only [show (4 : Int).toNat = 4 from rfl, Nat.reduceMul, Nat.reduceEqDiff, Go.Addr.add, ↓reduceIte] at hx208_0)
         have qi208 : (4 < t197.length) = True := eq_true (by omega)
         (try rw [show ((4 : Int)).toNat = 4 from rfl] at hx208_0)
         replace p208 := eq_true p208
         replace q208 := eq_true q208
         refine start_ (n := 18) (S := fun w' => w'.cell? ⟨ad204.block, ad204.off + 1, none⟩ = some (.int .i64 (rd t197 1)) ∧ w'.cell? ad204 = some (.int .i64 (rd t197 0)) ∧ w'.cell? ⟨ad204.block, ad204.off + 2, none⟩ = some (.int .i64 (rd t197 2)) ∧ w'.cell? ⟨ad204.block, ad204.off + 3, none⟩ = some (.int .i64 (rd t197 3)) ∧ w'.cell? ⟨ad204.block, ad204.off + 4, none⟩ = some (.int .i64 (rd t197 4))) (ds := []) #[false, false, false, false, false, false, false, false, false, false, false, false, false, false, false, false, false, false] (by kernel_rfl) rfl rfl ⟨hx204_0, hx205_0, hx206_0, hx207_0, hx208_0⟩ (fun hHeld => ?_); refine with_tabW impl_ReadHttpDate.tab11 impl_ReadHttpDate.bits11 (fun HT_ HW_ => ?_)
         generalize w36.drew = w37 at HO199 BK201 HB hx204_0 hx205_0 hx206_0 hx207_0 hx208_0 hHeld ⊢
         refine pure_ (i := 0) (N := some 34) (v := ?_) (a' := ?_) #[true, false, false, false, false, false, false, false, false, false, false, false, false, false, false, false, false, false] rfl rfl (any_of HT_.out (by kernel_rfl)) (fun _ _ _ h => h) (Or.inl ⟨by rfl, ?_⟩) ?_ ?_
         rotate_left
         ·
          intro w'
          go_simp
          with_reducible rfl
         rotate_left
         ·
          simp only [Act.put, List.setIfInBounds_toArray, List.set_cons_zero, List.set_cons_succ, i64_w, i32_w]
          rfl
         refine pure_ (i := 1) (N := some 35) (v := ?_) (a' := ?_) #[true, true, false, false, false, false, false, false, false, false, false, false, false, false, false, false, false, false] rfl rfl (any_of HT_.out (by kernel_rfl)) (fun _ _ _ h => h) (Or.inl ⟨by rfl, ?_⟩) ?_ ?_
         rotate_left
         ·
          intro w'
          go_simp
          with_reducible rfl
         rotate_left
         ·
          simp only [Act.put, List.setIfInBounds_toArray, List.set_cons_zero, List.set_cons_succ, i64_w, i32_w]
          rfl
         refine pure_ (i := 3) (N := some 37) (v := ?_) (a' := ?_) #[true, true, false, true, false, false, false, false, false, false, false, false, false, false, false, false, false, false] rfl rfl (any_of HT_.out (by kernel_rfl)) (fun _ _ _ h => h) (Or.inl ⟨by rfl, ?_⟩) ?_ ?_
         rotate_left
         ·
          intro w'
          go_simp
          with_reducible rfl
         rotate_left
         ·
          simp only [Act.put, List.setIfInBounds_toArray, List.set_cons_zero, List.set_cons_succ, i64_w, i32_w]
          rfl
         refine pure_ (i := 4) (N := some 38) (v := ?_) (a' := ?_) #[true, true, false, true, true, false, false, false, false, false, false, false, false, false, false, false, false, false] rfl rfl (any_of HT_.out (by kernel_rfl)) (fun _ _ _ h => h) (Or.inl ⟨by rfl, ?_⟩) ?_ ?_
         rotate_left
         ·
          intro w'
          go_simp
          with_reducible rfl
         rotate_left
         ·
          simp only [Act.put, List.setIfInBounds_toArray, List.set_cons_zero, List.set_cons_succ, i64_w, i32_w]
          rfl
         refine pure_ (i := 5) (N := some 39) (v := ?_) (a' := ?_) #[true, true, false, true, true, true, false, false, false, false, false, false, false, false, false, false, false, false] rfl rfl (any_of HT_.out (by kernel_rfl)) (fun _ _ _ h => h) (Or.inl ⟨by rfl, ?_⟩) ?_ ?_
         rotate_left
         ·
          intro w'
          go_simp
          with_reducible rfl
         rotate_left
         ·
          simp only [Act.put, List.setIfInBounds_toArray, List.set_cons_zero, List.set_cons_succ, i64_w, i32_w]
          rfl
         refine pure_ (i := 7) (N := some 41) (v := ?_) (a' := ?_) #[true, true, false, true, true, true, false, true, false, false, false, false, false, false, false, false, false, false] rfl rfl (any_of HT_.out (by kernel_rfl)) (fun _ _ _ h => h) (Or.inl ⟨by rfl, ?_⟩) ?_ ?_
         rotate_left
         ·
          intro w'
          go_simp
          with_reducible rfl
         rotate_left
         ·
          simp only [Act.put, List.setIfInBounds_toArray, List.set_cons_zero, List.set_cons_succ, i64_w, i32_w]
          rfl
         refine pure_ (i := 8) (N := some 42) (v := ?_) (a' := ?_) #[true, true, false, true, true, true, false, true, true, false, false, false, false, false, false, false, false, false] rfl rfl (any_of HT_.out (by kernel_rfl)) (fun _ _ _ h => h) (Or.inl ⟨by rfl, ?_⟩) ?_ ?_
         rotate_left
         ·
          intro w'
          go_simp
          with_reducible rfl
         rotate_left
         ·
          simp only [Act.put, List.setIfInBounds_toArray, List.set_cons_zero, List.set_cons_succ, i64_w, i32_w]
          rfl
         refine pure_ (i := 10) (N := some 44) (v := ?_) (a' := ?_) #[true, true, false, true, true, true, false, true, true, false, true, false, false, false, false, false, false, false] rfl rfl (any_of HT_.out (by kernel_rfl)) (fun _ _ _ h => h) (Or.inl ⟨by rfl, ?_⟩) ?_ ?_
         rotate_left
         ·
          intro w'
          go_simp
          with_reducible rfl
         rotate_left
         ·
          simp only [Act.put, List.setIfInBounds_toArray, List.set_cons_zero, List.set_cons_succ, i64_w, i32_w]
          rfl
         refine pure_ (i := 11) (N := some 45) (v := ?_) (a' := ?_) #[true, true, false, true, true, true, false, true, true, false, true, true, false, false, false, false, false, false] rfl rfl (any_of HT_.out (by kernel_rfl)) (fun _ _ _ h => h) (Or.inl ⟨by rfl, ?_⟩) ?_ ?_
         rotate_left
         ·
          intro w'
          go_simp
          with_reducible rfl
         rotate_left
         ·
          simp only [Act.put, List.setIfInBounds_toArray, List.set_cons_zero, List.set_cons_succ, i64_w, i32_w]
          rfl
         refine pure_ (i := 13) (N := some 47) (v := ?_) (a' := ?_) #[true, true, false, true, true, true, false, true, true, false, true, true, false, true, false, false, false, false] rfl rfl (any_of HT_.out (by kernel_rfl)) (fun _ _ _ h => h) (Or.inl ⟨by rfl, ?_⟩) ?_ ?_
         rotate_left
         ·
          intro w'
          go_simp
          with_reducible rfl
         rotate_left
         ·
          simp only [Act.put, List.setIfInBounds_toArray, List.set_cons_zero, List.set_cons_succ, i64_w, i32_w]
          rfl
         refine pure_ (i := 14) (N := some 48) (v := ?_) (a' := ?_) #[true, true, false, true, true, true, false, true, true, false, true, true, false, true, true, false, false, false] rfl rfl (any_of HT_.out (by kernel_rfl)) (fun _ _ _ h => h) (Or.inl ⟨by rfl, ?_⟩) ?_ ?_
         rotate_left
         ·
          intro w'
          go_simp
          with_reducible rfl
         rotate_left
         ·
          simp only [Act.put, List.setIfInBounds_toArray, List.set_cons_zero, List.set_cons_succ, i64_w, i32_w]
          rfl
         refine take_ (i := 2) (N := some 36) (v := ?_) (a' := ?_) #[true, true, true, true, true, true, false, true, true, false, true, true, false, true, true, false, false, false] rfl rfl (take_ofW HT_.out HW_.out (by kernel_rfl)) (fun _ _ _ h => h) (Or.inl ⟨by rfl, ?_⟩) hHeld ?_ ?_
         rotate_left
         ·
          rintro w' ⟨s0, s1, s2, s3, s4⟩
          go_simp
          with_reducible rfl
         rotate_left
         ·
          simp only [Act.put, List.setIfInBounds_toArray, List.set_cons_zero, List.set_cons_succ, i64_w, i32_w]
          rfl
         refine take_ (i := 6) (N := some 40) (v := ?_) (a' := ?_) #[true, true, true, true, true, true, true, true, true, false, true, true, false, true, true, false, false, false] rfl rfl (take_ofW HT_.out HW_.out (by kernel_rfl)) (fun _ _ _ h => h) (Or.inl ⟨by rfl, ?_⟩) hHeld ?_ ?_
         rotate_left
         ·
          rintro w' ⟨s0, s1, s2, s3, s4⟩
          go_simp
          with_reducible rfl
         rotate_left
         ·
          simp only [Act.put, List.setIfInBounds_toArray, List.set_cons_zero, List.set_cons_succ, i64_w, i32_w]
          rfl
         refine take_ (i := 9) (N := some 43) (v := ?_) (a' := ?_) #[true, true, true, true, true, true, true, true, true, true, true, true, false, true, true, false, false, false] rfl rfl (take_ofW HT_.out HW_.out (by kernel_rfl)) (fun _ _ _ h => h) (Or.inl ⟨by rfl, ?_⟩) hHeld ?_ ?_
         rotate_left
         ·
          rintro w' ⟨s0, s1, s2, s3, s4⟩
          go_simp
          with_reducible rfl
         rotate_left
         ·
          simp only [Act.put, List.setIfInBounds_toArray, List.set_cons_zero, List.set_cons_succ, i64_w, i32_w]
          rfl
         refine take_ (i := 12) (N := some 46) (v := ?_) (a' := ?_) #[true, true, true, true, true, true, true, true, true, true, true, true, true, true, true, false, false, false] rfl rfl (take_ofW HT_.out HW_.out (by kernel_rfl)) (fun _ _ _ h => h) (Or.inl ⟨by rfl, ?_⟩) hHeld ?_ ?_
         rotate_left
         ·
          rintro w' ⟨s0, s1, s2, s3, s4⟩
          go_simp
          with_reducible rfl
         rotate_left
         ·
          simp only [Act.put, List.setIfInBounds_toArray, List.set_cons_zero, List.set_cons_succ, i64_w, i32_w]
          rfl
         refine take_ (i := 15) (N := some 49) (v := ?_) (a' := ?_) #[true, true, true, true, true, true, true, true, true, true, true, true, true, true, true, true, false, false] rfl rfl (take_ofW HT_.out HW_.out (by kernel_rfl)) (fun _ _ _ h => h) (Or.inl ⟨by rfl, ?_⟩) hHeld ?_ ?_
         rotate_left
         ·
          rintro w' ⟨s0, s1, s2, s3, s4⟩
          go_simp
          with_reducible rfl
         rotate_left
         ·
          simp only [Act.put, List.setIfInBounds_toArray, List.set_cons_zero, List.set_cons_succ, i64_w, i32_w]
          rfl
         refine pure_ (i := 16) (N := some 50) (v := ?_) (a' := ?_) #[true, true, true, true, true, true, true, true, true, true, true, true, true, true, true, true, true, false] rfl rfl (any_of HT_.out (by kernel_rfl)) (fun _ _ _ h => h) (Or.inl ⟨by rfl, ?_⟩) ?_ ?_
         rotate_left
         ·
          intro w'
          go_simp
          with_reducible rfl
         rotate_left
         ·
          simp only [Act.put, List.setIfInBounds_toArray, List.set_cons_zero, List.set_cons_succ, i64_w, i32_w]
          rfl
         refine one_ (i := 17) (N := none) #[true, true, true, true, true, true, true, true, true, true, true, true, true, true, true, true, true, true] rfl rfl (one_of HT_.out (by kernel_rfl)) (by decide) (fun K hK => ?_)
         have hs38 : w37.cell? ⟨gb201, 0, none⟩ = some (.int .i64 0) := (blk_cell BK201.out 0).trans rfl
         have hfs38 := blk_frozen BK201.out 0
         have hs39 : w37.cell? ⟨gb201, 1, none⟩ = some (.int .i64 0) := (blk_cell BK201.out 1).trans rfl
         have hfs39 := blk_frozen BK201.out 1
         have hs40 : w37.cell? ⟨gb201, 2, none⟩ = some (.int .i64 0) := (blk_cell BK201.out 2).trans rfl
         have hfs40 := blk_frozen BK201.out 2
         have hs41 : w37.cell? ⟨gb201, 3, none⟩ = some (.int .i64 0) := (blk_cell BK201.out 3).trans rfl
         have hfs41 := blk_frozen BK201.out 3
         have hs42 : w37.cell? ⟨gb201, 4, none⟩ = some (.int .i64 0) := (blk_cell BK201.out 4).trans rfl
         have hfs42 := blk_frozen BK201.out 4
         have hs43 : w37.cell? ⟨gb201, 5, none⟩ = some (.int .i64 0) := (blk_cell BK201.out 5).trans rfl
         have hfs43 := blk_frozen BK201.out 5
         refine skip_ (w1 := ?_) (by rfl) rfl ?_ ?_
         rotate_left
         ·
          go_simp
          rfl
         have hne_ad204 : ad204.block ≠ gb201 := Kd.own_blk (Kd.R_ne HO199.out BK201.out (by decide))
         have hst : ∀ (W : World) (k : Nat) (v : Value), (fun w' => w'.cell? ⟨ad204.block, ad204.off + 1, none⟩ = some (.int .i64 (rd t197 1)) ∧ w'.cell? ad204 = some (.int .i64 (rd t197 0)) ∧ w'.cell? ⟨ad204.block, ad204.off + 2, none⟩ = some (.int .i64 (rd t197 2)) ∧ w'.cell? ⟨ad204.block, ad204.off + 3, none⟩ = some (.int .i64 (rd t197 3)) ∧ w'.cell? ⟨ad204.block, ad204.off + 4, none⟩ = some (.int .i64 (rd t197 4))) W → (fun w' => w'.cell? ⟨ad204.block, ad204.off + 1, none⟩ = some (.int .i64 (rd t197 1)) ∧ w'.cell? ad204 = some (.int .i64 (rd t197 0)) ∧ w'.cell? ⟨ad204.block, ad204.off + 2, none⟩ = some (.int .i64 (rd t197 2)) ∧ w'.cell? ⟨ad204.block, ad204.off + 3, none⟩ = some (.int .i64 (rd t197 3)) ∧ w'.cell? ⟨ad204.block, ad204.off + 4, none⟩ = some (.int .i64 (rd t197 4))) (W.setCell ⟨gb201, k, none⟩ v) := fun W k v h => ⟨(cell_far (W := W) (p := ⟨gb201, k, none⟩) (a := ⟨ad204.block, ad204.off + 1, none⟩) hne_ad204 v).trans h.1, (cell_far (W := W) (p := ⟨gb201, k, none⟩) (a := ad204) hne_ad204 v).trans h.2.1, (cell_far (W := W) (p := ⟨gb201, k, none⟩) (a := ⟨ad204.block, ad204.off + 2, none⟩) hne_ad204 v).trans h.2.2.1, (cell_far (W := W) (p := ⟨gb201, k, none⟩) (a := ⟨ad204.block, ad204.off + 3, none⟩) hne_ad204 v).trans h.2.2.2.1, (cell_far (W := W) (p := ⟨gb201, k, none⟩) (a := ⟨ad204.block, ad204.off + 4, none⟩) hne_ad204 v).trans h.2.2.2.2⟩
         refine hK.out _ _ (hst _ _ _ (hst _ _ _ (hst _ _ _ (hst _ _ _ (hst _ _ _ (hst _ _ _ (hHeld))))))) (fun hHeld => ?_)
         clear hK K
         refine done_ (done_of HT_.out (by kernel_rfl)) ?_
         try go_wp2_with (first | ((with_reducible refine gate_callee (f := 67) rfl ?_); refine goesL_ (some 52) rfl rfl Tryd.func67 (by kernel_rfl) rfl #[.string a0, .int .u8 45] rfl (by (try simp only [List.map_toArray, List.map_cons, List.map_nil]); first | done | rfl | (simp only [List.length_drop, List.length_take]; rfl)) ?_; (with_reducible refine (strings_IndexByte.calls a0 45 t209 _ A24.out).mono ?_); rintro e w' ⟨rfl, ⟨nd, rfl⟩⟩; refine ⟨_, rfl, ?_⟩; have hcz44_0 : w37.cell? ⟨gb201, 0, none⟩ = some (.int .i64 0) := (blk_cell BK201.out 0).trans rfl; have hcz44_1 : w37.cell? ⟨gb201, 1, none⟩ = some (.int .i64 0) := (blk_cell BK201.out 1).trans rfl; have hcz44_2 : w37.cell? ⟨gb201, 2, none⟩ = some (.int .i64 0) := (blk_cell BK201.out 2).trans rfl; have hcz44_3 : w37.cell? ⟨gb201, 3, none⟩ = some (.int .i64 0) := (blk_cell BK201.out 3).trans rfl; have hcz44_4 : w37.cell? ⟨gb201, 4, none⟩ = some (.int .i64 0) := (blk_cell BK201.out 4).trans rfl; have hcz44_5 : w37.cell? ⟨gb201, 5, none⟩ = some (.int .i64 0) := (blk_cell BK201.out 5).trans rfl; have hfz44_0 := blk_frozen BK201.out 0; have hfz44_1 := blk_frozen BK201.out 1; have hfz44_2 := blk_frozen BK201.out 2; have hfz44_3 := blk_frozen BK201.out 3; have hfz44_4 := blk_frozen BK201.out 4; have hfz44_5 := blk_frozen BK201.out 5))
         go_meet
         case rel => exact ⟨_, (wrap64 ((rd t197 1) + 1900)), (t203), (rd t197 0), (rd t197 2), (rd t197 3), (rd t197 4), H', ⟨by have := HJ1.out; first | omega | exact Nat.le_refl _⟩, ⟨by (with_reducible repeat (first | refine blk_drewN ?_ _ | refine blk_drew ?_ | refine blk_alloc ?_ _)); refine blk_put (cs := #[.int .i64 (rd t197 1), .int .i64 t203, .int .i64 (rd t197 0), .int .i64 (rd t197 2), .int .i64 (rd t197 3), .int .i64 (rd t197 4)]) ?_ 0 _ rfl; (with_reducible repeat (first | refine blk_drewN ?_ _ | refine blk_drew ?_ | refine blk_alloc ?_ _)); refine blk_put (cs := #[.int .i64 (rd t197 1), .int .i64 t203, .int .i64 (rd t197 0), .int .i64 (rd t197 2), .int .i64 (rd t197 3), .int .i64 0]) ?_ 5 _ rfl; (with_reducible repeat (first | refine blk_drewN ?_ _ | refine blk_drew ?_ | refine blk_alloc ?_ _)); refine blk_put (cs := #[.int .i64 (rd t197 1), .int .i64 t203, .int .i64 (rd t197 0), .int .i64 (rd t197 2), .int .i64 0, .int .i64 0]) ?_ 4 _ rfl; (with_reducible repeat (first | refine blk_drewN ?_ _ | refine blk_drew ?_ | refine blk_alloc ?_ _)); refine blk_put (cs := #[.int .i64 (rd t197 1), .int .i64 t203, .int .i64 (rd t197 0), .int .i64 0, .int .i64 0, .int .i64 0]) ?_ 3 _ rfl; (with_reducible repeat (first | refine blk_drewN ?_ _ | refine blk_drew ?_ | refine blk_alloc ?_ _)); refine blk_put (cs := #[.int .i64 (rd t197 1), .int .i64 t203, .int .i64 0, .int .i64 0, .int .i64 0, .int .i64 0]) ?_ 2 _ rfl; (with_reducible repeat (first | refine blk_drewN ?_ _ | refine blk_drew ?_ | refine blk_alloc ?_ _)); refine blk_put (cs := #[.int .i64 (rd t197 1), .int .i64 0, .int .i64 0, .int .i64 0, .int .i64 0, .int .i64 0]) ?_ 1 _ rfl; (with_reducible repeat (first | refine blk_drewN ?_ _ | refine blk_drew ?_ | refine blk_alloc ?_ _)); refine blk_put (cs := #[.int .i64 0, .int .i64 0, .int .i64 0, .int .i64 0, .int .i64 0, .int .i64 0]) ?_ 0 _ rfl; (with_reducible repeat (first | refine blk_drewN ?_ _ | refine blk_drew ?_ | refine blk_alloc ?_ _)); exact BK201.out⟩, ⟨by repeat (first | (with_reducible first | exact HB.out | apply below_alloc | apply pw_below_drewN | apply below_drew1 | refine below_set ?_ GE201.out) | exact HB.out)⟩⟩
       ·
        rw [if_neg c25] at H
        have c25b0 : decide (0 ≤ t209) = false := decide_eq_false c25
        clear c25
        have H' := Aside0.mk H
        clear H
        try go_wp2_with (first | ((with_reducible refine gate_callee (f := 66) rfl ?_); refine goesL_ (some 33) rfl rfl Tryd.func66 (by kernel_rfl) rfl #[.string (a0.extract (t202 : Int).toNat a0.size)] rfl (by (try simp only [List.map_toArray, List.map_cons, List.map_nil]); first | done | rfl | (simp only [List.length_drop, List.length_take]; rfl)) ?_; (with_reducible refine (impl_monthIn.calls kj1 (a0.extract (t202 : Int).toNat a0.size) t203 _ ?side1 A18.out).mono ?_); (case side1 => exact Tab.below HT.out (by repeat (first | (with_reducible first | exact HB.out | apply below_alloc | apply pw_below_drewN | apply below_drew1 | refine below_set ?_ GE201.out) | exact HB.out))); rintro e w45 ⟨rfl, hb⟩; refine ⟨_, rfl, ?_⟩; have n0_ := Aside0.mk (Kd.R_below (by (with_reducible repeat (first | apply Kd.R_alloc | apply Kd.R_drewN | apply Kd.R_drew)); exact HO199.out) hb); have n1_ := Aside0.mk (blk_below (g := gb201) (o := .cells #[.int .i64 0, .int .i64 0, .int .i64 0, .int .i64 0, .int .i64 0, .int .i64 0] 30 (0, 0)) (by (with_reducible repeat (first | refine blk_drewN ?_ _ | refine blk_drew ?_ | refine blk_alloc ?_ _)); exact BK201.out) hb); have n2_ := Aside0.mk (below_step (by repeat (first | (with_reducible first | exact HB.out | apply below_alloc | apply pw_below_drewN | apply below_drew1 | refine below_set ?_ GE201.out) | exact HB.out)) hb); clear HO199; clear BK201; clear HB; have HO199 := n0_; have BK201 := n1_; have HB := n2_; clear n0_ n1_ n2_; (try clear hb); (try clear hb2); (try clear hk); (try clear hi)))
        have n0_ := Aside0.mk (Kd.R_drew HO199.out)
        have n1_ := Aside0.mk (blk_drew BK201.out)
        have n2_ := Aside0.mk (below_drew1 HB.out)
        clear HO199
        clear BK201
        clear HB
        have HO199 := n0_
        have BK201 := n1_
        have HB := n2_
        clear n0_ n1_ n2_
        have p204 : 0 ≤ (1 : Int) := (by omega)
        have q204 : 1 < (t197.length : Int) := of_decide_eq_true (by first | (with_reducible assumption) | assumption)
        obtain ⟨ad204, e204, hx204_0⟩ := Kd.at_int (Kd.R_reads' HO199.out).2.2 1 p204 q204
        cases e204
        (try simp only [show (1 : Int).toNat = 1 from rfl, Nat.reduceMul, Nat.reduceEqDiff, Go.Addr.add, ↓reduceIte] at hx204_0)
        have qi204 : (1 < t197.length) = True := eq_true (by omega)
        (try rw [show ((1 : Int)).toNat = 1 from rfl] at hx204_0)
        replace p204 := eq_true p204
        replace q204 := eq_true q204
        have p205 : 0 ≤ (0 : Int) := (by omega)
        have q205 : 0 < (t197.length : Int) := of_decide_eq_true (by first | (with_reducible assumption) | assumption)
        obtain ⟨ad205, e205, hx205_0⟩ := Kd.at_int (Kd.R_reads' HO199.out).2.2 0 p205 q205
        obtain rfl : ad204 = ad205 := (by injection e205)
        have qi205 : (0 < t197.length) = True := eq_true (by omega)
        (try rw [show ((0 : Int)).toNat = 0 from rfl] at hx205_0)
        (try rw [Addr.add_zero'] at hx205_0)
        replace p205 := eq_true p205
        replace q205 := eq_true q205
        have p206 : 0 ≤ (2 : Int) := (by omega)
        have q206 : 2 < (t197.length : Int) := of_decide_eq_true (by first | (with_reducible assumption) | assumption)
        obtain ⟨ad206, e206, hx206_0⟩ := Kd.at_int (Kd.R_reads' HO199.out).2.2 2 p206 q206
        obtain rfl : ad204 = ad206 := (by injection e206)
        (try simp only [show (2 : Int).toNat = 2 from rfl, Nat.reduceMul, Nat.reduceEqDiff, Go.Addr.add, ↓reduceIte] at hx206_0)
        have qi206 : (2 < t197.length) = True := eq_true (by omega)
        (try rw [show ((2 : Int)).toNat = 2 from rfl] at hx206_0)
        replace p206 := eq_true p206
        replace q206 := eq_true q206
        have p207 : 0 ≤ (3 : Int) := (by omega)
        have q207 : 3 < (t197.length : Int) := of_decide_eq_true (by first | (with_reducible assumption) | assumption)
        obtain ⟨ad207, e207, hx207_0⟩ := Kd.at_int (Kd.R_reads' HO199.out).2.2 3 p207 q207
        obtain rfl : ad204 = ad207 := (by injection e207)
        (try simp only [show (3 : Int).toNat = 3 from rfl, Nat.reduceMul, Nat.reduceEqDiff, Go.Addr.add, ↓reduceIte] at hx207_0)
        have qi207 : (3 < t197.length) = True := eq_true (by omega)
        (try rw [show ((3 : Int)).toNat = 3 from rfl] at hx207_0)
        replace p207 := eq_true p207
        replace q207 := eq_true q207
        have p208 : 0 ≤ (4 : Int) := (by omega)
        have q208 : 4 < (t197.length : Int) := of_decide_eq_true (by first | (with_reducible assumption) | assumption)
        obtain ⟨ad208, e208, hx208_0⟩ := Kd.at_int (Kd.R_reads' HO199.out).2.2 4 p208 q208
        obtain rfl : ad204 = ad208 := (by injection e208)
        (try simp only [show (4 : Int).toNat = 4 from rfl, Nat.reduceMul, Nat.reduceEqDiff, Go.Addr.add, ↓reduceIte] at hx208_0)
        have qi208 : (4 < t197.length) = True := eq_true (by omega)
        (try rw [show ((4 : Int)).toNat = 4 from rfl] at hx208_0)
        replace p208 := eq_true p208
        replace q208 := eq_true q208
        refine start_ (n := 18) (S := fun w' => w'.cell? ⟨ad204.block, ad204.off + 1, none⟩ = some (.int .i64 (rd t197 1)) ∧ w'.cell? ad204 = some (.int .i64 (rd t197 0)) ∧ w'.cell? ⟨ad204.block, ad204.off + 2, none⟩ = some (.int .i64 (rd t197 2)) ∧ w'.cell? ⟨ad204.block, ad204.off + 3, none⟩ = some (.int .i64 (rd t197 3)) ∧ w'.cell? ⟨ad204.block, ad204.off + 4, none⟩ = some (.int .i64 (rd t197 4))) (ds := []) #[false, false, false, false, false, false, false, false, false, false, false, false, false, false, false, false, false, false] (by kernel_rfl) rfl rfl ⟨hx204_0, hx205_0, hx206_0, hx207_0, hx208_0⟩ (fun hHeld => ?_); refine with_tabW impl_ReadHttpDate.tab11 impl_ReadHttpDate.bits11 (fun HT_ HW_ => ?_)
        generalize w45.drew = w46 at HO199 BK201 HB hx204_0 hx205_0 hx206_0 hx207_0 hx208_0 hHeld ⊢
        refine pure_ (i := 0) (N := some 34) (v := ?_) (a' := ?_) #[true, false, false, false, false, false, false, false, false, false, false, false, false, false, false, false, false, false] rfl rfl (any_of HT_.out (by kernel_rfl)) (fun _ _ _ h => h) (Or.inl ⟨by rfl, ?_⟩) ?_ ?_
        rotate_left
        ·
         intro w'
         go_simp
         with_reducible rfl
        rotate_left
        ·
         simp only [Act.put, List.setIfInBounds_toArray, List.set_cons_zero, List.set_cons_succ, i64_w, i32_w]
         rfl
        refine pure_ (i := 1) (N := some 35) (v := ?_) (a' := ?_) #[true, true, false, false, false, false, false, false, false, false, false, false, false, false, false, false, false, false] rfl rfl (any_of HT_.out (by kernel_rfl)) (fun _ _ _ h => h) (Or.inl ⟨by rfl, ?_⟩) ?_ ?_
        rotate_left
        ·
         intro w'
         go_simp
         with_reducible rfl
        rotate_left
        ·
         simp only [Act.put, List.setIfInBounds_toArray, List.set_cons_zero, List.set_cons_succ, i64_w, i32_w]
         rfl
        refine pure_ (i := 3) (N := some 37) (v := ?_) (a' := ?_) #[true, true, false, true, false, false, false, false, false, false, false, false, false, false, false, false, false, false] rfl rfl (any_of HT_.out (by kernel_rfl)) (fun _ _ _ h => h) (Or.inl ⟨by rfl, ?_⟩) ?_ ?_
        rotate_left
        ·
         intro w'
         go_simp
         with_reducible rfl
        rotate_left
        ·
         simp only [Act.put, List.setIfInBounds_toArray, List.set_cons_zero, List.set_cons_succ, i64_w, i32_w]
         rfl
        refine pure_ (i := 4) (N := some 38) (v := ?_) (a' := ?_) #[true, true, false, true, true, false, false, false, false, false, false, false, false, false, false, false, false, false] rfl rfl (any_of HT_.out (by kernel_rfl)) (fun _ _ _ h => h) (Or.inl ⟨by rfl, ?_⟩) ?_ ?_
        rotate_left
        ·
         intro w'
         go_simp
         with_reducible rfl
        rotate_left
        ·
         simp only [Act.put, List.setIfInBounds_toArray, List.set_cons_zero, List.set_cons_succ, i64_w, i32_w]
         rfl
        refine pure_ (i := 5) (N := some 39) (v := ?_) (a' := ?_) #[true, true, false, true, true, true, false, false, false, false, false, false, false, false, false, false, false, false] rfl rfl (any_of HT_.out (by kernel_rfl)) (fun _ _ _ h => h) (Or.inl ⟨by rfl, ?_⟩) ?_ ?_
        rotate_left
        ·
         intro w'
         go_simp
         with_reducible rfl
        rotate_left
        ·
         simp only [Act.put, List.setIfInBounds_toArray, List.set_cons_zero, List.set_cons_succ, i64_w, i32_w]
         rfl
        refine pure_ (i := 7) (N := some 41) (v := ?_) (a' := ?_) #[true, true, false, true, true, true, false, true, false, false, false, false, false, false, false, false, false, false] rfl rfl (any_of HT_.out (by kernel_rfl)) (fun _ _ _ h => h) (Or.inl ⟨by rfl, ?_⟩) ?_ ?_
        rotate_left
        ·
         intro w'
         go_simp
         with_reducible rfl
        rotate_left
        ·
         simp only [Act.put, List.setIfInBounds_toArray, List.set_cons_zero, List.set_cons_succ, i64_w, i32_w]
         rfl
        refine pure_ (i := 8) (N := some 42) (v := ?_) (a' := ?_) #[true, true, false, true, true, true, false, true, true, false, false, false, false, false, false, false, false, false] rfl rfl (any_of HT_.out (by kernel_rfl)) (fun _ _ _ h => h) (Or.inl ⟨by rfl, ?_⟩) ?_ ?_
        rotate_left
        ·
         intro w'
         go_simp
         with_reducible rfl
        rotate_left
        ·
         simp only [Act.put, List.setIfInBounds_toArray, List.set_cons_zero, List.set_cons_succ, i64_w, i32_w]
         rfl
        refine pure_ (i := 10) (N := some 44) (v := ?_) (a' := ?_) #[true, true, false, true, true, true, false, true, true, false, true, false, false, false, false, false, false, false] rfl rfl (any_of HT_.out (by kernel_rfl)) (fun _ _ _ h => h) (Or.inl ⟨by rfl, ?_⟩) ?_ ?_
        rotate_left
        ·
         intro w'
         go_simp
         with_reducible rfl
        rotate_left
        ·
         simp only [Act.put, List.setIfInBounds_toArray, List.set_cons_zero, List.set_cons_succ, i64_w, i32_w]
         rfl
        refine pure_ (i := 11) (N := some 45) (v := ?_) (a' := ?_) #[true, true, false, true, true, true, false, true, true, false, true, true, false, false, false, false, false, false] rfl rfl (any_of HT_.out (by kernel_rfl)) (fun _ _ _ h => h) (Or.inl ⟨by rfl, ?_⟩) ?_ ?_
        rotate_left
        ·
         intro w'
         go_simp
         with_reducible rfl
        rotate_left
        ·
         simp only [Act.put, List.setIfInBounds_toArray, List.set_cons_zero, List.set_cons_succ, i64_w, i32_w]
         rfl
        refine pure_ (i := 13) (N := some 47) (v := ?_) (a' := ?_) #[true, true, false, true, true, true, false, true, true, false, true, true, false, true, false, false, false, false] rfl rfl (any_of HT_.out (by kernel_rfl)) (fun _ _ _ h => h) (Or.inl ⟨by rfl, ?_⟩) ?_ ?_
        rotate_left
        ·
         intro w'
         go_simp
         with_reducible rfl
        rotate_left
        ·
         simp only [Act.put, List.setIfInBounds_toArray, List.set_cons_zero, List.set_cons_succ, i64_w, i32_w]
         rfl
        refine pure_ (i := 14) (N := some 48) (v := ?_) (a' := ?_) #[true, true, false, true, true, true, false, true, true, false, true, true, false, true, true, false, false, false] rfl rfl (any_of HT_.out (by kernel_rfl)) (fun _ _ _ h => h) (Or.inl ⟨by rfl, ?_⟩) ?_ ?_
        rotate_left
        ·
         intro w'
         go_simp
         with_reducible rfl
        rotate_left
        ·
         simp only [Act.put, List.setIfInBounds_toArray, List.set_cons_zero, List.set_cons_succ, i64_w, i32_w]
         rfl
        refine take_ (i := 2) (N := some 36) (v := ?_) (a' := ?_) #[true, true, true, true, true, true, false, true, true, false, true, true, false, true, true, false, false, false] rfl rfl (take_ofW HT_.out HW_.out (by kernel_rfl)) (fun _ _ _ h => h) (Or.inl ⟨by rfl, ?_⟩) hHeld ?_ ?_
        rotate_left
        ·
         rintro w' ⟨s0, s1, s2, s3, s4⟩
         go_simp
         with_reducible rfl
        rotate_left
        ·
         simp only [Act.put, List.setIfInBounds_toArray, List.set_cons_zero, List.set_cons_succ, i64_w, i32_w]
         rfl
        refine take_ (i := 6) (N := some 40) (v := ?_) (a' := ?_) #[true, true, true, true, true, true, true, true, true, false, true, true, false, true, true, false, false, false] rfl rfl (take_ofW HT_.out HW_.out (by kernel_rfl)) (fun _ _ _ h => h) (Or.inl ⟨by rfl, ?_⟩) hHeld ?_ ?_
        rotate_left
        ·
         rintro w' ⟨s0, s1, s2, s3, s4⟩
         go_simp
         with_reducible rfl
        rotate_left
        ·
         simp only [Act.put, List.setIfInBounds_toArray, List.set_cons_zero, List.set_cons_succ, i64_w, i32_w]
         rfl
        refine take_ (i := 9) (N := some 43) (v := ?_) (a' := ?_) #[true, true, true, true, true, true, true, true, true, true, true, true, false, true, true, false, false, false] rfl rfl (take_ofW HT_.out HW_.out (by kernel_rfl)) (fun _ _ _ h => h) (Or.inl ⟨by rfl, ?_⟩) hHeld ?_ ?_
        rotate_left
        ·
         rintro w' ⟨s0, s1, s2, s3, s4⟩
         go_simp
         with_reducible rfl
        rotate_left
        ·
         simp only [Act.put, List.setIfInBounds_toArray, List.set_cons_zero, List.set_cons_succ, i64_w, i32_w]
         rfl
        refine take_ (i := 12) (N := some 46) (v := ?_) (a' := ?_) #[true, true, true, true, true, true, true, true, true, true, true, true, true, true, true, false, false, false] rfl rfl (take_ofW HT_.out HW_.out (by kernel_rfl)) (fun _ _ _ h => h) (Or.inl ⟨by rfl, ?_⟩) hHeld ?_ ?_
        rotate_left
        ·
         rintro w' ⟨s0, s1, s2, s3, s4⟩
         go_simp
         with_reducible rfl
        rotate_left
        ·
         simp only [Act.put, List.setIfInBounds_toArray, List.set_cons_zero, List.set_cons_succ, i64_w, i32_w]
         rfl
        refine take_ (i := 15) (N := some 49) (v := ?_) (a' := ?_) #[true, true, true, true, true, true, true, true, true, true, true, true, true, true, true, true, false, false] rfl rfl (take_ofW HT_.out HW_.out (by kernel_rfl)) (fun _ _ _ h => h) (Or.inl ⟨by rfl, ?_⟩) hHeld ?_ ?_
        rotate_left
        ·
         rintro w' ⟨s0, s1, s2, s3, s4⟩
         go_simp
         with_reducible rfl
        rotate_left
        ·
         simp only [Act.put, List.setIfInBounds_toArray, List.set_cons_zero, List.set_cons_succ, i64_w, i32_w]
         rfl
        refine pure_ (i := 16) (N := some 50) (v := ?_) (a' := ?_) #[true, true, true, true, true, true, true, true, true, true, true, true, true, true, true, true, true, false] rfl rfl (any_of HT_.out (by kernel_rfl)) (fun _ _ _ h => h) (Or.inl ⟨by rfl, ?_⟩) ?_ ?_
        rotate_left
        ·
         intro w'
         go_simp
         with_reducible rfl
        rotate_left
        ·
         simp only [Act.put, List.setIfInBounds_toArray, List.set_cons_zero, List.set_cons_succ, i64_w, i32_w]
         rfl
        refine one_ (i := 17) (N := none) #[true, true, true, true, true, true, true, true, true, true, true, true, true, true, true, true, true, true] rfl rfl (one_of HT_.out (by kernel_rfl)) (by decide) (fun K hK => ?_)
        have hs47 : w46.cell? ⟨gb201, 0, none⟩ = some (.int .i64 0) := (blk_cell BK201.out 0).trans rfl
        have hfs47 := blk_frozen BK201.out 0
        have hs48 : w46.cell? ⟨gb201, 1, none⟩ = some (.int .i64 0) := (blk_cell BK201.out 1).trans rfl
        have hfs48 := blk_frozen BK201.out 1
        have hs49 : w46.cell? ⟨gb201, 2, none⟩ = some (.int .i64 0) := (blk_cell BK201.out 2).trans rfl
        have hfs49 := blk_frozen BK201.out 2
        have hs50 : w46.cell? ⟨gb201, 3, none⟩ = some (.int .i64 0) := (blk_cell BK201.out 3).trans rfl
        have hfs50 := blk_frozen BK201.out 3
        have hs51 : w46.cell? ⟨gb201, 4, none⟩ = some (.int .i64 0) := (blk_cell BK201.out 4).trans rfl
        have hfs51 := blk_frozen BK201.out 4
        have hs52 : w46.cell? ⟨gb201, 5, none⟩ = some (.int .i64 0) := (blk_cell BK201.out 5).trans rfl
        have hfs52 := blk_frozen BK201.out 5
        refine skip_ (w1 := ?_) (by rfl) rfl ?_ ?_
        rotate_left
        ·
         go_simp
         rfl
        have hne_ad204 : ad204.block ≠ gb201 := Kd.own_blk (Kd.R_ne HO199.out BK201.out (by decide))
        have hst : ∀ (W : World) (k : Nat) (v : Value), (fun w' => w'.cell? ⟨ad204.block, ad204.off + 1, none⟩ = some (.int .i64 (rd t197 1)) ∧ w'.cell? ad204 = some (.int .i64 (rd t197 0)) ∧ w'.cell? ⟨ad204.block, ad204.off + 2, none⟩ = some (.int .i64 (rd t197 2)) ∧ w'.cell? ⟨ad204.block, ad204.off + 3, none⟩ = some (.int .i64 (rd t197 3)) ∧ w'.cell? ⟨ad204.block, ad204.off + 4, none⟩ = some (.int .i64 (rd t197 4))) W → (fun w' => w'.cell? ⟨ad204.block, ad204.off + 1, none⟩ = some (.int .i64 (rd t197 1)) ∧ w'.cell? ad204 = some (.int .i64 (rd t197 0)) ∧ w'.cell? ⟨ad204.block, ad204.off + 2, none⟩ = some (.int .i64 (rd t197 2)) ∧ w'.cell? ⟨ad204.block, ad204.off + 3, none⟩ = some (.int .i64 (rd t197 3)) ∧ w'.cell? ⟨ad204.block, ad204.off + 4, none⟩ = some (.int .i64 (rd t197 4))) (W.setCell ⟨gb201, k, none⟩ v) := fun W k v h => ⟨(cell_far (W := W) (p := ⟨gb201, k, none⟩) (a := ⟨ad204.block, ad204.off + 1, none⟩) hne_ad204 v).trans h.1, (cell_far (W := W) (p := ⟨gb201, k, none⟩) (a := ad204) hne_ad204 v).trans h.2.1, (cell_far (W := W) (p := ⟨gb201, k, none⟩) (a := ⟨ad204.block, ad204.off + 2, none⟩) hne_ad204 v).trans h.2.2.1, (cell_far (W := W) (p := ⟨gb201, k, none⟩) (a := ⟨ad204.block, ad204.off + 3, none⟩) hne_ad204 v).trans h.2.2.2.1, (cell_far (W := W) (p := ⟨gb201, k, none⟩) (a := ⟨ad204.block, ad204.off + 4, none⟩) hne_ad204 v).trans h.2.2.2.2⟩
        refine hK.out _ _ (hst _ _ _ (hst _ _ _ (hst _ _ _ (hst _ _ _ (hst _ _ _ (hst _ _ _ (hHeld))))))) (fun hHeld => ?_)
        clear hK K
        refine done_ (done_of HT_.out (by kernel_rfl)) ?_
        try go_wp2_with (first | ((with_reducible refine gate_callee (f := 67) rfl ?_); refine goesL_ (some 52) rfl rfl Tryd.func67 (by kernel_rfl) rfl #[.string a0, .int .u8 45] rfl (by (try simp only [List.map_toArray, List.map_cons, List.map_nil]); first | done | rfl | (simp only [List.length_drop, List.length_take]; rfl)) ?_; (with_reducible refine (strings_IndexByte.calls a0 45 t209 _ A24.out).mono ?_); rintro e w' ⟨rfl, ⟨nd, rfl⟩⟩; refine ⟨_, rfl, ?_⟩))
        go_meet
        case rel => exact ⟨_, (rd t197 1), (t203), (rd t197 0), (rd t197 2), (rd t197 3), (rd t197 4), H', ⟨by have := HJ1.out; first | omega | exact Nat.le_refl _⟩, ⟨by (with_reducible repeat (first | refine blk_drewN ?_ _ | refine blk_drew ?_ | refine blk_alloc ?_ _)); refine blk_put (cs := #[.int .i64 (rd t197 1), .int .i64 t203, .int .i64 (rd t197 0), .int .i64 (rd t197 2), .int .i64 (rd t197 3), .int .i64 0]) ?_ 5 _ rfl; (with_reducible repeat (first | refine blk_drewN ?_ _ | refine blk_drew ?_ | refine blk_alloc ?_ _)); refine blk_put (cs := #[.int .i64 (rd t197 1), .int .i64 t203, .int .i64 (rd t197 0), .int .i64 (rd t197 2), .int .i64 0, .int .i64 0]) ?_ 4 _ rfl; (with_reducible repeat (first | refine blk_drewN ?_ _ | refine blk_drew ?_ | refine blk_alloc ?_ _)); refine blk_put (cs := #[.int .i64 (rd t197 1), .int .i64 t203, .int .i64 (rd t197 0), .int .i64 0, .int .i64 0, .int .i64 0]) ?_ 3 _ rfl; (with_reducible repeat (first | refine blk_drewN ?_ _ | refine blk_drew ?_ | refine blk_alloc ?_ _)); refine blk_put (cs := #[.int .i64 (rd t197 1), .int .i64 t203, .int .i64 0, .int .i64 0, .int .i64 0, .int .i64 0]) ?_ 2 _ rfl; (with_reducible repeat (first | refine blk_drewN ?_ _ | refine blk_drew ?_ | refine blk_alloc ?_ _)); refine blk_put (cs := #[.int .i64 (rd t197 1), .int .i64 0, .int .i64 0, .int .i64 0, .int .i64 0, .int .i64 0]) ?_ 1 _ rfl; (with_reducible repeat (first | refine blk_drewN ?_ _ | refine blk_drew ?_ | refine blk_alloc ?_ _)); refine blk_put (cs := #[.int .i64 0, .int .i64 0, .int .i64 0, .int .i64 0, .int .i64 0, .int .i64 0]) ?_ 0 _ rfl; (with_reducible repeat (first | refine blk_drewN ?_ _ | refine blk_drew ?_ | refine blk_alloc ?_ _)); exact BK201.out⟩, ⟨by repeat (first | (with_reducible first | exact HB.out | apply below_alloc | apply pw_below_drewN | apply below_drew1 | refine below_set ?_ GE201.out) | exact HB.out)⟩⟩
      ·
       rw [if_neg c15] at H
       have c15b0 : decide (0 ≤ t202) = false := decide_eq_false c15
       clear c15
       (first | rw [c15b0] | (simp only [i64_w, i32_w]; rw [c15b0]) | skip)
       have c53 : 4 < (t197.length : Int) := Classical.byContradiction fun h_ => by rw [if_neg h_] at H; exact absurd H (by simp)
       rw [if_pos c53] at H
       have c53b0 : decide (4 < (t197.length : Int)) = true := decide_eq_true c53
       have c53b1 : decide (4 < t197.length) = true := decide_eq_true (by omega)
       clear c53
       have c54 : 0 < (t197.length : Int) := Classical.byContradiction fun h_ => by rw [if_neg h_] at H; exact absurd H (by simp)
       rw [if_pos c54] at H
       have c54b0 : decide (0 < (t197.length : Int)) = true := decide_eq_true c54
       have c54b1 : decide (0 < t197.length) = true := decide_eq_true (by omega)
       clear c54
       have c55 : 1 < (t197.length : Int) := Classical.byContradiction fun h_ => by rw [if_neg h_] at H; exact absurd H (by simp)
       rw [if_pos c55] at H
       have c55b0 : decide (1 < (t197.length : Int)) = true := decide_eq_true c55
       have c55b1 : decide (1 < t197.length) = true := decide_eq_true (by omega)
       clear c55
       have c56 : 2 < (t197.length : Int) := Classical.byContradiction fun h_ => by rw [if_neg h_] at H; exact absurd H (by simp)
       rw [if_pos c56] at H
       have c56b0 : decide (2 < (t197.length : Int)) = true := decide_eq_true c56
       have c56b1 : decide (2 < t197.length) = true := decide_eq_true (by omega)
       clear c56
       have c57 : 3 < (t197.length : Int) := Classical.byContradiction fun h_ => by rw [if_neg h_] at H; exact absurd H (by simp)
       rw [if_pos c57] at H
       have c57b0 : decide (3 < (t197.length : Int)) = true := decide_eq_true c57
       have c57b1 : decide (3 < t197.length) = true := decide_eq_true (by omega)
       clear c57
       have H' := Aside0.mk H
       clear H
       try go_wp2
       have n0_ := Aside0.mk (Kd.R_drew (Kd.R_drewN HO199.out nd))
       have n1_ := Aside0.mk (blk_drew (blk_at (m := nd) rfl BK201.out))
       have n2_ := Aside0.mk (below_drew1 (below_at (m := nd) rfl HB.out))
       clear HO199
       clear BK201
       clear HB
       have HO199 := n0_
       have BK201 := n1_
       have HB := n2_
       clear n0_ n1_ n2_
       have p210 : 0 ≤ (4 : Int) := (by omega)
       have q210 : 4 < (t197.length : Int) := of_decide_eq_true (by first | (with_reducible assumption) | assumption)
       obtain ⟨ad210, e210, hx210_0⟩ := Kd.at_int (Kd.R_reads' HO199.out).2.2 4 p210 q210
       cases e210
       (try simp only [show (4 : Int).toNat = 4 from rfl, Nat.reduceMul, Nat.reduceEqDiff, Go.Addr.add, ↓reduceIte] at hx210_0)
       have qi210 : (4 < t197.length) = True := eq_true (by omega)
       (try rw [show ((4 : Int)).toNat = 4 from rfl] at hx210_0)
       replace p210 := eq_true p210
       replace q210 := eq_true q210
       have p211 : 0 ≤ (0 : Int) := (by omega)
       have q211 : 0 < (t197.length : Int) := of_decide_eq_true (by first | (with_reducible assumption) | assumption)
       obtain ⟨ad211, e211, hx211_0⟩ := Kd.at_int (Kd.R_reads' HO199.out).2.2 0 p211 q211
       obtain rfl : ad210 = ad211 := (by injection e211)
       have qi211 : (0 < t197.length) = True := eq_true (by omega)
       (try rw [show ((0 : Int)).toNat = 0 from rfl] at hx211_0)
       (try rw [Addr.add_zero'] at hx211_0)
       replace p211 := eq_true p211
       replace q211 := eq_true q211
       have p212 : 0 ≤ (1 : Int) := (by omega)
       have q212 : 1 < (t197.length : Int) := of_decide_eq_true (by first | (with_reducible assumption) | assumption)
       obtain ⟨ad212, e212, hx212_0⟩ := Kd.at_int (Kd.R_reads' HO199.out).2.2 1 p212 q212
       obtain rfl : ad210 = ad212 := (by injection e212)
       (try simp only [show (1 : Int).toNat = 1 from rfl, Nat.reduceMul, Nat.reduceEqDiff, Go.Addr.add, ↓reduceIte] at hx212_0)
       have qi212 : (1 < t197.length) = True := eq_true (by omega)
       (try rw [show ((1 : Int)).toNat = 1 from rfl] at hx212_0)
       replace p212 := eq_true p212
       replace q212 := eq_true q212
       have p213 : 0 ≤ (2 : Int) := (by omega)
       have q213 : 2 < (t197.length : Int) := of_decide_eq_true (by first | (with_reducible assumption) | assumption)
       obtain ⟨ad213, e213, hx213_0⟩ := Kd.at_int (Kd.R_reads' HO199.out).2.2 2 p213 q213
       obtain rfl : ad210 = ad213 := (by injection e213)
       (try simp only [show (2 : Int).toNat = 2 from rfl, Nat.reduceMul, Nat.reduceEqDiff, Go.Addr.add, ↓reduceIte] at hx213_0)
       have qi213 : (2 < t197.length) = True := eq_true (by omega)
       (try rw [show ((2 : Int)).toNat = 2 from rfl] at hx213_0)
       replace p213 := eq_true p213
       replace q213 := eq_true q213
       have p214 : 0 ≤ (3 : Int) := (by omega)
       have q214 : 3 < (t197.length : Int) := of_decide_eq_true (by first | (with_reducible assumption) | assumption)
       obtain ⟨ad214, e214, hx214_0⟩ := Kd.at_int (Kd.R_reads' HO199.out).2.2 3 p214 q214
       obtain rfl : ad210 = ad214 := (by injection e214)
       (try simp only [show (3 : Int).toNat = 3 from rfl, Nat.reduceMul, Nat.reduceEqDiff, Go.Addr.add, ↓reduceIte] at hx214_0)
       have qi214 : (3 < t197.length) = True := eq_true (by omega)
       (try rw [show ((3 : Int)).toNat = 3 from rfl] at hx214_0)
       replace p214 := eq_true p214
       replace q214 := eq_true q214
       refine start_ (n := 18) (S := fun w' => w'.cell? ⟨ad210.block, ad210.off + 4, none⟩ = some (.int .i64 (rd t197 4)) ∧ w'.cell? ad210 = some (.int .i64 (rd t197 0)) ∧ w'.cell? ⟨ad210.block, ad210.off + 1, none⟩ = some (.int .i64 (rd t197 1)) ∧ w'.cell? ⟨ad210.block, ad210.off + 2, none⟩ = some (.int .i64 (rd t197 2)) ∧ w'.cell? ⟨ad210.block, ad210.off + 3, none⟩ = some (.int .i64 (rd t197 3))) (ds := []) #[false, false, false, false, false, false, false, false, false, false, false, false, false, false, false, false, false, false] (by kernel_rfl) rfl rfl ⟨hx210_0, hx211_0, hx212_0, hx213_0, hx214_0⟩ (fun hHeld => ?_); refine with_tabW impl_ReadHttpDate.tab16 impl_ReadHttpDate.bits16 (fun HT_ HW_ => ?_)
       generalize (w14.drewN nd).drew = w58 at HO199 BK201 HB hx210_0 hx211_0 hx212_0 hx213_0 hx214_0 hHeld ⊢
       refine pure_ (i := 0) (N := some 65) (v := ?_) (a' := ?_) #[true, false, false, false, false, false, false, false, false, false, false, false, false, false, false, false, false, false] rfl rfl (any_of HT_.out (by kernel_rfl)) (fun _ _ _ h => h) (Or.inl ⟨by rfl, ?_⟩) ?_ ?_
       rotate_left
       ·
        intro w'
        go_simp
        with_reducible rfl
       rotate_left
       ·
        simp only [Act.put, List.setIfInBounds_toArray, List.set_cons_zero, List.set_cons_succ, i64_w, i32_w]
        rfl
       refine pure_ (i := 1) (N := some 66) (v := ?_) (a' := ?_) #[true, true, false, false, false, false, false, false, false, false, false, false, false, false, false, false, false, false] rfl rfl (any_of HT_.out (by kernel_rfl)) (fun _ _ _ h => h) (Or.inl ⟨by rfl, ?_⟩) ?_ ?_
       rotate_left
       ·
        intro w'
        go_simp
        with_reducible rfl
       rotate_left
       ·
        simp only [Act.put, List.setIfInBounds_toArray, List.set_cons_zero, List.set_cons_succ, i64_w, i32_w]
        rfl
       refine pure_ (i := 3) (N := some 68) (v := ?_) (a' := ?_) #[true, true, false, true, false, false, false, false, false, false, false, false, false, false, false, false, false, false] rfl rfl (any_of HT_.out (by kernel_rfl)) (fun _ _ _ h => h) (Or.inl ⟨by rfl, ?_⟩) ?_ ?_
       rotate_left
       ·
        intro w'
        go_simp
        with_reducible rfl
       rotate_left
       ·
        simp only [Act.put, List.setIfInBounds_toArray, List.set_cons_zero, List.set_cons_succ, i64_w, i32_w]
        rfl
       refine pure_ (i := 4) (N := some 69) (v := ?_) (a' := ?_) #[true, true, false, true, true, false, false, false, false, false, false, false, false, false, false, false, false, false] rfl rfl (any_of HT_.out (by kernel_rfl)) (fun _ _ _ h => h) (Or.inl ⟨by rfl, ?_⟩) ?_ ?_
       rotate_left
       ·
        intro w'
        go_simp
        with_reducible rfl
       rotate_left
       ·
        simp only [Act.put, List.setIfInBounds_toArray, List.set_cons_zero, List.set_cons_succ, i64_w, i32_w]
        rfl
       refine pure_ (i := 5) (N := some 70) (v := ?_) (a' := ?_) #[true, true, false, true, true, true, false, false, false, false, false, false, false, false, false, false, false, false] rfl rfl (any_of HT_.out (by kernel_rfl)) (fun _ _ _ h => h) (Or.inl ⟨by rfl, ?_⟩) ?_ ?_
       rotate_left
       ·
        intro w'
        go_simp
        with_reducible rfl
       rotate_left
       ·
        simp only [Act.put, List.setIfInBounds_toArray, List.set_cons_zero, List.set_cons_succ, i64_w, i32_w]
        rfl
       refine pure_ (i := 7) (N := some 72) (v := ?_) (a' := ?_) #[true, true, false, true, true, true, false, true, false, false, false, false, false, false, false, false, false, false] rfl rfl (any_of HT_.out (by kernel_rfl)) (fun _ _ _ h => h) (Or.inl ⟨by rfl, ?_⟩) ?_ ?_
       rotate_left
       ·
        intro w'
        go_simp
        with_reducible rfl
       rotate_left
       ·
        simp only [Act.put, List.setIfInBounds_toArray, List.set_cons_zero, List.set_cons_succ, i64_w, i32_w]
        rfl
       refine pure_ (i := 8) (N := some 73) (v := ?_) (a' := ?_) #[true, true, false, true, true, true, false, true, true, false, false, false, false, false, false, false, false, false] rfl rfl (any_of HT_.out (by kernel_rfl)) (fun _ _ _ h => h) (Or.inl ⟨by rfl, ?_⟩) ?_ ?_
       rotate_left
       ·
        intro w'
        go_simp
        with_reducible rfl
       rotate_left
       ·
        simp only [Act.put, List.setIfInBounds_toArray, List.set_cons_zero, List.set_cons_succ, i64_w, i32_w]
        rfl
       refine pure_ (i := 10) (N := some 75) (v := ?_) (a' := ?_) #[true, true, false, true, true, true, false, true, true, false, true, false, false, false, false, false, false, false] rfl rfl (any_of HT_.out (by kernel_rfl)) (fun _ _ _ h => h) (Or.inl ⟨by rfl, ?_⟩) ?_ ?_
       rotate_left
       ·
        intro w'
        go_simp
        with_reducible rfl
       rotate_left
       ·
        simp only [Act.put, List.setIfInBounds_toArray, List.set_cons_zero, List.set_cons_succ, i64_w, i32_w]
        rfl
       refine pure_ (i := 11) (N := some 76) (v := ?_) (a' := ?_) #[true, true, false, true, true, true, false, true, true, false, true, true, false, false, false, false, false, false] rfl rfl (any_of HT_.out (by kernel_rfl)) (fun _ _ _ h => h) (Or.inl ⟨by rfl, ?_⟩) ?_ ?_
       rotate_left
       ·
        intro w'
        go_simp
        with_reducible rfl
       rotate_left
       ·
        simp only [Act.put, List.setIfInBounds_toArray, List.set_cons_zero, List.set_cons_succ, i64_w, i32_w]
        rfl
       refine pure_ (i := 13) (N := some 78) (v := ?_) (a' := ?_) #[true, true, false, true, true, true, false, true, true, false, true, true, false, true, false, false, false, false] rfl rfl (any_of HT_.out (by kernel_rfl)) (fun _ _ _ h => h) (Or.inl ⟨by rfl, ?_⟩) ?_ ?_
       rotate_left
       ·
        intro w'
        go_simp
        with_reducible rfl
       rotate_left
       ·
        simp only [Act.put, List.setIfInBounds_toArray, List.set_cons_zero, List.set_cons_succ, i64_w, i32_w]
        rfl
       refine pure_ (i := 14) (N := some 79) (v := ?_) (a' := ?_) #[true, true, false, true, true, true, false, true, true, false, true, true, false, true, true, false, false, false] rfl rfl (any_of HT_.out (by kernel_rfl)) (fun _ _ _ h => h) (Or.inl ⟨by rfl, ?_⟩) ?_ ?_
       rotate_left
       ·
        intro w'
        go_simp
        with_reducible rfl
       rotate_left
       ·
        simp only [Act.put, List.setIfInBounds_toArray, List.set_cons_zero, List.set_cons_succ, i64_w, i32_w]
        rfl
       refine take_ (i := 2) (N := some 67) (v := ?_) (a' := ?_) #[true, true, true, true, true, true, false, true, true, false, true, true, false, true, true, false, false, false] rfl rfl (take_ofW HT_.out HW_.out (by kernel_rfl)) (fun _ _ _ h => h) (Or.inl ⟨by rfl, ?_⟩) hHeld ?_ ?_
       rotate_left
       ·
        rintro w' ⟨s0, s1, s2, s3, s4⟩
        go_simp
        with_reducible rfl
       rotate_left
       ·
        simp only [Act.put, List.setIfInBounds_toArray, List.set_cons_zero, List.set_cons_succ, i64_w, i32_w]
        rfl
       refine take_ (i := 6) (N := some 71) (v := ?_) (a' := ?_) #[true, true, true, true, true, true, true, true, true, false, true, true, false, true, true, false, false, false] rfl rfl (take_ofW HT_.out HW_.out (by kernel_rfl)) (fun _ _ _ h => h) (Or.inl ⟨by rfl, ?_⟩) hHeld ?_ ?_
       rotate_left
       ·
        rintro w' ⟨s0, s1, s2, s3, s4⟩
        go_simp
        with_reducible rfl
       rotate_left
       ·
        simp only [Act.put, List.setIfInBounds_toArray, List.set_cons_zero, List.set_cons_succ, i64_w, i32_w]
        rfl
       refine take_ (i := 9) (N := some 74) (v := ?_) (a' := ?_) #[true, true, true, true, true, true, true, true, true, true, true, true, false, true, true, false, false, false] rfl rfl (take_ofW HT_.out HW_.out (by kernel_rfl)) (fun _ _ _ h => h) (Or.inl ⟨by rfl, ?_⟩) hHeld ?_ ?_
       rotate_left
       ·
        rintro w' ⟨s0, s1, s2, s3, s4⟩
        go_simp
        with_reducible rfl
       rotate_left
       ·
        simp only [Act.put, List.setIfInBounds_toArray, List.set_cons_zero, List.set_cons_succ, i64_w, i32_w]
        rfl
       refine take_ (i := 12) (N := some 77) (v := ?_) (a' := ?_) #[true, true, true, true, true, true, true, true, true, true, true, true, true, true, true, false, false, false] rfl rfl (take_ofW HT_.out HW_.out (by kernel_rfl)) (fun _ _ _ h => h) (Or.inl ⟨by rfl, ?_⟩) hHeld ?_ ?_
       rotate_left
       ·
        rintro w' ⟨s0, s1, s2, s3, s4⟩
        go_simp
        with_reducible rfl
       rotate_left
       ·
        simp only [Act.put, List.setIfInBounds_toArray, List.set_cons_zero, List.set_cons_succ, i64_w, i32_w]
        rfl
       refine take_ (i := 15) (N := some 80) (v := ?_) (a' := ?_) #[true, true, true, true, true, true, true, true, true, true, true, true, true, true, true, true, false, false] rfl rfl (take_ofW HT_.out HW_.out (by kernel_rfl)) (fun _ _ _ h => h) (Or.inl ⟨by rfl, ?_⟩) hHeld ?_ ?_
       rotate_left
       ·
        rintro w' ⟨s0, s1, s2, s3, s4⟩
        go_simp
        with_reducible rfl
       rotate_left
       ·
        simp only [Act.put, List.setIfInBounds_toArray, List.set_cons_zero, List.set_cons_succ, i64_w, i32_w]
        rfl
       refine pure_ (i := 16) (N := some 81) (v := ?_) (a' := ?_) #[true, true, true, true, true, true, true, true, true, true, true, true, true, true, true, true, true, false] rfl rfl (any_of HT_.out (by kernel_rfl)) (fun _ _ _ h => h) (Or.inl ⟨by rfl, ?_⟩) ?_ ?_
       rotate_left
       ·
        intro w'
        go_simp
        with_reducible rfl
       rotate_left
       ·
        simp only [Act.put, List.setIfInBounds_toArray, List.set_cons_zero, List.set_cons_succ, i64_w, i32_w]
        rfl
       refine one_ (i := 17) (N := none) #[true, true, true, true, true, true, true, true, true, true, true, true, true, true, true, true, true, true] rfl rfl (one_of HT_.out (by kernel_rfl)) (by decide) (fun K hK => ?_)
       have hs59 : w58.cell? ⟨gb201, 0, none⟩ = some (.int .i64 0) := (blk_cell BK201.out 0).trans rfl
       have hfs59 := blk_frozen BK201.out 0
       have hs60 : w58.cell? ⟨gb201, 1, none⟩ = some (.int .i64 0) := (blk_cell BK201.out 1).trans rfl
       have hfs60 := blk_frozen BK201.out 1
       have hs61 : w58.cell? ⟨gb201, 2, none⟩ = some (.int .i64 0) := (blk_cell BK201.out 2).trans rfl
       have hfs61 := blk_frozen BK201.out 2
       have hs62 : w58.cell? ⟨gb201, 3, none⟩ = some (.int .i64 0) := (blk_cell BK201.out 3).trans rfl
       have hfs62 := blk_frozen BK201.out 3
       have hs63 : w58.cell? ⟨gb201, 4, none⟩ = some (.int .i64 0) := (blk_cell BK201.out 4).trans rfl
       have hfs63 := blk_frozen BK201.out 4
       have hs64 : w58.cell? ⟨gb201, 5, none⟩ = some (.int .i64 0) := (blk_cell BK201.out 5).trans rfl
       have hfs64 := blk_frozen BK201.out 5
       refine skip_ (w1 := ?_) (by rfl) rfl ?_ ?_
       rotate_left
       ·
        go_simp
        rfl
       have hne_ad210 : ad210.block ≠ gb201 := Kd.own_blk (Kd.R_ne HO199.out BK201.out (by decide))
       have hst : ∀ (W : World) (k : Nat) (v : Value), (fun w' => w'.cell? ⟨ad210.block, ad210.off + 4, none⟩ = some (.int .i64 (rd t197 4)) ∧ w'.cell? ad210 = some (.int .i64 (rd t197 0)) ∧ w'.cell? ⟨ad210.block, ad210.off + 1, none⟩ = some (.int .i64 (rd t197 1)) ∧ w'.cell? ⟨ad210.block, ad210.off + 2, none⟩ = some (.int .i64 (rd t197 2)) ∧ w'.cell? ⟨ad210.block, ad210.off + 3, none⟩ = some (.int .i64 (rd t197 3))) W → (fun w' => w'.cell? ⟨ad210.block, ad210.off + 4, none⟩ = some (.int .i64 (rd t197 4)) ∧ w'.cell? ad210 = some (.int .i64 (rd t197 0)) ∧ w'.cell? ⟨ad210.block, ad210.off + 1, none⟩ = some (.int .i64 (rd t197 1)) ∧ w'.cell? ⟨ad210.block, ad210.off + 2, none⟩ = some (.int .i64 (rd t197 2)) ∧ w'.cell? ⟨ad210.block, ad210.off + 3, none⟩ = some (.int .i64 (rd t197 3))) (W.setCell ⟨gb201, k, none⟩ v) := fun W k v h => ⟨(cell_far (W := W) (p := ⟨gb201, k, none⟩) (a := ⟨ad210.block, ad210.off + 4, none⟩) hne_ad210 v).trans h.1, (cell_far (W := W) (p := ⟨gb201, k, none⟩) (a := ad210) hne_ad210 v).trans h.2.1, (cell_far (W := W) (p := ⟨gb201, k, none⟩) (a := ⟨ad210.block, ad210.off + 1, none⟩) hne_ad210 v).trans h.2.2.1, (cell_far (W := W) (p := ⟨gb201, k, none⟩) (a := ⟨ad210.block, ad210.off + 2, none⟩) hne_ad210 v).trans h.2.2.2.1, (cell_far (W := W) (p := ⟨gb201, k, none⟩) (a := ⟨ad210.block, ad210.off + 3, none⟩) hne_ad210 v).trans h.2.2.2.2⟩
       refine hK.out _ _ (hst _ _ _ (hst _ _ _ (hst _ _ _ (hst _ _ _ (hst _ _ _ (hst _ _ _ (hHeld))))))) (fun hHeld => ?_)
       clear hK K
       refine done_ (done_of HT_.out (by kernel_rfl)) ?_
       try go_wp2
       go_meet
       case rel => exact ⟨_, (rd t197 4), (t200), (rd t197 0), (rd t197 1), (rd t197 2), (rd t197 3), H', ⟨by have := HJ1.out; first | omega | exact Nat.le_refl _⟩, ⟨by (with_reducible repeat (first | refine blk_drewN ?_ _ | refine blk_drew ?_ | refine blk_alloc ?_ _)); refine blk_put (cs := #[.int .i64 (rd t197 4), .int .i64 t200, .int .i64 (rd t197 0), .int .i64 (rd t197 1), .int .i64 (rd t197 2), .int .i64 0]) ?_ 5 _ rfl; (with_reducible repeat (first | refine blk_drewN ?_ _ | refine blk_drew ?_ | refine blk_alloc ?_ _)); refine blk_put (cs := #[.int .i64 (rd t197 4), .int .i64 t200, .int .i64 (rd t197 0), .int .i64 (rd t197 1), .int .i64 0, .int .i64 0]) ?_ 4 _ rfl; (with_reducible repeat (first | refine blk_drewN ?_ _ | refine blk_drew ?_ | refine blk_alloc ?_ _)); refine blk_put (cs := #[.int .i64 (rd t197 4), .int .i64 t200, .int .i64 (rd t197 0), .int .i64 0, .int .i64 0, .int .i64 0]) ?_ 3 _ rfl; (with_reducible repeat (first | refine blk_drewN ?_ _ | refine blk_drew ?_ | refine blk_alloc ?_ _)); refine blk_put (cs := #[.int .i64 (rd t197 4), .int .i64 t200, .int .i64 0, .int .i64 0, .int .i64 0, .int .i64 0]) ?_ 2 _ rfl; (with_reducible repeat (first | refine blk_drewN ?_ _ | refine blk_drew ?_ | refine blk_alloc ?_ _)); refine blk_put (cs := #[.int .i64 (rd t197 4), .int .i64 0, .int .i64 0, .int .i64 0, .int .i64 0, .int .i64 0]) ?_ 1 _ rfl; (with_reducible repeat (first | refine blk_drewN ?_ _ | refine blk_drew ?_ | refine blk_alloc ?_ _)); refine blk_put (cs := #[.int .i64 0, .int .i64 0, .int .i64 0, .int .i64 0, .int .i64 0, .int .i64 0]) ?_ 0 _ rfl; (with_reducible repeat (first | refine blk_drewN ?_ _ | refine blk_drew ?_ | refine blk_alloc ?_ _)); exact BK201.out⟩, ⟨by repeat (first | (with_reducible first | exact HB.out | apply below_alloc | apply pw_below_drewN | apply below_drew1 | refine below_set ?_ GE201.out) | exact HB.out)⟩⟩
     case rest =>
      clear HC10
      try clear c1
      try clear c2
      try clear p2
      try clear q2
      try clear hx2
      try clear qi2
      try clear c5
      try clear c6
      try clear p6
      try clear c15
      try clear c15b0
      try clear p20
      try clear q20
      try clear hx20
      try clear qi20
      try clear p21
      try clear q21
      try clear hx21
      try clear qi21
      try clear c25
      try clear c25b0
      try clear c53
      try clear c53b0
      try clear c53b1
      try clear c54
      try clear c54b0
      try clear c54b1
      try clear c55
      try clear c55b0
      try clear c55b1
      try clear c56
      try clear c56b0
      try clear c56b1
      try clear c57
      try clear c57b0
      try clear c57b1
      try clear p64
      try clear hcz44_0
      try clear hcz44_1
      try clear hcz44_2
      try clear hcz44_3
      try clear hcz44_4
      try clear hcz44_5
      try clear hfz44_0
      try clear hfz44_1
      try clear hfz44_2
      try clear hfz44_3
      try clear hfz44_4
      try clear hfz44_5
      try clear hx204_0
      try clear hx205_0
      try clear hx206_0
      try clear hx207_0
      try clear hx208_0
      try clear hx210_0
      try clear hx211_0
      try clear hx212_0
      try clear hx213_0
      try clear hx214_0
      try clear p204
      try clear p205
      try clear p206
      try clear p207
      try clear p208
      try clear p210
      try clear p211
      try clear p212
      try clear p213
      try clear p214
      try clear q204
      try clear q205
      try clear q206
      try clear q207
      try clear q208
      try clear q210
      try clear q211
      try clear q212
      try clear q213
      try clear q214
      obtain ⟨kq, x202000_9, x202001_9, x202002_9, x202003_9, x202004_9, x202005_9, HA, HJ9, BK201, HB⟩ := hcut
      cases kq with
      | zero => exact absurd HA.out (by simp [impl_ReadHttpDate.j1])
      | succ kj9 =>
       have H := HA.out
       clear HA
       simp only [impl_ReadHttpDate.j1] at H
       replace H := Option.bind_eq_some_iff.mp H
       obtain ⟨⟨t215, t216⟩, A650, H⟩ := H
       replace H : (if t216 = true then ((impl_HttpDate.f t215).bind fun t217 => (if t217.toList = a0.toList then (some (t215, true)) else ((impl_LongDate.f kj9 t215).bind fun t218 => (if t218.toList = a0.toList then (some (t215, true)) else ((impl_LineDate.f kj9 t215).bind fun t219 => (if t219.toList = a0.toList then (some (t215, true)) else (some (0, false)))))))) else (some (0, false))) = some (r1, r2) := H
       have A65 := Aside0.mk A650
       clear A650
       by_cases c66 : t216 = true
       ·
        subst c66
        have H1 : ((impl_HttpDate.f t215).bind fun t217 => (if t217.toList = a0.toList then (some (t215, true)) else ((impl_LongDate.f kj9 t215).bind fun t218 => (if t218.toList = a0.toList then (some (t215, true)) else ((impl_LineDate.f kj9 t215).bind fun t219 => (if t219.toList = a0.toList then (some (t215, true)) else (some (0, false)))))))) = some (r1, r2) := by rw [if_pos rfl] at H; exact H
        clear H
        have H := H1
        clear H1
        replace H := Option.bind_eq_some_iff.mp H
        obtain ⟨t217, A670, H⟩ := H
        replace H : (if t217.toList = a0.toList then (some (t215, true)) else ((impl_LongDate.f kj9 t215).bind fun t218 => (if t218.toList = a0.toList then (some (t215, true)) else ((impl_LineDate.f kj9 t215).bind fun t219 => (if t219.toList = a0.toList then (some (t215, true)) else (some (0, false))))))) = some (r1, r2) := H
        have A67 := Aside0.mk A670
        clear A670
        by_cases c68 : t217.toList = a0.toList
        ·
         rw [if_pos c68] at H
         have c68b0 : (t217.toList == a0.toList) = true := beq_iff_eq.mpr c68
         have c68b1 : (t217.toList != a0.toList) = false := bne_eq_false_iff_eq.mpr c68
         clear c68
         simp only [Option.some.injEq, Prod.mk.injEq] at H
         obtain ⟨rfl, rfl⟩ := H
         have hcz69_0 : wc.cell? ⟨gb201, 0, none⟩ = some (.int .i64 x202000_9) := (blk_cell BK201.out 0).trans rfl
         have hcz69_1 : wc.cell? ⟨gb201, 1, none⟩ = some (.int .i64 x202001_9) := (blk_cell BK201.out 1).trans rfl
         have hcz69_2 : wc.cell? ⟨gb201, 2, none⟩ = some (.int .i64 x202002_9) := (blk_cell BK201.out 2).trans rfl
         have hcz69_3 : wc.cell? ⟨gb201, 3, none⟩ = some (.int .i64 x202003_9) := (blk_cell BK201.out 3).trans rfl
         have hcz69_4 : wc.cell? ⟨gb201, 4, none⟩ = some (.int .i64 x202004_9) := (blk_cell BK201.out 4).trans rfl
         have hcz69_5 : wc.cell? ⟨gb201, 5, none⟩ = some (.int .i64 x202005_9) := (blk_cell BK201.out 5).trans rfl
         have hfz69_0 := blk_frozen BK201.out 0
         have hfz69_1 := blk_frozen BK201.out 1
         have hfz69_2 := blk_frozen BK201.out 2
         have hfz69_3 := blk_frozen BK201.out 3
         have hfz69_4 := blk_frozen BK201.out 4
         have hfz69_5 := blk_frozen BK201.out 5
         go_wp2_with (first | ((with_reducible refine gate_callee (f := 24) rfl ?_); refine goesL_ (some 84) rfl rfl Tryd.func24 (by kernel_rfl) rfl #[.agg #[.int .i64 x202000_9, .int .i64 x202001_9, .int .i64 x202002_9, .int .i64 x202003_9, .int .i64 x202004_9, .int .i64 x202005_9]] rfl (by (try simp only [List.map_toArray, List.map_cons, List.map_nil]); first | done | rfl | (simp only [List.length_drop, List.length_take]; rfl)) ?_; (with_reducible refine (impl_SecondsOf.calls x202000_9 x202001_9 x202002_9 x202003_9 x202004_9 x202005_9 t215 true _ A65.out).mono ?_); rintro e w70 ⟨rfl, hb⟩; refine ⟨_, rfl, ?_⟩; have n0_ := Aside0.mk (blk_below (g := gb201) (o := .cells #[.int .i64 x202000_9, .int .i64 x202001_9, .int .i64 x202002_9, .int .i64 x202003_9, .int .i64 x202004_9, .int .i64 x202005_9] 30 (0, 0)) (by (with_reducible repeat (first | refine blk_drewN ?_ _ | refine blk_drew ?_ | refine blk_alloc ?_ _)); exact BK201.out) hb); have n1_ := Aside0.mk (below_step (by repeat (first | (with_reducible first | exact HB.out | apply below_alloc | apply pw_below_drewN | apply below_drew1 | refine below_set ?_ GE201.out) | exact HB.out)) hb); clear BK201; clear HB; have BK201 := n0_; have HB := n1_; clear n0_ n1_; (try clear hb); (try clear hb2); (try clear hk); (try clear hi)) | (go_at_call 27; (with_reducible refine (impl_HttpDate.calls t215 t217 _ A67.out).mono ?_); rintro e w71 ⟨rfl, hb⟩; have n0_ := Aside0.mk (blk_below (g := gb201) (o := .cells #[.int .i64 x202000_9, .int .i64 x202001_9, .int .i64 x202002_9, .int .i64 x202003_9, .int .i64 x202004_9, .int .i64 x202005_9] 30 (0, 0)) (by (with_reducible repeat (first | refine blk_drewN ?_ _ | refine blk_drew ?_ | refine blk_alloc ?_ _)); exact BK201.out) hb); have n1_ := Aside0.mk (below_step (by repeat (first | (with_reducible first | exact HB.out | apply below_alloc | apply pw_below_drewN | apply below_drew1 | refine below_set ?_ GE201.out) | exact HB.out)) hb); clear BK201; clear HB; have BK201 := n0_; have HB := n1_; clear n0_ n1_; (try clear hb); (try clear hb2); (try clear hk); (try clear hi)))
         go_ret2
         exact ⟨by first | rfl | (simp [errW_none, errW_some] <;> rfl) | (simp [*, errW_none, errW_some] <;> rfl), by repeat (first | (with_reducible first | exact HB.out | apply below_alloc | apply pw_below_drewN | apply below_drew1 | refine below_set ?_ GE201.out) | exact HB.out)⟩
        ·
         rw [if_neg c68] at H
         have c68b0 : (t217.toList == a0.toList) = false := beq_eq_false_iff_ne.mpr c68
         have c68b1 : (t217.toList != a0.toList) = true := bne_iff_ne.mpr c68
         replace H := Option.bind_eq_some_iff.mp H
         obtain ⟨t218, A720, H⟩ := H
         replace H : (if t218.toList = a0.toList then (some (t215, true)) else ((impl_LineDate.f kj9 t215).bind fun t219 => (if t219.toList = a0.toList then (some (t215, true)) else (some (0, false))))) = some (r1, r2) := H
         have A72 := Aside0.mk A720
         clear A720
         by_cases c73 : t218.toList = a0.toList
         ·
          rw [if_pos c73] at H
          have c73b0 : (t218.toList == a0.toList) = true := beq_iff_eq.mpr c73
          have c73b1 : (t218.toList != a0.toList) = false := bne_eq_false_iff_eq.mpr c73
          clear c73
          simp only [Option.some.injEq, Prod.mk.injEq] at H
          obtain ⟨rfl, rfl⟩ := H
          have hcz74_0 : wc.cell? ⟨gb201, 0, none⟩ = some (.int .i64 x202000_9) := (blk_cell BK201.out 0).trans rfl
          have hcz74_1 : wc.cell? ⟨gb201, 1, none⟩ = some (.int .i64 x202001_9) := (blk_cell BK201.out 1).trans rfl
          have hcz74_2 : wc.cell? ⟨gb201, 2, none⟩ = some (.int .i64 x202002_9) := (blk_cell BK201.out 2).trans rfl
          have hcz74_3 : wc.cell? ⟨gb201, 3, none⟩ = some (.int .i64 x202003_9) := (blk_cell BK201.out 3).trans rfl
          have hcz74_4 : wc.cell? ⟨gb201, 4, none⟩ = some (.int .i64 x202004_9) := (blk_cell BK201.out 4).trans rfl
          have hcz74_5 : wc.cell? ⟨gb201, 5, none⟩ = some (.int .i64 x202005_9) := (blk_cell BK201.out 5).trans rfl
          have hfz74_0 := blk_frozen BK201.out 0
          have hfz74_1 := blk_frozen BK201.out 1
          have hfz74_2 := blk_frozen BK201.out 2
          have hfz74_3 := blk_frozen BK201.out 3
          have hfz74_4 := blk_frozen BK201.out 4
          have hfz74_5 := blk_frozen BK201.out 5
          go_wp2_with (first | ((with_reducible refine gate_callee (f := 24) rfl ?_); refine goesL_ (some 84) rfl rfl Tryd.func24 (by kernel_rfl) rfl #[.agg #[.int .i64 x202000_9, .int .i64 x202001_9, .int .i64 x202002_9, .int .i64 x202003_9, .int .i64 x202004_9, .int .i64 x202005_9]] rfl (by (try simp only [List.map_toArray, List.map_cons, List.map_nil]); first | done | rfl | (simp only [List.length_drop, List.length_take]; rfl)) ?_; (with_reducible refine (impl_SecondsOf.calls x202000_9 x202001_9 x202002_9 x202003_9 x202004_9 x202005_9 t215 true _ A65.out).mono ?_); rintro e w75 ⟨rfl, hb⟩; refine ⟨_, rfl, ?_⟩; have n0_ := Aside0.mk (blk_below (g := gb201) (o := .cells #[.int .i64 x202000_9, .int .i64 x202001_9, .int .i64 x202002_9, .int .i64 x202003_9, .int .i64 x202004_9, .int .i64 x202005_9] 30 (0, 0)) (by (with_reducible repeat (first | refine blk_drewN ?_ _ | refine blk_drew ?_ | refine blk_alloc ?_ _)); exact BK201.out) hb); have n1_ := Aside0.mk (below_step (by repeat (first | (with_reducible first | exact HB.out | apply below_alloc | apply pw_below_drewN | apply below_drew1 | refine below_set ?_ GE201.out) | exact HB.out)) hb); clear BK201; clear HB; have BK201 := n0_; have HB := n1_; clear n0_ n1_; (try clear hb); (try clear hb2); (try clear hk); (try clear hi)) | (go_at_call 27; (with_reducible refine (impl_HttpDate.calls t215 t217 _ A67.out).mono ?_); rintro e w76 ⟨rfl, hb⟩; have n0_ := Aside0.mk (blk_below (g := gb201) (o := .cells #[.int .i64 x202000_9, .int .i64 x202001_9, .int .i64 x202002_9, .int .i64 x202003_9, .int .i64 x202004_9, .int .i64 x202005_9] 30 (0, 0)) (by (with_reducible repeat (first | refine blk_drewN ?_ _ | refine blk_drew ?_ | refine blk_alloc ?_ _)); exact BK201.out) hb); have n1_ := Aside0.mk (below_step (by repeat (first | (with_reducible first | exact HB.out | apply below_alloc | apply pw_below_drewN | apply below_drew1 | refine below_set ?_ GE201.out) | exact HB.out)) hb); clear BK201; clear HB; have BK201 := n0_; have HB := n1_; clear n0_ n1_; (try clear hb); (try clear hb2); (try clear hk); (try clear hi)) | (go_at_call 29; (with_reducible refine (impl_LongDate.calls kj9 t215 t218 _ A72.out).mono ?_); rintro e w77 ⟨rfl, hb⟩; have n0_ := Aside0.mk (blk_below (g := gb201) (o := .cells #[.int .i64 x202000_9, .int .i64 x202001_9, .int .i64 x202002_9, .int .i64 x202003_9, .int .i64 x202004_9, .int .i64 x202005_9] 30 (0, 0)) (by (with_reducible repeat (first | refine blk_drewN ?_ _ | refine blk_drew ?_ | refine blk_alloc ?_ _)); exact BK201.out) hb); have n1_ := Aside0.mk (below_step (by repeat (first | (with_reducible first | exact HB.out | apply below_alloc | apply pw_below_drewN | apply below_drew1 | refine below_set ?_ GE201.out) | exact HB.out)) hb); clear BK201; clear HB; have BK201 := n0_; have HB := n1_; clear n0_ n1_; (try clear hb); (try clear hb2); (try clear hk); (try clear hi)))
          go_ret2
          exact ⟨by first | rfl | (simp [errW_none, errW_some] <;> rfl) | (simp [*, errW_none, errW_some] <;> rfl), by repeat (first | (with_reducible first | exact HB.out | apply below_alloc | apply pw_below_drewN | apply below_drew1 | refine below_set ?_ GE201.out) | exact HB.out)⟩
         ·
          rw [if_neg c73] at H
          have c73b0 : (t218.toList == a0.toList) = false := beq_eq_false_iff_ne.mpr c73
          have c73b1 : (t218.toList != a0.toList) = true := bne_iff_ne.mpr c73
          replace H := Option.bind_eq_some_iff.mp H
          obtain ⟨t219, A780, H⟩ := H
          replace H : (if t219.toList = a0.toList then (some (t215, true)) else (some (0, false))) = some (r1, r2) := H
          have A78 := Aside0.mk A780
          clear A780
          by_cases c79 : t219.toList = a0.toList
          ·
           rw [if_pos c79] at H
           have c79b0 : (t219.toList == a0.toList) = true := beq_iff_eq.mpr c79
           have c79b1 : (t219.toList != a0.toList) = false := bne_eq_false_iff_eq.mpr c79
           clear c79
           simp only [Option.some.injEq, Prod.mk.injEq] at H
           obtain ⟨rfl, rfl⟩ := H
           have hcz80_0 : wc.cell? ⟨gb201, 0, none⟩ = some (.int .i64 x202000_9) := (blk_cell BK201.out 0).trans rfl
           have hcz80_1 : wc.cell? ⟨gb201, 1, none⟩ = some (.int .i64 x202001_9) := (blk_cell BK201.out 1).trans rfl
           have hcz80_2 : wc.cell? ⟨gb201, 2, none⟩ = some (.int .i64 x202002_9) := (blk_cell BK201.out 2).trans rfl
           have hcz80_3 : wc.cell? ⟨gb201, 3, none⟩ = some (.int .i64 x202003_9) := (blk_cell BK201.out 3).trans rfl
           have hcz80_4 : wc.cell? ⟨gb201, 4, none⟩ = some (.int .i64 x202004_9) := (blk_cell BK201.out 4).trans rfl
           have hcz80_5 : wc.cell? ⟨gb201, 5, none⟩ = some (.int .i64 x202005_9) := (blk_cell BK201.out 5).trans rfl
           have hfz80_0 := blk_frozen BK201.out 0
           have hfz80_1 := blk_frozen BK201.out 1
           have hfz80_2 := blk_frozen BK201.out 2
           have hfz80_3 := blk_frozen BK201.out 3
           have hfz80_4 := blk_frozen BK201.out 4
           have hfz80_5 := blk_frozen BK201.out 5
           go_wp2_with (first | ((with_reducible refine gate_callee (f := 24) rfl ?_); refine goesL_ (some 84) rfl rfl Tryd.func24 (by kernel_rfl) rfl #[.agg #[.int .i64 x202000_9, .int .i64 x202001_9, .int .i64 x202002_9, .int .i64 x202003_9, .int .i64 x202004_9, .int .i64 x202005_9]] rfl (by (try simp only [List.map_toArray, List.map_cons, List.map_nil]); first | done | rfl | (simp only [List.length_drop, List.length_take]; rfl)) ?_; (with_reducible refine (impl_SecondsOf.calls x202000_9 x202001_9 x202002_9 x202003_9 x202004_9 x202005_9 t215 true _ A65.out).mono ?_); rintro e w81 ⟨rfl, hb⟩; refine ⟨_, rfl, ?_⟩; have n0_ := Aside0.mk (blk_below (g := gb201) (o := .cells #[.int .i64 x202000_9, .int .i64 x202001_9, .int .i64 x202002_9, .int .i64 x202003_9, .int .i64 x202004_9, .int .i64 x202005_9] 30 (0, 0)) (by (with_reducible repeat (first | refine blk_drewN ?_ _ | refine blk_drew ?_ | refine blk_alloc ?_ _)); exact BK201.out) hb); have n1_ := Aside0.mk (below_step (by repeat (first | (with_reducible first | exact HB.out | apply below_alloc | apply pw_below_drewN | apply below_drew1 | refine below_set ?_ GE201.out) | exact HB.out)) hb); clear BK201; clear HB; have BK201 := n0_; have HB := n1_; clear n0_ n1_; (try clear hb); (try clear hb2); (try clear hk); (try clear hi)) | (go_at_call 27; (with_reducible refine (impl_HttpDate.calls t215 t217 _ A67.out).mono ?_); rintro e w82 ⟨rfl, hb⟩; have n0_ := Aside0.mk (blk_below (g := gb201) (o := .cells #[.int .i64 x202000_9, .int .i64 x202001_9, .int .i64 x202002_9, .int .i64 x202003_9, .int .i64 x202004_9, .int .i64 x202005_9] 30 (0, 0)) (by (with_reducible repeat (first | refine blk_drewN ?_ _ | refine blk_drew ?_ | refine blk_alloc ?_ _)); exact BK201.out) hb); have n1_ := Aside0.mk (below_step (by repeat (first | (with_reducible first | exact HB.out | apply below_alloc | apply pw_below_drewN | apply below_drew1 | refine below_set ?_ GE201.out) | exact HB.out)) hb); clear BK201; clear HB; have BK201 := n0_; have HB := n1_; clear n0_ n1_; (try clear hb); (try clear hb2); (try clear hk); (try clear hi)) | (go_at_call 29; (with_reducible refine (impl_LongDate.calls kj9 t215 t218 _ A72.out).mono ?_); rintro e w83 ⟨rfl, hb⟩; have n0_ := Aside0.mk (blk_below (g := gb201) (o := .cells #[.int .i64 x202000_9, .int .i64 x202001_9, .int .i64 x202002_9, .int .i64 x202003_9, .int .i64 x202004_9, .int .i64 x202005_9] 30 (0, 0)) (by (with_reducible repeat (first | refine blk_drewN ?_ _ | refine blk_drew ?_ | refine blk_alloc ?_ _)); exact BK201.out) hb); have n1_ := Aside0.mk (below_step (by repeat (first | (with_reducible first | exact HB.out | apply below_alloc | apply pw_below_drewN | apply below_drew1 | refine below_set ?_ GE201.out) | exact HB.out)) hb); clear BK201; clear HB; have BK201 := n0_; have HB := n1_; clear n0_ n1_; (try clear hb); (try clear hb2); (try clear hk); (try clear hi)) | (go_at_call 31; (with_reducible refine (impl_LineDate.calls kj9 t215 t219 _ A78.out).mono ?_); rintro e w84 ⟨rfl, hb⟩; have n0_ := Aside0.mk (blk_below (g := gb201) (o := .cells #[.int .i64 x202000_9, .int .i64 x202001_9, .int .i64 x202002_9, .int .i64 x202003_9, .int .i64 x202004_9, .int .i64 x202005_9] 30 (0, 0)) (by (with_reducible repeat (first | refine blk_drewN ?_ _ | refine blk_drew ?_ | refine blk_alloc ?_ _)); exact BK201.out) hb); have n1_ := Aside0.mk (below_step (by repeat (first | (with_reducible first | exact HB.out | apply below_alloc | apply pw_below_drewN | apply below_drew1 | refine below_set ?_ GE201.out) | exact HB.out)) hb); clear BK201; clear HB; have BK201 := n0_; have HB := n1_; clear n0_ n1_; (try clear hb); (try clear hb2); (try clear hk); (try clear hi)))
           go_ret2
           exact ⟨by first | rfl | (simp [errW_none, errW_some] <;> rfl) | (simp [*, errW_none, errW_some] <;> rfl), by repeat (first | (with_reducible first | exact HB.out | apply below_alloc | apply pw_below_drewN | apply below_drew1 | refine below_set ?_ GE201.out) | exact HB.out)⟩
          ·
           rw [if_neg c79] at H
           have c79b0 : (t219.toList == a0.toList) = false := beq_eq_false_iff_ne.mpr c79
           have c79b1 : (t219.toList != a0.toList) = true := bne_iff_ne.mpr c79
           simp only [Option.some.injEq, Prod.mk.injEq] at H
           obtain ⟨rfl, rfl⟩ := H
           have hcz85_0 : wc.cell? ⟨gb201, 0, none⟩ = some (.int .i64 x202000_9) := (blk_cell BK201.out 0).trans rfl
           have hcz85_1 : wc.cell? ⟨gb201, 1, none⟩ = some (.int .i64 x202001_9) := (blk_cell BK201.out 1).trans rfl
           have hcz85_2 : wc.cell? ⟨gb201, 2, none⟩ = some (.int .i64 x202002_9) := (blk_cell BK201.out 2).trans rfl
           have hcz85_3 : wc.cell? ⟨gb201, 3, none⟩ = some (.int .i64 x202003_9) := (blk_cell BK201.out 3).trans rfl
           have hcz85_4 : wc.cell? ⟨gb201, 4, none⟩ = some (.int .i64 x202004_9) := (blk_cell BK201.out 4).trans rfl
           have hcz85_5 : wc.cell? ⟨gb201, 5, none⟩ = some (.int .i64 x202005_9) := (blk_cell BK201.out 5).trans rfl
           have hfz85_0 := blk_frozen BK201.out 0
           have hfz85_1 := blk_frozen BK201.out 1
           have hfz85_2 := blk_frozen BK201.out 2
           have hfz85_3 := blk_frozen BK201.out 3
           have hfz85_4 := blk_frozen BK201.out 4
           have hfz85_5 := blk_frozen BK201.out 5
           go_wp2_with (first | ((with_reducible refine gate_callee (f := 24) rfl ?_); refine goesL_ (some 84) rfl rfl Tryd.func24 (by kernel_rfl) rfl #[.agg #[.int .i64 x202000_9, .int .i64 x202001_9, .int .i64 x202002_9, .int .i64 x202003_9, .int .i64 x202004_9, .int .i64 x202005_9]] rfl (by (try simp only [List.map_toArray, List.map_cons, List.map_nil]); first | done | rfl | (simp only [List.length_drop, List.length_take]; rfl)) ?_; (with_reducible refine (impl_SecondsOf.calls x202000_9 x202001_9 x202002_9 x202003_9 x202004_9 x202005_9 t215 true _ A65.out).mono ?_); rintro e w86 ⟨rfl, hb⟩; refine ⟨_, rfl, ?_⟩; have n0_ := Aside0.mk (blk_below (g := gb201) (o := .cells #[.int .i64 x202000_9, .int .i64 x202001_9, .int .i64 x202002_9, .int .i64 x202003_9, .int .i64 x202004_9, .int .i64 x202005_9] 30 (0, 0)) (by (with_reducible repeat (first | refine blk_drewN ?_ _ | refine blk_drew ?_ | refine blk_alloc ?_ _)); exact BK201.out) hb); have n1_ := Aside0.mk (below_step (by repeat (first | (with_reducible first | exact HB.out | apply below_alloc | apply pw_below_drewN | apply below_drew1 | refine below_set ?_ GE201.out) | exact HB.out)) hb); clear BK201; clear HB; have BK201 := n0_; have HB := n1_; clear n0_ n1_; (try clear hb); (try clear hb2); (try clear hk); (try clear hi)) | (go_at_call 27; (with_reducible refine (impl_HttpDate.calls t215 t217 _ A67.out).mono ?_); rintro e w87 ⟨rfl, hb⟩; have n0_ := Aside0.mk (blk_below (g := gb201) (o := .cells #[.int .i64 x202000_9, .int .i64 x202001_9, .int .i64 x202002_9, .int .i64 x202003_9, .int .i64 x202004_9, .int .i64 x202005_9] 30 (0, 0)) (by (with_reducible repeat (first | refine blk_drewN ?_ _ | refine blk_drew ?_ | refine blk_alloc ?_ _)); exact BK201.out) hb); have n1_ := Aside0.mk (below_step (by repeat (first | (with_reducible first | exact HB.out | apply below_alloc | apply pw_below_drewN | apply below_drew1 | refine below_set ?_ GE201.out) | exact HB.out)) hb); clear BK201; clear HB; have BK201 := n0_; have HB := n1_; clear n0_ n1_; (try clear hb); (try clear hb2); (try clear hk); (try clear hi)) | (go_at_call 29; (with_reducible refine (impl_LongDate.calls kj9 t215 t218 _ A72.out).mono ?_); rintro e w88 ⟨rfl, hb⟩; have n0_ := Aside0.mk (blk_below (g := gb201) (o := .cells #[.int .i64 x202000_9, .int .i64 x202001_9, .int .i64 x202002_9, .int .i64 x202003_9, .int .i64 x202004_9, .int .i64 x202005_9] 30 (0, 0)) (by (with_reducible repeat (first | refine blk_drewN ?_ _ | refine blk_drew ?_ | refine blk_alloc ?_ _)); exact BK201.out) hb); have n1_ := Aside0.mk (below_step (by repeat (first | (with_reducible first | exact HB.out | apply below_alloc | apply pw_below_drewN | apply below_drew1 | refine below_set ?_ GE201.out) | exact HB.out)) hb); clear BK201; clear HB; have BK201 := n0_; have HB := n1_; clear n0_ n1_; (try clear hb); (try clear hb2); (try clear hk); (try clear hi)) | (go_at_call 31; (with_reducible refine (impl_LineDate.calls kj9 t215 t219 _ A78.out).mono ?_); rintro e w89 ⟨rfl, hb⟩; have n0_ := Aside0.mk (blk_below (g := gb201) (o := .cells #[.int .i64 x202000_9, .int .i64 x202001_9, .int .i64 x202002_9, .int .i64 x202003_9, .int .i64 x202004_9, .int .i64 x202005_9] 30 (0, 0)) (by (with_reducible repeat (first | refine blk_drewN ?_ _ | refine blk_drew ?_ | refine blk_alloc ?_ _)); exact BK201.out) hb); have n1_ := Aside0.mk (below_step (by repeat (first | (with_reducible first | exact HB.out | apply below_alloc | apply pw_below_drewN | apply below_drew1 | refine below_set ?_ GE201.out) | exact HB.out)) hb); clear BK201; clear HB; have BK201 := n0_; have HB := n1_; clear n0_ n1_; (try clear hb); (try clear hb2); (try clear hk); (try clear hi)))
           go_ret2
           exact ⟨by first | rfl | (simp [errW_none, errW_some] <;> rfl) | (simp [*, errW_none, errW_some] <;> rfl), by repeat (first | (with_reducible first | exact HB.out | apply below_alloc | apply pw_below_drewN | apply below_drew1 | refine below_set ?_ GE201.out) | exact HB.out)⟩
       ·
        replace c66 := Bool.eq_false_iff.mpr c66
        subst c66
        have H1 : (some (0, false)) = some (r1, r2) := by rw [if_neg (show ¬ (false = true) by decide)] at H; exact H
        clear H
        have H := H1
        clear H1
        simp only [Option.some.injEq, Prod.mk.injEq] at H
        obtain ⟨rfl, rfl⟩ := H
        have hcz90_0 : wc.cell? ⟨gb201, 0, none⟩ = some (.int .i64 x202000_9) := (blk_cell BK201.out 0).trans rfl
        have hcz90_1 : wc.cell? ⟨gb201, 1, none⟩ = some (.int .i64 x202001_9) := (blk_cell BK201.out 1).trans rfl
        have hcz90_2 : wc.cell? ⟨gb201, 2, none⟩ = some (.int .i64 x202002_9) := (blk_cell BK201.out 2).trans rfl
        have hcz90_3 : wc.cell? ⟨gb201, 3, none⟩ = some (.int .i64 x202003_9) := (blk_cell BK201.out 3).trans rfl
        have hcz90_4 : wc.cell? ⟨gb201, 4, none⟩ = some (.int .i64 x202004_9) := (blk_cell BK201.out 4).trans rfl
        have hcz90_5 : wc.cell? ⟨gb201, 5, none⟩ = some (.int .i64 x202005_9) := (blk_cell BK201.out 5).trans rfl
        have hfz90_0 := blk_frozen BK201.out 0
        have hfz90_1 := blk_frozen BK201.out 1
        have hfz90_2 := blk_frozen BK201.out 2
        have hfz90_3 := blk_frozen BK201.out 3
        have hfz90_4 := blk_frozen BK201.out 4
        have hfz90_5 := blk_frozen BK201.out 5
        go_wp2_with (first | ((with_reducible refine gate_callee (f := 24) rfl ?_); refine goesL_ (some 84) rfl rfl Tryd.func24 (by kernel_rfl) rfl #[.agg #[.int .i64 x202000_9, .int .i64 x202001_9, .int .i64 x202002_9, .int .i64 x202003_9, .int .i64 x202004_9, .int .i64 x202005_9]] rfl (by (try simp only [List.map_toArray, List.map_cons, List.map_nil]); first | done | rfl | (simp only [List.length_drop, List.length_take]; rfl)) ?_; (with_reducible refine (impl_SecondsOf.calls x202000_9 x202001_9 x202002_9 x202003_9 x202004_9 x202005_9 t215 false _ A65.out).mono ?_); rintro e w91 ⟨rfl, hb⟩; refine ⟨_, rfl, ?_⟩; have n0_ := Aside0.mk (blk_below (g := gb201) (o := .cells #[.int .i64 x202000_9, .int .i64 x202001_9, .int .i64 x202002_9, .int .i64 x202003_9, .int .i64 x202004_9, .int .i64 x202005_9] 30 (0, 0)) (by (with_reducible repeat (first | refine blk_drewN ?_ _ | refine blk_drew ?_ | refine blk_alloc ?_ _)); exact BK201.out) hb); have n1_ := Aside0.mk (below_step (by repeat (first | (with_reducible first | exact HB.out | apply below_alloc | apply pw_below_drewN | apply below_drew1 | refine below_set ?_ GE201.out) | exact HB.out)) hb); clear BK201; clear HB; have BK201 := n0_; have HB := n1_; clear n0_ n1_; (try clear hb); (try clear hb2); (try clear hk); (try clear hi)))
        go_ret2
        exact ⟨by first | rfl | (simp [errW_none, errW_some] <;> rfl) | (simp [*, errW_none, errW_some] <;> rfl), by repeat (first | (with_reducible first | exact HB.out | apply below_alloc | apply pw_below_drewN | apply below_drew1 | refine below_set ?_ GE201.out) | exact HB.out)⟩
    ·
     rw [if_neg c6] at H
     have c6b0 : ((t197.length : Int) == 5) = false := beq_eq_false_iff_ne.mpr c6
     have c6b1 : ((t197.length : Int) != 5) = true := bne_iff_ne.mpr c6
     simp only [Option.some.injEq, Prod.mk.injEq] at H
     obtain ⟨rfl, rfl⟩ := H
     go_wp2_with (first | ((with_reducible refine gate_callee (f := 65) rfl ?_); refine goesL_ (some 19) rfl rfl Tryd.func65 (by kernel_rfl) rfl #[.string a0] rfl (by (try simp only [List.map_toArray, List.map_cons, List.map_nil]); first | done | rfl | (simp only [List.length_drop, List.length_take]; rfl)) ?_; (with_reducible refine (impl_numbersIn.calls kj1 a0 t197 _ A5.out).mono ?_); rintro e w92 ⟨v198, rfl, ho0, hb⟩; refine ⟨_, rfl, ?_⟩; have n0_ := Aside0.mk (Kd.R_lower ho0 (below_size (by repeat (first | (with_reducible first | exact HB.out | apply below_alloc | apply pw_below_drewN | apply below_drew1) | exact HB.out)))); have n1_ := Aside0.mk (below_step (by repeat (first | (with_reducible first | exact HB.out | apply below_alloc | apply pw_below_drewN | apply below_drew1) | exact HB.out)) hb); clear HB; have HO199 := n0_; have HB := n1_; clear n0_ n1_; (try clear hb); (try clear hb2); (try clear hk); (try clear hi); (try clear ho0); obtain ⟨Ao93, co93, eo93⟩ := Kd.R_slice HO199.out; subst eo93))
     go_ret2
     exact ⟨by first | rfl | (simp [errW_none, errW_some] <;> rfl) | (simp [*, errW_none, errW_some] <;> rfl), by repeat (first | (with_reducible first | exact HB.out | apply below_alloc | apply pw_below_drewN | apply below_drew1) | exact HB.out)⟩

end Go.Proofs.YtgjbhdfncappdaaDoor.PFnDates
