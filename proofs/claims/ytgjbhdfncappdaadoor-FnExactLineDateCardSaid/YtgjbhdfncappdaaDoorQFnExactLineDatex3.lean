-- Written by a program of this session.
import Derived.Test.YtgjbhdfncappdaaDoorQFnExactLineDatex0
import Derived.Test.YtgjbhdfncappdaaDoorQFnExactLineDatex2
namespace Go.Proofs.YtgjbhdfncappdaaDoor.PFnExactLineDate
open Go.Proofs.YtgjbhdfncappdaaDoor.Foreign
open Go.RowKit Go.Proofs.YtgjbhdfncappdaaDoorW.PrintWords Go.Proofs.YtgjbhdfncappdaaDoorW.PrintLast Go.Proofs.YtgjbhdfncappdaaDoorW.PrintMore
attribute [local go_sem] max2_int min2_int max_two min_two max_three min_three max_four min_four   -- for this text's walks alone
set_option linter.unusedVariables false
set_option linter.unusedSimpArgs false

/-! ### impl_LineDate: function 31 -/
def impl_LineDate.j0 : Nat → Int → ByteArray → Int → Int → Int → Int → Int → Int → Option (ByteArray)
 | 0, _, _, _, _, _, _, _, _ => none
 | k + 1, x0, x4, x149000, x149001, x149002, x149003, x149004, x149005 => (impl_days.f).bind fun t150 => ((impl_Weekday.f x0).bind fun t153 => (if 0 ≤ t153 then (if t153 < (t150.length : Int) then (if 0 ≤ 3 then (if 3 ≤ ((rdOf ByteArray.empty t150 t153).size : Int) then (if ((rdOf ByteArray.empty t150 t153).extract 0 3).size + 1 ≤ 9223372036854775807 then ((impl_months.f).bind fun t155 => (if 0 ≤ (wrap64 (x149001 - 1)) then (if (wrap64 (x149001 - 1)) < (t155.length : Int) then (if (((rdOf ByteArray.empty t150 t153).extract 0 3) ++ (⟨#[32]⟩ : ByteArray)).size + (rdOf ByteArray.empty t155 (wrap64 (x149001 - 1))).size ≤ 9223372036854775807 then (if ((((rdOf ByteArray.empty t150 t153).extract 0 3) ++ (⟨#[32]⟩ : ByteArray)) ++ (rdOf ByteArray.empty t155 (wrap64 (x149001 - 1)))).size + 1 ≤ 9223372036854775807 then (if (((((rdOf ByteArray.empty t150 t153).extract 0 3) ++ (⟨#[32]⟩ : ByteArray)) ++ (rdOf ByteArray.empty t155 (wrap64 (x149001 - 1)))) ++ (⟨#[32]⟩ : ByteArray)).size + x4.size ≤ 9223372036854775807 then (if ((((((rdOf ByteArray.empty t150 t153).extract 0 3) ++ (⟨#[32]⟩ : ByteArray)) ++ (rdOf ByteArray.empty t155 (wrap64 (x149001 - 1)))) ++ (⟨#[32]⟩ : ByteArray)) ++ x4).size + 1 ≤ 9223372036854775807 then ((impl_clock.f x149000 x149001 x149002 x149003 x149004 x149005).bind fun t159 => (if (((((((rdOf ByteArray.empty t150 t153).extract 0 3) ++ (⟨#[32]⟩ : ByteArray)) ++ (rdOf ByteArray.empty t155 (wrap64 (x149001 - 1)))) ++ (⟨#[32]⟩ : ByteArray)) ++ x4) ++ (⟨#[32]⟩ : ByteArray)).size + t159.size ≤ 9223372036854775807 then (if ((((((((rdOf ByteArray.empty t150 t153).extract 0 3) ++ (⟨#[32]⟩ : ByteArray)) ++ (rdOf ByteArray.empty t155 (wrap64 (x149001 - 1)))) ++ (⟨#[32]⟩ : ByteArray)) ++ x4) ++ (⟨#[32]⟩ : ByteArray)) ++ t159).size + 1 ≤ 9223372036854775807 then ((impl_digits.f x149000 4).bind fun t160 => (if (((((((((rdOf ByteArray.empty t150 t153).extract 0 3) ++ (⟨#[32]⟩ : ByteArray)) ++ (rdOf ByteArray.empty t155 (wrap64 (x149001 - 1)))) ++ (⟨#[32]⟩ : ByteArray)) ++ x4) ++ (⟨#[32]⟩ : ByteArray)) ++ t159) ++ (⟨#[32]⟩ : ByteArray)).size + t160.size ≤ 9223372036854775807 then (some ((((((((((rdOf ByteArray.empty t150 t153).extract 0 3) ++ (⟨#[32]⟩ : ByteArray)) ++ (rdOf ByteArray.empty t155 (wrap64 (x149001 - 1)))) ++ (⟨#[32]⟩ : ByteArray)) ++ x4) ++ (⟨#[32]⟩ : ByteArray)) ++ t159) ++ (⟨#[32]⟩ : ByteArray)) ++ t160)) else (none))) else (none)) else (none))) else (none)) else (none)) else (none)) else (none)) else (none)) else (none))) else (none)) else (none)) else (none)) else (none)) else (none)))
def impl_LineDate.f (k : Nat) (a0 : Int) : Option (ByteArray) := (impl_isTime.f a0).bind fun t141 => (if t141 = true then ((impl_civilOf.f a0).bind fun bt142 => ((impl_digits.f bt142.2.2.1 2).bind fun t149 => (if bt142.2.2.1 < 10 then (if 1 ≤ (t149.size : Int) then (if 1 + (t149.extract 1 t149.size).size ≤ 9223372036854775807 then (impl_LineDate.j0 k a0 ((⟨#[32]⟩ : ByteArray) ++ (t149.extract 1 t149.size)) bt142.1 bt142.2.1 bt142.2.2.1 bt142.2.2.2.1 bt142.2.2.2.2.1 bt142.2.2.2.2.2) else (none)) else (none)) else (impl_LineDate.j0 k a0 t149 bt142.1 bt142.2.1 bt142.2.2.1 bt142.2.2.2.1 bt142.2.2.2.2.1 bt142.2.2.2.2.2)))) else (some (⟨#[]⟩ : ByteArray)))
theorem impl_LineDate.mono_l : ∀ k, (∀ y0 y1 y2 y3 y4 y5 y6 y7, LeO (impl_LineDate.j0 k y0 y1 y2 y3 y4 y5 y6 y7) (impl_LineDate.j0 (k + 1) y0 y1 y2 y3 y4 y5 y6 y7))
 | 0 => fun _ _ _ _ _ _ _ _ r h => by simp [impl_LineDate.j0] at h
 | k + 1 => by
  have ih0 := impl_LineDate.mono_l k
  ·
   intro y0 y1 y2 y3 y4 y5 y6 y7
   unfold impl_LineDate.j0
   repeat' first
   | (with_reducible exact ih0 _ _ _ _ _ _ _ _)
   | (with_reducible exact LeO.refl _)
   | (with_reducible exact LeO.none _)
   | (with_reducible refine LeO.ite ?_ ?_)
   | (with_reducible refine LeO.bind ?_ (fun _ => ?_))
   | exact ih0 _ _ _ _ _ _ _ _
   | exact LeO.none _
   | refine LeO.ite ?_ ?_
   | refine LeO.bind ?_ (fun _ => ?_)
theorem impl_LineDate.mono : ∀ a0 k, LeO (impl_LineDate.f k a0) (impl_LineDate.f (k + 1) a0) := by
 intro a0 k
 have ih0 := impl_LineDate.mono_l k
 unfold impl_LineDate.f
 repeat' first
   | (with_reducible exact ih0 _ _ _ _ _ _ _ _)
   | (with_reducible exact LeO.refl _)
   | (with_reducible exact LeO.none _)
   | (with_reducible refine LeO.ite ?_ ?_)
   | (with_reducible refine LeO.bind ?_ (fun _ => ?_))
   | exact ih0 _ _ _ _ _ _ _ _
   | exact LeO.none _
   | refine LeO.ite ?_ ?_
   | refine LeO.bind ?_ (fun _ => ?_)
def impl_LineDate.T7 : Bool × List (List Nat × List Nat) := (true, [([], []), ([], []), ([1, 0], [1]), ([0, 2], [0, 2]), ([3], [3]), ([4], [4]), ([5], [5]), ([2], []), ([], []), ([8], [8]), ([9], [9]), ([7, 10], [7, 10]), ([11], [11]), ([6, 12], [6, 12]), ([13], [13]), ([], []), ([14, 15], [14, 15]), ([16], [16]), ([], []), ([18, 7], [18]), ([17, 19], [17, 19]), ([20], [20]), ([], []), ([22], [22]), ([23, 19], [23]), ([21, 24], [21, 24]), ([25, 24, 0, 1, 2, 3, 4, 5, 6, 7, 8, 9, 10, 11, 12, 13, 14, 15, 16, 17, 18, 19, 20, 21, 22, 23, 24, 25], [25])])
def impl_LineDate.B7 : List Nat := [0, 0, 3, 7, 15, 31, 63, 7, 0, 256, 768, 1927, 3975, 8191, 16383, 0, 65535, 131071, 0, 262279, 1048575, 2097151, 0, 4194304, 13369479, 33554431, 67108863]
theorem impl_LineDate.tab7 : rtab .any (opsOf Tryd.f31 7) = impl_LineDate.T7 := by kernel_rfl
theorem impl_LineDate.bits7 : waitsOk impl_LineDate.T7.2 impl_LineDate.B7 = true := by kernel_rfl
set_option maxHeartbeats 8000000 in
set_option maxRecDepth 100000 in
theorem impl_LineDate.calls (k : Nat) (a0 : Int) (r : ByteArray) (w : World) (h : impl_LineDate.f k a0 = some r) :
  Calls Tryd.prog 31 #[.int .i64 a0] w fun e w' => e = .returned (.string r) ∧ Below w.heap.size w w' := by
 have hu30 := Tryd.underlying30
 have HB := Aside0.mk (Below.refl w.heap.size w)
 have H : ((impl_isTime.f a0).bind fun t141 => (if t141 = true then ((impl_civilOf.f a0).bind fun bt142 => ((impl_digits.f bt142.2.2.1 2).bind fun t149 => (if bt142.2.2.1 < 10 then (if 1 ≤ (t149.size : Int) then (if 1 + (t149.extract 1 t149.size).size ≤ 9223372036854775807 then (impl_LineDate.j0 k a0 ((⟨#[32]⟩ : ByteArray) ++ (t149.extract 1 t149.size)) bt142.1 bt142.2.1 bt142.2.2.1 bt142.2.2.2.1 bt142.2.2.2.2.1 bt142.2.2.2.2.2) else (none)) else (none)) else (impl_LineDate.j0 k a0 t149 bt142.1 bt142.2.1 bt142.2.2.1 bt142.2.2.2.1 bt142.2.2.2.2.1 bt142.2.2.2.2.2)))) else (some (⟨#[]⟩ : ByteArray)))) = some r := h
 clear h
 replace H := Option.bind_eq_some_iff.mp H
 obtain ⟨t141, A20, H⟩ := H
 replace H : (if t141 = true then ((impl_civilOf.f a0).bind fun bt142 => ((impl_digits.f bt142.2.2.1 2).bind fun t149 => (if bt142.2.2.1 < 10 then (if 1 ≤ (t149.size : Int) then (if 1 + (t149.extract 1 t149.size).size ≤ 9223372036854775807 then (impl_LineDate.j0 k a0 ((⟨#[32]⟩ : ByteArray) ++ (t149.extract 1 t149.size)) bt142.1 bt142.2.1 bt142.2.2.1 bt142.2.2.2.1 bt142.2.2.2.2.1 bt142.2.2.2.2.2) else (none)) else (none)) else (impl_LineDate.j0 k a0 t149 bt142.1 bt142.2.1 bt142.2.2.1 bt142.2.2.2.1 bt142.2.2.2.2.1 bt142.2.2.2.2.2)))) else (some (⟨#[]⟩ : ByteArray))) = some r := H
 have A2 := Aside0.mk A20
 clear A20
 by_cases c3 : t141 = true
 ·
  subst c3
  have H1 : ((impl_civilOf.f a0).bind fun bt142 => ((impl_digits.f bt142.2.2.1 2).bind fun t149 => (if bt142.2.2.1 < 10 then (if 1 ≤ (t149.size : Int) then (if 1 + (t149.extract 1 t149.size).size ≤ 9223372036854775807 then (impl_LineDate.j0 k a0 ((⟨#[32]⟩ : ByteArray) ++ (t149.extract 1 t149.size)) bt142.1 bt142.2.1 bt142.2.2.1 bt142.2.2.2.1 bt142.2.2.2.2.1 bt142.2.2.2.2.2) else (none)) else (none)) else (impl_LineDate.j0 k a0 t149 bt142.1 bt142.2.1 bt142.2.2.1 bt142.2.2.2.1 bt142.2.2.2.2.1 bt142.2.2.2.2.2)))) = some r := by rw [if_pos rfl] at H; exact H
  clear H
  have H := H1
  clear H1
  replace H := Option.bind_eq_some_iff.mp H
  obtain ⟨⟨t142, t143, t144, t145, t146, t147⟩, A40, H⟩ := H
  replace H : ((impl_digits.f t144 2).bind fun t149 => (if t144 < 10 then (if 1 ≤ (t149.size : Int) then (if 1 + (t149.extract 1 t149.size).size ≤ 9223372036854775807 then (impl_LineDate.j0 k a0 ((⟨#[32]⟩ : ByteArray) ++ (t149.extract 1 t149.size)) t142 t143 t144 t145 t146 t147) else (none)) else (none)) else (impl_LineDate.j0 k a0 t149 t142 t143 t144 t145 t146 t147))) = some r := H
  have A4 := Aside0.mk A40
  clear A40
  replace H := Option.bind_eq_some_iff.mp H
  obtain ⟨t149, A50, H⟩ := H
  replace H : (if t144 < 10 then (if 1 ≤ (t149.size : Int) then (if 1 + (t149.extract 1 t149.size).size ≤ 9223372036854775807 then (impl_LineDate.j0 k a0 ((⟨#[32]⟩ : ByteArray) ++ (t149.extract 1 t149.size)) t142 t143 t144 t145 t146 t147) else (none)) else (none)) else (impl_LineDate.j0 k a0 t149 t142 t143 t144 t145 t146 t147)) = some r := H
  have A5 := Aside0.mk A50
  clear A50
  have HC6 := Aside0.mk H
  clear H
  go_enter Tryd.func31, Tryd.ntmps31
  go_upto_if 15 with (first | ((with_reducible refine gate_callee (f := 45) rfl ?_); refine goesL_ (some 6) rfl rfl Tryd.func45 (by kernel_rfl) rfl #[.int .i64 a0] rfl (by (try simp only [List.map_toArray, List.map_cons, List.map_nil]); first | done | rfl | (simp only [List.length_drop, List.length_take]; rfl)) ?_; (with_reducible refine (impl_isTime.calls a0 true _ A2.out).mono ?_); rintro e w' ⟨rfl, ⟨nd, rfl⟩⟩; refine ⟨_, rfl, ?_⟩) | ((with_reducible refine gate_callee (f := 46) rfl ?_); refine goesL_ (some 9) rfl rfl Tryd.func46 (by kernel_rfl) rfl #[.int .i64 a0] rfl (by (try simp only [List.map_toArray, List.map_cons, List.map_nil]); first | done | rfl | (simp only [List.length_drop, List.length_take]; rfl)) ?_; (with_reducible refine (impl_civilOf.calls a0 t142 t143 t144 t145 t146 t147 _ A4.out).mono ?_); rintro e w7 ⟨rfl, hb⟩; refine ⟨_, rfl, ?_⟩; have n0_ := Aside0.mk (below_step (by repeat (first | (with_reducible first | exact HB.out | apply below_alloc | apply pw_below_drewN | apply below_drew1) | exact HB.out)) hb); clear HB; have HB := n0_; clear n0_; (try clear hb); (try clear hb2); (try clear hk); (try clear hi)) | ((with_reducible refine gate_dst (N := 3) rfl ?_); refine box_event ?hg (N := 3) ?hd (cs := #[.int .i64 0, .int .i64 0, .int .i64 0, .int .i64 0, .int .i64 0, .int .i64 0]) (t := 30) ?hr ?_; (case hd => rfl); (case hg => rfl); (case hr => first | (go_simp; done) | (go_simp; rfl)); intro gb148 hg w8 hbox hb; have n0_ := Aside0.mk (below_step (by repeat (first | (with_reducible first | exact HB.out | apply below_alloc | apply pw_below_drewN | apply below_drew1) | exact HB.out)) hb); have n1_ := Aside0.mk (hbox); have n2_ := Aside0.mk ((by rw [hg]; exact (below_size (by repeat (first | (with_reducible first | exact HB.out | apply below_alloc | apply pw_below_drewN | apply below_drew1) | exact HB.out))) : w.heap.size ≤ gb148)); have n3_ := Aside0.mk ((by rw [hg]; exact (below_size (by repeat (first | (with_reducible first | exact HB.out | apply below_alloc | apply pw_below_drewN | apply below_drew1) | exact HB.out))) : w.heap.size ≤ gb148)); clear HB; have HB := n0_; have BK148 := n1_; have GW148 := n2_; have GE148 := n3_; clear n0_ n1_ n2_ n3_; clear hb hbox hg; have hcz9_0 : w8.cell? ⟨gb148, 0, none⟩ = some (.int .i64 0) := (blk_cell BK148.out 0).trans rfl; have hcz9_1 : w8.cell? ⟨gb148, 1, none⟩ = some (.int .i64 0) := (blk_cell BK148.out 1).trans rfl; have hcz9_2 : w8.cell? ⟨gb148, 2, none⟩ = some (.int .i64 0) := (blk_cell BK148.out 2).trans rfl; have hcz9_3 : w8.cell? ⟨gb148, 3, none⟩ = some (.int .i64 0) := (blk_cell BK148.out 3).trans rfl; have hcz9_4 : w8.cell? ⟨gb148, 4, none⟩ = some (.int .i64 0) := (blk_cell BK148.out 4).trans rfl; have hcz9_5 : w8.cell? ⟨gb148, 5, none⟩ = some (.int .i64 0) := (blk_cell BK148.out 5).trans rfl; have hfz9_0 := blk_frozen BK148.out 0; have hfz9_1 := blk_frozen BK148.out 1; have hfz9_2 := blk_frozen BK148.out 2; have hfz9_3 := blk_frozen BK148.out 3; have hfz9_4 := blk_frozen BK148.out 4; have hfz9_5 := blk_frozen BK148.out 5) | ((with_reducible refine gate_callee (f := 54) rfl ?_); refine goesL_ (some 12) rfl rfl Tryd.func54 (by kernel_rfl) rfl #[.int .i64 t144, .int .i64 2] rfl (by (try simp only [List.map_toArray, List.map_cons, List.map_nil]); first | done | rfl | (simp only [List.length_drop, List.length_take]; rfl)) ?_; (with_reducible refine (impl_digits.calls t144 2 t149 _ A5.out).mono ?_); rintro e w' ⟨rfl, ⟨nd, rfl⟩⟩; refine ⟨_, rfl, ?_⟩))
  (try simp only [Act.put, List.setIfInBounds_toArray, List.set_cons_zero, List.set_cons_succ])
  go_cut [4] (fun v4 wc => ∃ (kq : Nat) (x4_5 : ByteArray), v4 = .string x4_5 ∧ Aside0 (impl_LineDate.j0 kq a0 x4_5 t142 t143 t144 t145 t146 t147 = some r) ∧ Aside0 (kq ≤ k) ∧ Aside0 (wc.heap[gb148]? = some (.cells #[.int .i64 t142, .int .i64 t143, .int .i64 t144, .int .i64 t145, .int .i64 t146, .int .i64 t147] 30 (0, 0))) ∧ Aside0 (Below w.heap.size w wc))
  case first =>
   have H := HC6.out
   clear HC6
   by_cases c10 : t144 < 10
   ·
    rw [if_pos c10] at H
    have c10b0 : decide (t144 < 10) = true := decide_eq_true c10
    clear c10
    (first | rw [c10b0] | (simp only [i64_w, i32_w]; rw [c10b0]) | skip)
    have c11 : 1 ≤ (t149.size : Int) := Classical.byContradiction fun h_ => by rw [if_neg h_] at H; exact absurd H (by simp)
    rw [if_pos c11] at H
    have c11b0 := eq_true c11
    have c11b1 : decide (1 ≤ (t149.size : Int)) = true := decide_eq_true c11
    clear c11
    have c12 : 1 + (t149.extract 1 t149.size).size ≤ 9223372036854775807 := Classical.byContradiction fun h_ => by rw [if_neg h_] at H; exact absurd H (by simp)
    rw [if_pos c12] at H
    have c12b0 := eq_true c12
    have c12b1 : decide (1 + (t149.extract 1 t149.size).size ≤ 9223372036854775807) = true := decide_eq_true c12
    try have c12b2 : (9223372036854775807 < 1 + (t149.extract 1 t149.size).size) = False := eq_false (Nat.not_lt.2 c12)
    (try (have c12v2 : (9223372036854775807 < 1 + (t149.size - 1)) = False := eq_false (by have h_ := c12; simp only [ByteArray.size_append, ByteArray.size_extract] at h_; omega)))
    have H' := Aside0.mk H
    clear H
    go_wp2
    go_meet
    case rel => exact ⟨_, ((⟨#[32]⟩ : ByteArray) ++ (t149.extract 1 t149.size)), (by first | rfl | (simp; done) | (simp [*]; done)), H', ⟨by first | omega | exact Nat.le_refl _⟩, ⟨by (with_reducible repeat (first | refine blk_drewN ?_ _ | refine blk_drew ?_ | refine blk_alloc ?_ _)); refine blk_put (cs := #[.int .i64 t142, .int .i64 t143, .int .i64 t144, .int .i64 t145, .int .i64 t146, .int .i64 0]) ?_ 5 _ rfl; (with_reducible repeat (first | refine blk_drewN ?_ _ | refine blk_drew ?_ | refine blk_alloc ?_ _)); refine blk_put (cs := #[.int .i64 t142, .int .i64 t143, .int .i64 t144, .int .i64 t145, .int .i64 0, .int .i64 0]) ?_ 4 _ rfl; (with_reducible repeat (first | refine blk_drewN ?_ _ | refine blk_drew ?_ | refine blk_alloc ?_ _)); refine blk_put (cs := #[.int .i64 t142, .int .i64 t143, .int .i64 t144, .int .i64 0, .int .i64 0, .int .i64 0]) ?_ 3 _ rfl; (with_reducible repeat (first | refine blk_drewN ?_ _ | refine blk_drew ?_ | refine blk_alloc ?_ _)); refine blk_put (cs := #[.int .i64 t142, .int .i64 t143, .int .i64 0, .int .i64 0, .int .i64 0, .int .i64 0]) ?_ 2 _ rfl; (with_reducible repeat (first | refine blk_drewN ?_ _ | refine blk_drew ?_ | refine blk_alloc ?_ _)); refine blk_put (cs := #[.int .i64 t142, .int .i64 0, .int .i64 0, .int .i64 0, .int .i64 0, .int .i64 0]) ?_ 1 _ rfl; (with_reducible repeat (first | refine blk_drewN ?_ _ | refine blk_drew ?_ | refine blk_alloc ?_ _)); refine blk_put (cs := #[.int .i64 0, .int .i64 0, .int .i64 0, .int .i64 0, .int .i64 0, .int .i64 0]) ?_ 0 _ rfl; (with_reducible repeat (first | refine blk_drewN ?_ _ | refine blk_drew ?_ | refine blk_alloc ?_ _)); exact BK148.out⟩, ⟨by repeat (first | (with_reducible first | exact HB.out | apply below_alloc | apply pw_below_drewN | apply below_drew1 | refine below_set ?_ GE148.out) | exact HB.out)⟩⟩
   ·
    rw [if_neg c10] at H
    have c10b0 : decide (t144 < 10) = false := decide_eq_false c10
    clear c10
    (first | rw [c10b0] | (simp only [i64_w, i32_w]; rw [c10b0]) | skip)
    have H' := Aside0.mk H
    clear H
    go_wp2
    go_meet
    case rel => exact ⟨_, (t149), (by first | rfl | (simp; done) | (simp [*]; done)), H', ⟨by first | omega | exact Nat.le_refl _⟩, ⟨by (with_reducible repeat (first | refine blk_drewN ?_ _ | refine blk_drew ?_ | refine blk_alloc ?_ _)); refine blk_put (cs := #[.int .i64 t142, .int .i64 t143, .int .i64 t144, .int .i64 t145, .int .i64 t146, .int .i64 0]) ?_ 5 _ rfl; (with_reducible repeat (first | refine blk_drewN ?_ _ | refine blk_drew ?_ | refine blk_alloc ?_ _)); refine blk_put (cs := #[.int .i64 t142, .int .i64 t143, .int .i64 t144, .int .i64 t145, .int .i64 0, .int .i64 0]) ?_ 4 _ rfl; (with_reducible repeat (first | refine blk_drewN ?_ _ | refine blk_drew ?_ | refine blk_alloc ?_ _)); refine blk_put (cs := #[.int .i64 t142, .int .i64 t143, .int .i64 t144, .int .i64 0, .int .i64 0, .int .i64 0]) ?_ 3 _ rfl; (with_reducible repeat (first | refine blk_drewN ?_ _ | refine blk_drew ?_ | refine blk_alloc ?_ _)); refine blk_put (cs := #[.int .i64 t142, .int .i64 t143, .int .i64 0, .int .i64 0, .int .i64 0, .int .i64 0]) ?_ 2 _ rfl; (with_reducible repeat (first | refine blk_drewN ?_ _ | refine blk_drew ?_ | refine blk_alloc ?_ _)); refine blk_put (cs := #[.int .i64 t142, .int .i64 0, .int .i64 0, .int .i64 0, .int .i64 0, .int .i64 0]) ?_ 1 _ rfl; (with_reducible repeat (first | refine blk_drewN ?_ _ | refine blk_drew ?_ | refine blk_alloc ?_ _)); refine blk_put (cs := #[.int .i64 0, .int .i64 0, .int .i64 0, .int .i64 0, .int .i64 0, .int .i64 0]) ?_ 0 _ rfl; (with_reducible repeat (first | refine blk_drewN ?_ _ | refine blk_drew ?_ | refine blk_alloc ?_ _)); exact BK148.out⟩, ⟨by repeat (first | (with_reducible first | exact HB.out | apply below_alloc | apply pw_below_drewN | apply below_drew1 | refine below_set ?_ GE148.out) | exact HB.out)⟩⟩
  case rest =>
   clear HC6
   try clear c1
   try clear p2
   try clear c3
   try clear c4
   try clear c5
   try clear c10
   try clear c10b0
   try clear c11
   try clear c11b0
   try clear c11b1
   try clear c12
   try clear c12b0
   try clear c12b1
   try clear c12b2
   try clear hcz9_0
   try clear hcz9_1
   try clear hcz9_2
   try clear hcz9_3
   try clear hcz9_4
   try clear hcz9_5
   try clear hfz9_0
   try clear hfz9_1
   try clear hfz9_2
   try clear hfz9_3
   try clear hfz9_4
   try clear hfz9_5
   obtain ⟨kq, x4_5, rfl, HA, HJ5, BK148, HB⟩ := hcut
   cases kq with
   | zero => exact absurd HA.out (by simp [impl_LineDate.j0])
   | succ kj5 =>
    have H := HA.out
    clear HA
    simp only [impl_LineDate.j0] at H
    replace H := Option.bind_eq_some_iff.mp H
    obtain ⟨t150, A130, H⟩ := H
    replace H : ((impl_Weekday.f a0).bind fun t153 => (if 0 ≤ t153 then (if t153 < (t150.length : Int) then (if 0 ≤ 3 then (if 3 ≤ ((rdOf ByteArray.empty t150 t153).size : Int) then (if ((rdOf ByteArray.empty t150 t153).extract 0 3).size + 1 ≤ 9223372036854775807 then ((impl_months.f).bind fun t155 => (if 0 ≤ (wrap64 (t143 - 1)) then (if (wrap64 (t143 - 1)) < (t155.length : Int) then (if (((rdOf ByteArray.empty t150 t153).extract 0 3) ++ (⟨#[32]⟩ : ByteArray)).size + (rdOf ByteArray.empty t155 (wrap64 (t143 - 1))).size ≤ 9223372036854775807 then (if ((((rdOf ByteArray.empty t150 t153).extract 0 3) ++ (⟨#[32]⟩ : ByteArray)) ++ (rdOf ByteArray.empty t155 (wrap64 (t143 - 1)))).size + 1 ≤ 9223372036854775807 then (if (((((rdOf ByteArray.empty t150 t153).extract 0 3) ++ (⟨#[32]⟩ : ByteArray)) ++ (rdOf ByteArray.empty t155 (wrap64 (t143 - 1)))) ++ (⟨#[32]⟩ : ByteArray)).size + x4_5.size ≤ 9223372036854775807 then (if ((((((rdOf ByteArray.empty t150 t153).extract 0 3) ++ (⟨#[32]⟩ : ByteArray)) ++ (rdOf ByteArray.empty t155 (wrap64 (t143 - 1)))) ++ (⟨#[32]⟩ : ByteArray)) ++ x4_5).size + 1 ≤ 9223372036854775807 then ((impl_clock.f t142 t143 t144 t145 t146 t147).bind fun t159 => (if (((((((rdOf ByteArray.empty t150 t153).extract 0 3) ++ (⟨#[32]⟩ : ByteArray)) ++ (rdOf ByteArray.empty t155 (wrap64 (t143 - 1)))) ++ (⟨#[32]⟩ : ByteArray)) ++ x4_5) ++ (⟨#[32]⟩ : ByteArray)).size + t159.size ≤ 9223372036854775807 then (if ((((((((rdOf ByteArray.empty t150 t153).extract 0 3) ++ (⟨#[32]⟩ : ByteArray)) ++ (rdOf ByteArray.empty t155 (wrap64 (t143 - 1)))) ++ (⟨#[32]⟩ : ByteArray)) ++ x4_5) ++ (⟨#[32]⟩ : ByteArray)) ++ t159).size + 1 ≤ 9223372036854775807 then ((impl_digits.f t142 4).bind fun t160 => (if (((((((((rdOf ByteArray.empty t150 t153).extract 0 3) ++ (⟨#[32]⟩ : ByteArray)) ++ (rdOf ByteArray.empty t155 (wrap64 (t143 - 1)))) ++ (⟨#[32]⟩ : ByteArray)) ++ x4_5) ++ (⟨#[32]⟩ : ByteArray)) ++ t159) ++ (⟨#[32]⟩ : ByteArray)).size + t160.size ≤ 9223372036854775807 then (some ((((((((((rdOf ByteArray.empty t150 t153).extract 0 3) ++ (⟨#[32]⟩ : ByteArray)) ++ (rdOf ByteArray.empty t155 (wrap64 (t143 - 1)))) ++ (⟨#[32]⟩ : ByteArray)) ++ x4_5) ++ (⟨#[32]⟩ : ByteArray)) ++ t159) ++ (⟨#[32]⟩ : ByteArray)) ++ t160)) else (none))) else (none)) else (none))) else (none)) else (none)) else (none)) else (none)) else (none)) else (none))) else (none)) else (none)) else (none)) else (none)) else (none))) = some r := H
    have A13 := Aside0.mk A130
    clear A130
    replace H := Option.bind_eq_some_iff.mp H
    obtain ⟨t153, A140, H⟩ := H
    replace H : (if 0 ≤ t153 then (if t153 < (t150.length : Int) then (if 0 ≤ 3 then (if 3 ≤ ((rdOf ByteArray.empty t150 t153).size : Int) then (if ((rdOf ByteArray.empty t150 t153).extract 0 3).size + 1 ≤ 9223372036854775807 then ((impl_months.f).bind fun t155 => (if 0 ≤ (wrap64 (t143 - 1)) then (if (wrap64 (t143 - 1)) < (t155.length : Int) then (if (((rdOf ByteArray.empty t150 t153).extract 0 3) ++ (⟨#[32]⟩ : ByteArray)).size + (rdOf ByteArray.empty t155 (wrap64 (t143 - 1))).size ≤ 9223372036854775807 then (if ((((rdOf ByteArray.empty t150 t153).extract 0 3) ++ (⟨#[32]⟩ : ByteArray)) ++ (rdOf ByteArray.empty t155 (wrap64 (t143 - 1)))).size + 1 ≤ 9223372036854775807 then (if (((((rdOf ByteArray.empty t150 t153).extract 0 3) ++ (⟨#[32]⟩ : ByteArray)) ++ (rdOf ByteArray.empty t155 (wrap64 (t143 - 1)))) ++ (⟨#[32]⟩ : ByteArray)).size + x4_5.size ≤ 9223372036854775807 then (if ((((((rdOf ByteArray.empty t150 t153).extract 0 3) ++ (⟨#[32]⟩ : ByteArray)) ++ (rdOf ByteArray.empty t155 (wrap64 (t143 - 1)))) ++ (⟨#[32]⟩ : ByteArray)) ++ x4_5).size + 1 ≤ 9223372036854775807 then ((impl_clock.f t142 t143 t144 t145 t146 t147).bind fun t159 => (if (((((((rdOf ByteArray.empty t150 t153).extract 0 3) ++ (⟨#[32]⟩ : ByteArray)) ++ (rdOf ByteArray.empty t155 (wrap64 (t143 - 1)))) ++ (⟨#[32]⟩ : ByteArray)) ++ x4_5) ++ (⟨#[32]⟩ : ByteArray)).size + t159.size ≤ 9223372036854775807 then (if ((((((((rdOf ByteArray.empty t150 t153).extract 0 3) ++ (⟨#[32]⟩ : ByteArray)) ++ (rdOf ByteArray.empty t155 (wrap64 (t143 - 1)))) ++ (⟨#[32]⟩ : ByteArray)) ++ x4_5) ++ (⟨#[32]⟩ : ByteArray)) ++ t159).size + 1 ≤ 9223372036854775807 then ((impl_digits.f t142 4).bind fun t160 => (if (((((((((rdOf ByteArray.empty t150 t153).extract 0 3) ++ (⟨#[32]⟩ : ByteArray)) ++ (rdOf ByteArray.empty t155 (wrap64 (t143 - 1)))) ++ (⟨#[32]⟩ : ByteArray)) ++ x4_5) ++ (⟨#[32]⟩ : ByteArray)) ++ t159) ++ (⟨#[32]⟩ : ByteArray)).size + t160.size ≤ 9223372036854775807 then (some ((((((((((rdOf ByteArray.empty t150 t153).extract 0 3) ++ (⟨#[32]⟩ : ByteArray)) ++ (rdOf ByteArray.empty t155 (wrap64 (t143 - 1)))) ++ (⟨#[32]⟩ : ByteArray)) ++ x4_5) ++ (⟨#[32]⟩ : ByteArray)) ++ t159) ++ (⟨#[32]⟩ : ByteArray)) ++ t160)) else (none))) else (none)) else (none))) else (none)) else (none)) else (none)) else (none)) else (none)) else (none))) else (none)) else (none)) else (none)) else (none)) else (none)) = some r := H
    have A14 := Aside0.mk A140
    clear A140
    have c15 : 0 ≤ t153 := Classical.byContradiction fun h_ => by rw [if_neg h_] at H; exact absurd H (by simp)
    rw [if_pos c15] at H
    have c15b0 : decide (0 ≤ t153) = true := decide_eq_true c15
    clear c15
    have c16 : t153 < (t150.length : Int) := Classical.byContradiction fun h_ => by rw [if_neg h_] at H; exact absurd H (by simp)
    rw [if_pos c16] at H
    have c16b0 : decide (t153 < (t150.length : Int)) = true := decide_eq_true c16
    clear c16
    have c17 : 0 ≤ 3 := Classical.byContradiction fun h_ => by rw [if_neg h_] at H; exact absurd H (by simp)
    rw [if_pos c17] at H
    have c17b0 := eq_true c17
    have c17b1 : decide (0 ≤ 3) = true := decide_eq_true c17
    clear c17
    have c18 : 3 ≤ ((rdOf ByteArray.empty t150 t153).size : Int) := Classical.byContradiction fun h_ => by rw [if_neg h_] at H; exact absurd H (by simp)
    rw [if_pos c18] at H
    have c18b0 := eq_true c18
    have c18b1 : decide (3 ≤ ((rdOf ByteArray.empty t150 t153).size : Int)) = true := decide_eq_true c18
    clear c18
    have c19 : ((rdOf ByteArray.empty t150 t153).extract 0 3).size + 1 ≤ 9223372036854775807 := Classical.byContradiction fun h_ => by rw [if_neg h_] at H; exact absurd H (by simp)
    rw [if_pos c19] at H
    have c19b0 := eq_true c19
    have c19b1 : decide (((rdOf ByteArray.empty t150 t153).extract 0 3).size + 1 ≤ 9223372036854775807) = true := decide_eq_true c19
    try have c19b2 : (9223372036854775807 < ((rdOf ByteArray.empty t150 t153).extract 0 3).size + 1) = False := eq_false (Nat.not_lt.2 c19)
    (try (have c19v2 : (9223372036854775807 < min 3 (rdOf ByteArray.empty t150 t153).size + 1) = False := eq_false (by have h_ := c19; simp only [ByteArray.size_append, ByteArray.size_extract] at h_; omega)))
    replace H := Option.bind_eq_some_iff.mp H
    obtain ⟨t155, A200, H⟩ := H
    replace H : (if 0 ≤ (wrap64 (t143 - 1)) then (if (wrap64 (t143 - 1)) < (t155.length : Int) then (if (((rdOf ByteArray.empty t150 t153).extract 0 3) ++ (⟨#[32]⟩ : ByteArray)).size + (rdOf ByteArray.empty t155 (wrap64 (t143 - 1))).size ≤ 9223372036854775807 then (if ((((rdOf ByteArray.empty t150 t153).extract 0 3) ++ (⟨#[32]⟩ : ByteArray)) ++ (rdOf ByteArray.empty t155 (wrap64 (t143 - 1)))).size + 1 ≤ 9223372036854775807 then (if (((((rdOf ByteArray.empty t150 t153).extract 0 3) ++ (⟨#[32]⟩ : ByteArray)) ++ (rdOf ByteArray.empty t155 (wrap64 (t143 - 1)))) ++ (⟨#[32]⟩ : ByteArray)).size + x4_5.size ≤ 9223372036854775807 then (if ((((((rdOf ByteArray.empty t150 t153).extract 0 3) ++ (⟨#[32]⟩ : ByteArray)) ++ (rdOf ByteArray.empty t155 (wrap64 (t143 - 1)))) ++ (⟨#[32]⟩ : ByteArray)) ++ x4_5).size + 1 ≤ 9223372036854775807 then ((impl_clock.f t142 t143 t144 t145 t146 t147).bind fun t159 => (if (((((((rdOf ByteArray.empty t150 t153).extract 0 3) ++ (⟨#[32]⟩ : ByteArray)) ++ (rdOf ByteArray.empty t155 (wrap64 (t143 - 1)))) ++ (⟨#[32]⟩ : ByteArray)) ++ x4_5) ++ (⟨#[32]⟩ : ByteArray)).size + t159.size ≤ 9223372036854775807 then (if ((((((((rdOf ByteArray.empty t150 t153).extract 0 3) ++ (⟨#[32]⟩ : ByteArray)) ++ (rdOf ByteArray.empty t155 (wrap64 (t143 - 1)))) ++ (⟨#[32]⟩ : ByteArray)) ++ x4_5) ++ (⟨#[32]⟩ : ByteArray)) ++ t159).size + 1 ≤ 9223372036854775807 then ((impl_digits.f t142 4).bind fun t160 => (if (((((((((rdOf ByteArray.empty t150 t153).extract 0 3) ++ (⟨#[32]⟩ : ByteArray)) ++ (rdOf ByteArray.empty t155 (wrap64 (t143 - 1)))) ++ (⟨#[32]⟩ : ByteArray)) ++ x4_5) ++ (⟨#[32]⟩ : ByteArray)) ++ t159) ++ (⟨#[32]⟩ : ByteArray)).size + t160.size ≤ 9223372036854775807 then (some ((((((((((rdOf ByteArray.empty t150 t153).extract 0 3) ++ (⟨#[32]⟩ : ByteArray)) ++ (rdOf ByteArray.empty t155 (wrap64 (t143 - 1)))) ++ (⟨#[32]⟩ : ByteArray)) ++ x4_5) ++ (⟨#[32]⟩ : ByteArray)) ++ t159) ++ (⟨#[32]⟩ : ByteArray)) ++ t160)) else (none))) else (none)) else (none))) else (none)) else (none)) else (none)) else (none)) else (none)) else (none)) = some r := H
    have A20 := Aside0.mk A200
    clear A200
    obtain ⟨ji21, hji21⟩ : ∃ j_ : Int, (wrap64 (t143 - 1)) = j_ := ⟨_, rfl⟩
    replace H : (if 0 ≤ (ji21) then (if (ji21) < (t155.length : Int) then (if (((rdOf ByteArray.empty t150 t153).extract 0 3) ++ (⟨#[32]⟩ : ByteArray)).size + (rdOf ByteArray.empty t155 (ji21)).size ≤ 9223372036854775807 then (if ((((rdOf ByteArray.empty t150 t153).extract 0 3) ++ (⟨#[32]⟩ : ByteArray)) ++ (rdOf ByteArray.empty t155 (ji21))).size + 1 ≤ 9223372036854775807 then (if (((((rdOf ByteArray.empty t150 t153).extract 0 3) ++ (⟨#[32]⟩ : ByteArray)) ++ (rdOf ByteArray.empty t155 (ji21))) ++ (⟨#[32]⟩ : ByteArray)).size + x4_5.size ≤ 9223372036854775807 then (if ((((((rdOf ByteArray.empty t150 t153).extract 0 3) ++ (⟨#[32]⟩ : ByteArray)) ++ (rdOf ByteArray.empty t155 (ji21))) ++ (⟨#[32]⟩ : ByteArray)) ++ x4_5).size + 1 ≤ 9223372036854775807 then ((impl_clock.f t142 t143 t144 t145 t146 t147).bind fun t159 => (if (((((((rdOf ByteArray.empty t150 t153).extract 0 3) ++ (⟨#[32]⟩ : ByteArray)) ++ (rdOf ByteArray.empty t155 (ji21))) ++ (⟨#[32]⟩ : ByteArray)) ++ x4_5) ++ (⟨#[32]⟩ : ByteArray)).size + t159.size ≤ 9223372036854775807 then (if ((((((((rdOf ByteArray.empty t150 t153).extract 0 3) ++ (⟨#[32]⟩ : ByteArray)) ++ (rdOf ByteArray.empty t155 (ji21))) ++ (⟨#[32]⟩ : ByteArray)) ++ x4_5) ++ (⟨#[32]⟩ : ByteArray)) ++ t159).size + 1 ≤ 9223372036854775807 then ((impl_digits.f t142 4).bind fun t160 => (if (((((((((rdOf ByteArray.empty t150 t153).extract 0 3) ++ (⟨#[32]⟩ : ByteArray)) ++ (rdOf ByteArray.empty t155 (ji21))) ++ (⟨#[32]⟩ : ByteArray)) ++ x4_5) ++ (⟨#[32]⟩ : ByteArray)) ++ t159) ++ (⟨#[32]⟩ : ByteArray)).size + t160.size ≤ 9223372036854775807 then (some ((((((((((rdOf ByteArray.empty t150 t153).extract 0 3) ++ (⟨#[32]⟩ : ByteArray)) ++ (rdOf ByteArray.empty t155 (ji21))) ++ (⟨#[32]⟩ : ByteArray)) ++ x4_5) ++ (⟨#[32]⟩ : ByteArray)) ++ t159) ++ (⟨#[32]⟩ : ByteArray)) ++ t160)) else (none))) else (none)) else (none))) else (none)) else (none)) else (none)) else (none)) else (none)) else (none)) = some r := by first | (rw [hji21] at H; exact H) | (simp only [hji21] at H ⊢; exact H)
    (try rw [hji21] at A13)
    (try rw [hji21] at A14)
    (try rw [hji21] at A20)
    have hji21w : (IntKind.i64.wrap (t143 - 1)) = ji21 := (i64_w _).trans hji21
    have c22 : 0 ≤ (ji21) := Classical.byContradiction fun h_ => by rw [if_neg h_] at H; exact absurd H (by simp)
    rw [if_pos c22] at H
    have c22b0 : decide (0 ≤ (ji21)) = true := decide_eq_true c22
    clear c22
    have c23 : (ji21) < (t155.length : Int) := Classical.byContradiction fun h_ => by rw [if_neg h_] at H; exact absurd H (by simp)
    rw [if_pos c23] at H
    have c23b0 : decide ((ji21) < (t155.length : Int)) = true := decide_eq_true c23
    clear c23
    have c24 : (((rdOf ByteArray.empty t150 t153).extract 0 3) ++ (⟨#[32]⟩ : ByteArray)).size + (rdOf ByteArray.empty t155 (ji21)).size ≤ 9223372036854775807 := Classical.byContradiction fun h_ => by rw [if_neg h_] at H; exact absurd H (by simp)
    rw [if_pos c24] at H
    have c24b0 := eq_true c24
    have c24b1 : decide ((((rdOf ByteArray.empty t150 t153).extract 0 3) ++ (⟨#[32]⟩ : ByteArray)).size + (rdOf ByteArray.empty t155 (ji21)).size ≤ 9223372036854775807) = true := decide_eq_true c24
    try have c24b2 : (9223372036854775807 < (((rdOf ByteArray.empty t150 t153).extract 0 3) ++ (⟨#[32]⟩ : ByteArray)).size + (rdOf ByteArray.empty t155 (ji21)).size) = False := eq_false (Nat.not_lt.2 c24)
    (try (have c24v2 : (9223372036854775807 < (min 3 (rdOf ByteArray.empty t150 t153).size + 1) + (rdOf ByteArray.empty t155 (ji21)).size) = False := eq_false (by have h_ := c24; simp only [ByteArray.size_append, ByteArray.size_extract, show (⟨#[32]⟩ : ByteArray).size = 1 from rfl] at h_; omega)))
    (try (have c24y0 := c24b0; simp only [ByteArray.size_append] at c24y0))
    (try (have c24z0 := c24b0; simp only [ByteArray.size_append, Int.natCast_add] at c24z0))
    (try (have c24y1 := c24b1; simp only [ByteArray.size_append] at c24y1))
    (try (have c24z1 := c24b1; simp only [ByteArray.size_append, Int.natCast_add] at c24z1))
    have c25 : ((((rdOf ByteArray.empty t150 t153).extract 0 3) ++ (⟨#[32]⟩ : ByteArray)) ++ (rdOf ByteArray.empty t155 (ji21))).size + 1 ≤ 9223372036854775807 := Classical.byContradiction fun h_ => by rw [if_neg h_] at H; exact absurd H (by simp)
    rw [if_pos c25] at H
    have c25b0 := eq_true c25
    have c25b1 : decide (((((rdOf ByteArray.empty t150 t153).extract 0 3) ++ (⟨#[32]⟩ : ByteArray)) ++ (rdOf ByteArray.empty t155 (ji21))).size + 1 ≤ 9223372036854775807) = true := decide_eq_true c25
    try have c25b2 : (9223372036854775807 < ((((rdOf ByteArray.empty t150 t153).extract 0 3) ++ (⟨#[32]⟩ : ByteArray)) ++ (rdOf ByteArray.empty t155 (ji21))).size + 1) = False := eq_false (Nat.not_lt.2 c25)
    (try (have c25v2 : (9223372036854775807 < ((min 3 (rdOf ByteArray.empty t150 t153).size + 1) + (rdOf ByteArray.empty t155 (ji21)).size) + 1) = False := eq_false (by have h_ := c25; simp only [ByteArray.size_append, ByteArray.size_extract, show (⟨#[32]⟩ : ByteArray).size = 1 from rfl] at h_; omega)))
    (try (have c25y0 := c25b0; simp only [ByteArray.size_append] at c25y0))
    (try (have c25z0 := c25b0; simp only [ByteArray.size_append, Int.natCast_add] at c25z0))
    (try (have c25y1 := c25b1; simp only [ByteArray.size_append] at c25y1))
    (try (have c25z1 := c25b1; simp only [ByteArray.size_append, Int.natCast_add] at c25z1))
    have c26 : (((((rdOf ByteArray.empty t150 t153).extract 0 3) ++ (⟨#[32]⟩ : ByteArray)) ++ (rdOf ByteArray.empty t155 (ji21))) ++ (⟨#[32]⟩ : ByteArray)).size + x4_5.size ≤ 9223372036854775807 := Classical.byContradiction fun h_ => by rw [if_neg h_] at H; exact absurd H (by simp)
    rw [if_pos c26] at H
    have c26b0 := eq_true c26
    have c26b1 : decide ((((((rdOf ByteArray.empty t150 t153).extract 0 3) ++ (⟨#[32]⟩ : ByteArray)) ++ (rdOf ByteArray.empty t155 (ji21))) ++ (⟨#[32]⟩ : ByteArray)).size + x4_5.size ≤ 9223372036854775807) = true := decide_eq_true c26
    try have c26b2 : (9223372036854775807 < (((((rdOf ByteArray.empty t150 t153).extract 0 3) ++ (⟨#[32]⟩ : ByteArray)) ++ (rdOf ByteArray.empty t155 (ji21))) ++ (⟨#[32]⟩ : ByteArray)).size + x4_5.size) = False := eq_false (Nat.not_lt.2 c26)
    (try (have c26v2 : (9223372036854775807 < (((min 3 (rdOf ByteArray.empty t150 t153).size + 1) + (rdOf ByteArray.empty t155 (ji21)).size) + 1) + x4_5.size) = False := eq_false (by have h_ := c26; simp only [ByteArray.size_append, ByteArray.size_extract, show (⟨#[32]⟩ : ByteArray).size = 1 from rfl] at h_; omega)))
    (try (have c26y0 := c26b0; simp only [ByteArray.size_append] at c26y0))
    (try (have c26z0 := c26b0; simp only [ByteArray.size_append, Int.natCast_add] at c26z0))
    (try (have c26y1 := c26b1; simp only [ByteArray.size_append] at c26y1))
    (try (have c26z1 := c26b1; simp only [ByteArray.size_append, Int.natCast_add] at c26z1))
    have c27 : ((((((rdOf ByteArray.empty t150 t153).extract 0 3) ++ (⟨#[32]⟩ : ByteArray)) ++ (rdOf ByteArray.empty t155 (ji21))) ++ (⟨#[32]⟩ : ByteArray)) ++ x4_5).size + 1 ≤ 9223372036854775807 := Classical.byContradiction fun h_ => by rw [if_neg h_] at H; exact absurd H (by simp)
    rw [if_pos c27] at H
    have c27b0 := eq_true c27
    have c27b1 : decide (((((((rdOf ByteArray.empty t150 t153).extract 0 3) ++ (⟨#[32]⟩ : ByteArray)) ++ (rdOf ByteArray.empty t155 (ji21))) ++ (⟨#[32]⟩ : ByteArray)) ++ x4_5).size + 1 ≤ 9223372036854775807) = true := decide_eq_true c27
    try have c27b2 : (9223372036854775807 < ((((((rdOf ByteArray.empty t150 t153).extract 0 3) ++ (⟨#[32]⟩ : ByteArray)) ++ (rdOf ByteArray.empty t155 (ji21))) ++ (⟨#[32]⟩ : ByteArray)) ++ x4_5).size + 1) = False := eq_false (Nat.not_lt.2 c27)
    (try (have c27v2 : (9223372036854775807 < ((((min 3 (rdOf ByteArray.empty t150 t153).size + 1) + (rdOf ByteArray.empty t155 (ji21)).size) + 1) + x4_5.size) + 1) = False := eq_false (by have h_ := c27; simp only [ByteArray.size_append, ByteArray.size_extract, show (⟨#[32]⟩ : ByteArray).size = 1 from rfl] at h_; omega)))
    (try (have c27y0 := c27b0; simp only [ByteArray.size_append] at c27y0))
    (try (have c27z0 := c27b0; simp only [ByteArray.size_append, Int.natCast_add] at c27z0))
    (try (have c27y1 := c27b1; simp only [ByteArray.size_append] at c27y1))
    (try (have c27z1 := c27b1; simp only [ByteArray.size_append, Int.natCast_add] at c27z1))
    replace H := Option.bind_eq_some_iff.mp H
    obtain ⟨t159, A280, H⟩ := H
    replace H : (if (((((((rdOf ByteArray.empty t150 t153).extract 0 3) ++ (⟨#[32]⟩ : ByteArray)) ++ (rdOf ByteArray.empty t155 (ji21))) ++ (⟨#[32]⟩ : ByteArray)) ++ x4_5) ++ (⟨#[32]⟩ : ByteArray)).size + t159.size ≤ 9223372036854775807 then (if ((((((((rdOf ByteArray.empty t150 t153).extract 0 3) ++ (⟨#[32]⟩ : ByteArray)) ++ (rdOf ByteArray.empty t155 (ji21))) ++ (⟨#[32]⟩ : ByteArray)) ++ x4_5) ++ (⟨#[32]⟩ : ByteArray)) ++ t159).size + 1 ≤ 9223372036854775807 then ((impl_digits.f t142 4).bind fun t160 => (if (((((((((rdOf ByteArray.empty t150 t153).extract 0 3) ++ (⟨#[32]⟩ : ByteArray)) ++ (rdOf ByteArray.empty t155 (ji21))) ++ (⟨#[32]⟩ : ByteArray)) ++ x4_5) ++ (⟨#[32]⟩ : ByteArray)) ++ t159) ++ (⟨#[32]⟩ : ByteArray)).size + t160.size ≤ 9223372036854775807 then (some ((((((((((rdOf ByteArray.empty t150 t153).extract 0 3) ++ (⟨#[32]⟩ : ByteArray)) ++ (rdOf ByteArray.empty t155 (ji21))) ++ (⟨#[32]⟩ : ByteArray)) ++ x4_5) ++ (⟨#[32]⟩ : ByteArray)) ++ t159) ++ (⟨#[32]⟩ : ByteArray)) ++ t160)) else (none))) else (none)) else (none)) = some r := H
    have A28 := Aside0.mk A280
    clear A280
    have c29 : (((((((rdOf ByteArray.empty t150 t153).extract 0 3) ++ (⟨#[32]⟩ : ByteArray)) ++ (rdOf ByteArray.empty t155 (ji21))) ++ (⟨#[32]⟩ : ByteArray)) ++ x4_5) ++ (⟨#[32]⟩ : ByteArray)).size + t159.size ≤ 9223372036854775807 := Classical.byContradiction fun h_ => by rw [if_neg h_] at H; exact absurd H (by simp)
    rw [if_pos c29] at H
    have c29b0 := eq_true c29
    have c29b1 : decide ((((((((rdOf ByteArray.empty t150 t153).extract 0 3) ++ (⟨#[32]⟩ : ByteArray)) ++ (rdOf ByteArray.empty t155 (ji21))) ++ (⟨#[32]⟩ : ByteArray)) ++ x4_5) ++ (⟨#[32]⟩ : ByteArray)).size + t159.size ≤ 9223372036854775807) = true := decide_eq_true c29
    try have c29b2 : (9223372036854775807 < (((((((rdOf ByteArray.empty t150 t153).extract 0 3) ++ (⟨#[32]⟩ : ByteArray)) ++ (rdOf ByteArray.empty t155 (ji21))) ++ (⟨#[32]⟩ : ByteArray)) ++ x4_5) ++ (⟨#[32]⟩ : ByteArray)).size + t159.size) = False := eq_false (Nat.not_lt.2 c29)
    (try (have c29v2 : (9223372036854775807 < (((((min 3 (rdOf ByteArray.empty t150 t153).size + 1) + (rdOf ByteArray.empty t155 (ji21)).size) + 1) + x4_5.size) + 1) + t159.size) = False := eq_false (by have h_ := c29; simp only [ByteArray.size_append, ByteArray.size_extract, show (⟨#[32]⟩ : ByteArray).size = 1 from rfl] at h_; omega)))
    (try (have c29y0 := c29b0; simp only [ByteArray.size_append] at c29y0))
    (try (have c29z0 := c29b0; simp only [ByteArray.size_append, Int.natCast_add] at c29z0))
    (try (have c29y1 := c29b1; simp only [ByteArray.size_append] at c29y1))
    (try (have c29z1 := c29b1; simp only [ByteArray.size_append, Int.natCast_add] at c29z1))
    have c30 : ((((((((rdOf ByteArray.empty t150 t153).extract 0 3) ++ (⟨#[32]⟩ : ByteArray)) ++ (rdOf ByteArray.empty t155 (ji21))) ++ (⟨#[32]⟩ : ByteArray)) ++ x4_5) ++ (⟨#[32]⟩ : ByteArray)) ++ t159).size + 1 ≤ 9223372036854775807 := Classical.byContradiction fun h_ => by rw [if_neg h_] at H; exact absurd H (by simp)
    rw [if_pos c30] at H
    have c30b0 := eq_true c30
    have c30b1 : decide (((((((((rdOf ByteArray.empty t150 t153).extract 0 3) ++ (⟨#[32]⟩ : ByteArray)) ++ (rdOf ByteArray.empty t155 (ji21))) ++ (⟨#[32]⟩ : ByteArray)) ++ x4_5) ++ (⟨#[32]⟩ : ByteArray)) ++ t159).size + 1 ≤ 9223372036854775807) = true := decide_eq_true c30
    try have c30b2 : (9223372036854775807 < ((((((((rdOf ByteArray.empty t150 t153).extract 0 3) ++ (⟨#[32]⟩ : ByteArray)) ++ (rdOf ByteArray.empty t155 (ji21))) ++ (⟨#[32]⟩ : ByteArray)) ++ x4_5) ++ (⟨#[32]⟩ : ByteArray)) ++ t159).size + 1) = False := eq_false (Nat.not_lt.2 c30)
    (try (have c30v2 : (9223372036854775807 < ((((((min 3 (rdOf ByteArray.empty t150 t153).size + 1) + (rdOf ByteArray.empty t155 (ji21)).size) + 1) + x4_5.size) + 1) + t159.size) + 1) = False := eq_false (by have h_ := c30; simp only [ByteArray.size_append, ByteArray.size_extract, show (⟨#[32]⟩ : ByteArray).size = 1 from rfl] at h_; omega)))
    (try (have c30y0 := c30b0; simp only [ByteArray.size_append] at c30y0))
    (try (have c30z0 := c30b0; simp only [ByteArray.size_append, Int.natCast_add] at c30z0))
    (try (have c30y1 := c30b1; simp only [ByteArray.size_append] at c30y1))
    (try (have c30z1 := c30b1; simp only [ByteArray.size_append, Int.natCast_add] at c30z1))
    replace H := Option.bind_eq_some_iff.mp H
    obtain ⟨t160, A310, H⟩ := H
    replace H : (if (((((((((rdOf ByteArray.empty t150 t153).extract 0 3) ++ (⟨#[32]⟩ : ByteArray)) ++ (rdOf ByteArray.empty t155 (ji21))) ++ (⟨#[32]⟩ : ByteArray)) ++ x4_5) ++ (⟨#[32]⟩ : ByteArray)) ++ t159) ++ (⟨#[32]⟩ : ByteArray)).size + t160.size ≤ 9223372036854775807 then (some ((((((((((rdOf ByteArray.empty t150 t153).extract 0 3) ++ (⟨#[32]⟩ : ByteArray)) ++ (rdOf ByteArray.empty t155 (ji21))) ++ (⟨#[32]⟩ : ByteArray)) ++ x4_5) ++ (⟨#[32]⟩ : ByteArray)) ++ t159) ++ (⟨#[32]⟩ : ByteArray)) ++ t160)) else (none)) = some r := H
    have A31 := Aside0.mk A310
    clear A310
    have c32 : (((((((((rdOf ByteArray.empty t150 t153).extract 0 3) ++ (⟨#[32]⟩ : ByteArray)) ++ (rdOf ByteArray.empty t155 (ji21))) ++ (⟨#[32]⟩ : ByteArray)) ++ x4_5) ++ (⟨#[32]⟩ : ByteArray)) ++ t159) ++ (⟨#[32]⟩ : ByteArray)).size + t160.size ≤ 9223372036854775807 := Classical.byContradiction fun h_ => by rw [if_neg h_] at H; exact absurd H (by simp)
    rw [if_pos c32] at H
    have c32b0 := eq_true c32
    have c32b1 : decide ((((((((((rdOf ByteArray.empty t150 t153).extract 0 3) ++ (⟨#[32]⟩ : ByteArray)) ++ (rdOf ByteArray.empty t155 (ji21))) ++ (⟨#[32]⟩ : ByteArray)) ++ x4_5) ++ (⟨#[32]⟩ : ByteArray)) ++ t159) ++ (⟨#[32]⟩ : ByteArray)).size + t160.size ≤ 9223372036854775807) = true := decide_eq_true c32
    try have c32b2 : (9223372036854775807 < (((((((((rdOf ByteArray.empty t150 t153).extract 0 3) ++ (⟨#[32]⟩ : ByteArray)) ++ (rdOf ByteArray.empty t155 (ji21))) ++ (⟨#[32]⟩ : ByteArray)) ++ x4_5) ++ (⟨#[32]⟩ : ByteArray)) ++ t159) ++ (⟨#[32]⟩ : ByteArray)).size + t160.size) = False := eq_false (Nat.not_lt.2 c32)
    (try (have c32v2 : (9223372036854775807 < (((((((min 3 (rdOf ByteArray.empty t150 t153).size + 1) + (rdOf ByteArray.empty t155 (ji21)).size) + 1) + x4_5.size) + 1) + t159.size) + 1) + t160.size) = False := eq_false (by have h_ := c32; simp only [ByteArray.size_append, ByteArray.size_extract, show (⟨#[32]⟩ : ByteArray).size = 1 from rfl] at h_; omega)))
    (try (have c32y0 := c32b0; simp only [ByteArray.size_append] at c32y0))
    (try (have c32z0 := c32b0; simp only [ByteArray.size_append, Int.natCast_add] at c32z0))
    (try (have c32y1 := c32b1; simp only [ByteArray.size_append] at c32y1))
    (try (have c32z1 := c32b1; simp only [ByteArray.size_append, Int.natCast_add] at c32z1))
    obtain rfl := Option.some.inj H
    try go_wp2
    have n0_ := Aside0.mk (blk_drew BK148.out)
    have n1_ := Aside0.mk (below_drew1 HB.out)
    clear BK148
    clear HB
    have BK148 := n0_
    have HB := n1_
    clear n0_ n1_
    refine start_ (n := 27) (S := fun w' => w'.cell? ⟨gb148, 0, none⟩ = some (.int .i64 t142) ∧ w'.cell? ⟨gb148, 1, none⟩ = some (.int .i64 t143) ∧ w'.cell? ⟨gb148, 2, none⟩ = some (.int .i64 t144) ∧ w'.cell? ⟨gb148, 3, none⟩ = some (.int .i64 t145) ∧ w'.cell? ⟨gb148, 4, none⟩ = some (.int .i64 t146) ∧ w'.cell? ⟨gb148, 5, none⟩ = some (.int .i64 t147) ∧ True ∧ True) (ds := []) #[false, false, false, false, false, false, false, false, false, false, false, false, false, false, false, false, false, false, false, false, false, false, false, false, false, false, false] (by kernel_rfl) rfl rfl ⟨(blk_cell BK148.out 0).trans rfl, (blk_cell BK148.out 1).trans rfl, (blk_cell BK148.out 2).trans rfl, (blk_cell BK148.out 3).trans rfl, (blk_cell BK148.out 4).trans rfl, (blk_cell BK148.out 5).trans rfl, trivial, trivial⟩ (fun hHeld => ?_); refine with_tabW impl_LineDate.tab7 impl_LineDate.bits7 (fun HT_ HW_ => ?_)
    generalize wc.drew = w33 at BK148 HB hHeld ⊢
    refine pure_ (i := 1) (N := some 20) (v := ?_) (a' := ?_) #[false, true, false, false, false, false, false, false, false, false, false, false, false, false, false, false, false, false, false, false, false, false, false, false, false, false, false] rfl rfl (any_of HT_.out (by kernel_rfl)) (fun _ _ _ h => h) (Or.inl ⟨by rfl, ?_⟩) ?_ ?_
    rotate_left
    ·
     intro w'
     go_simp
     with_reducible rfl
    rotate_left
    ·
     simp only [Act.put, List.setIfInBounds_toArray, List.set_cons_zero, List.set_cons_succ, i64_w, i32_w]
     rfl
    refine pure_ (i := 8) (N := some 27) (v := ?_) (a' := ?_) #[false, true, false, false, false, false, false, false, true, false, false, false, false, false, false, false, false, false, false, false, false, false, false, false, false, false, false] rfl rfl (any_of HT_.out (by kernel_rfl)) (fun _ _ _ h => h) (Or.inl ⟨by rfl, ?_⟩) ?_ ?_
    rotate_left
    ·
     intro w'
     go_simp
     with_reducible rfl
    rotate_left
    ·
     simp only [Act.put, List.setIfInBounds_toArray, List.set_cons_zero, List.set_cons_succ, i64_w, i32_w]
     rfl
    refine pure_ (i := 15) (N := some 34) (v := ?_) (a' := ?_) #[false, true, false, false, false, false, false, false, true, false, false, false, false, false, false, true, false, false, false, false, false, false, false, false, false, false, false] rfl rfl (any_of HT_.out (by kernel_rfl)) (fun _ _ _ h => h) (Or.inl ⟨by rfl, ?_⟩) ?_ ?_
    rotate_left
    ·
     intro w'
     go_simp
     with_reducible rfl
    rotate_left
    ·
     simp only [Act.put, List.setIfInBounds_toArray, List.set_cons_zero, List.set_cons_succ, i64_w, i32_w]
     rfl
    refine pure_ (i := 22) (N := some 41) (v := ?_) (a' := ?_) #[false, true, false, false, false, false, false, false, true, false, false, false, false, false, false, true, false, false, false, false, false, false, true, false, false, false, false] rfl rfl (any_of HT_.out (by kernel_rfl)) (fun _ _ _ h => h) (Or.inl ⟨by rfl, ?_⟩) ?_ ?_
    rotate_left
    ·
     intro w'
     go_simp
     with_reducible rfl
    rotate_left
    ·
     simp only [Act.put, List.setIfInBounds_toArray, List.set_cons_zero, List.set_cons_succ, i64_w, i32_w]
     rfl
    refine take_ (i := 9) (N := some 28) (v := ?_) (a' := ?_) #[false, true, false, false, false, false, false, false, true, true, false, false, false, false, false, true, false, false, false, false, false, false, true, false, false, false, false] rfl rfl (take_ofW HT_.out HW_.out (by kernel_rfl)) (fun _ _ _ h => h) (Or.inl ⟨by rfl, ?_⟩) hHeld ?_ ?_
    rotate_left
    ·
     rintro w' ⟨s0, s1, s2, s3, s4, s5, s6, s7⟩
     go_simp
     with_reducible rfl
    rotate_left
    ·
     simp only [Act.put, List.setIfInBounds_toArray, List.set_cons_zero, List.set_cons_succ, i64_w, i32_w]
     rfl
    refine pure_ (i := 10) (N := some 29) (v := ?_) (a' := ?_) #[false, true, false, false, false, false, false, false, true, true, true, false, false, false, false, true, false, false, false, false, false, false, true, false, false, false, false] rfl rfl (any_of HT_.out (by kernel_rfl)) (fun _ _ _ h => h) (Or.inl ⟨by rfl, ?_⟩) ?_ ?_
    rotate_left
    ·
     intro w'
     go_simp
     with_reducible rfl
    rotate_left
    ·
     simp only [Act.put, List.setIfInBounds_toArray, List.set_cons_zero, List.set_cons_succ, i64_w, i32_w]
     rfl
    refine take_ (i := 18) (N := some 37) (v := ?_) (a' := ?_) #[false, true, false, false, false, false, false, false, true, true, true, false, false, false, false, true, false, false, true, false, false, false, true, false, false, false, false] rfl rfl (take_ofW HT_.out HW_.out (by kernel_rfl)) (fun _ _ _ h => h) (Or.inl ⟨by rfl, ?_⟩) hHeld ?_ ?_
    rotate_left
    ·
     rintro w' ⟨s0, s1, s2, s3, s4, s5, s6, s7⟩
     go_simp
     with_reducible rfl
    rotate_left
    ·
     simp only [Act.put, List.setIfInBounds_toArray, List.set_cons_zero, List.set_cons_succ, i64_w, i32_w]
     rfl
    refine take_ (i := 23) (N := some 42) (v := ?_) (a' := ?_) #[false, true, false, false, false, false, false, false, true, true, true, false, false, false, false, true, false, false, true, false, false, false, true, true, false, false, false] rfl rfl (take_ofW HT_.out HW_.out (by kernel_rfl)) (fun _ _ _ h => h) (Or.inl ⟨by rfl, ?_⟩) hHeld ?_ ?_
    rotate_left
    ·
     rintro w' ⟨s0, s1, s2, s3, s4, s5, s6, s7⟩
     go_simp
     with_reducible rfl
    rotate_left
    ·
     simp only [Act.put, List.setIfInBounds_toArray, List.set_cons_zero, List.set_cons_succ, i64_w, i32_w]
     rfl
    refine one_ (i := 0) (N := some 19) #[true, true, false, false, false, false, false, false, true, true, true, false, false, false, false, true, false, false, true, false, false, false, true, true, false, false, false] rfl rfl (one_of HT_.out (by kernel_rfl)) (by decide) (fun K hK => ?_)
    refine goes_ Tryd.func53 (by kernel_rfl) rfl #[] (by rfl) rfl rfl (by (try simp only [List.map_toArray, List.map_cons, List.map_nil]); first | done | rfl | (simp only [List.length_drop, List.length_take]; rfl)) ?_
    with_reducible refine (impl_days.calls  t150 _ A13.out).mono ?_
    rintro e w34 ⟨v151, rfl, ho0, hb⟩
    refine ⟨_, rfl, ?_⟩
    have n0_ := Aside0.mk (Kd.R_lower ho0 (below_size (by repeat (first | (with_reducible first | exact HB.out | apply below_alloc | apply pw_below_drewN | apply below_drew1 | refine below_set ?_ GE148.out) | exact HB.out))))
    have n1_ := Aside0.mk (blk_below (g := gb148) (o := .cells #[.int .i64 t142, .int .i64 t143, .int .i64 t144, .int .i64 t145, .int .i64 t146, .int .i64 t147] 30 (0, 0)) (by (with_reducible repeat (first | refine blk_drewN ?_ _ | refine blk_drew ?_ | refine blk_alloc ?_ _)); exact BK148.out) hb)
    have n2_ := Aside0.mk (below_step (by repeat (first | (with_reducible first | exact HB.out | apply below_alloc | apply pw_below_drewN | apply below_drew1 | refine below_set ?_ GE148.out) | exact HB.out)) hb)
    clear BK148
    clear HB
    have HO152 := n0_
    have BK148 := n1_
    have HB := n2_
    clear n0_ n1_ n2_
    (try clear hb)
    (try clear hb2)
    (try clear hk)
    (try clear hi)
    (try clear ho0)
    refine hK.out _ _ ⟨(blk_cell BK148.out 0).trans rfl, (blk_cell BK148.out 1).trans rfl, (blk_cell BK148.out 2).trans rfl, (blk_cell BK148.out 3).trans rfl, (blk_cell BK148.out 4).trans rfl, (blk_cell BK148.out 5).trans rfl, trivial, trivial⟩ (fun hHeld => ?_)
    clear hK K
    refine norm_ (a' := ?_) ?_ ?_
    rotate_left
    ·
     show Act.put _ (some 19) _ = _
     simp only [Act.put, List.setIfInBounds_toArray, List.set_cons_zero, List.set_cons_succ, i64_w, i32_w]
     rfl
    refine one_ (i := 2) (N := some 21) #[true, true, true, false, false, false, false, false, true, true, true, false, false, false, false, true, false, false, true, false, false, false, true, true, false, false, false] rfl rfl (one_of HT_.out (by kernel_rfl)) (by decide) (fun K hK => ?_)
    refine goes_ Tryd.func23 (by kernel_rfl) rfl #[.int .i64 a0] (by rfl) rfl rfl (by (try simp only [List.map_toArray, List.map_cons, List.map_nil]); first | done | rfl | (simp only [List.length_drop, List.length_take]; rfl)) ?_
    with_reducible refine (impl_Weekday.calls a0 t153 _ A14.out).mono ?_
    rintro e w' ⟨rfl, ⟨nd, rfl⟩⟩
    refine ⟨_, rfl, ?_⟩
    obtain ⟨Ao35, co35, eo35⟩ := Kd.R_slice HO152.out
    (first | subst eo35 | (injection eo35 with f1_ f2_ f3_; have f4_ := f1_.symm; have f5_ := f3_.symm; clear f1_ f2_ f3_; subst f4_; subst f5_))
    have p154 : 0 ≤ (t153 : Int) := of_decide_eq_true (by first | (with_reducible assumption) | assumption)
    have q154 : t153 < (t150.length : Int) := of_decide_eq_true (by first | (with_reducible assumption) | assumption)
    obtain ⟨ad154, e154, hx154_0⟩ := Kd.at_string (Kd.R_reads' HO152.out).2.2 t153 p154 q154
    cases e154
    replace p154 := eq_true p154
    replace q154 := eq_true q154
    refine hK.out _ _ ⟨(blk_cell BK148.out 0).trans rfl, (blk_cell BK148.out 1).trans rfl, (blk_cell BK148.out 2).trans rfl, (blk_cell BK148.out 3).trans rfl, (blk_cell BK148.out 4).trans rfl, (blk_cell BK148.out 5).trans rfl, trivial, trivial⟩ (fun hHeld => ?_)
    clear hK K
    refine norm_ (a' := ?_) ?_ ?_
    rotate_left
    ·
     show Act.put _ (some 21) _ = _
     simp only [Act.put, List.setIfInBounds_toArray, List.set_cons_zero, List.set_cons_succ, i64_w, i32_w]
     rfl
    refine grow_ (S' := fun w' => w'.cell? ⟨gb148, 0, none⟩ = some (.int .i64 t142) ∧ w'.cell? ⟨gb148, 1, none⟩ = some (.int .i64 t143) ∧ w'.cell? ⟨gb148, 2, none⟩ = some (.int .i64 t144) ∧ w'.cell? ⟨gb148, 3, none⟩ = some (.int .i64 t145) ∧ w'.cell? ⟨gb148, 4, none⟩ = some (.int .i64 t146) ∧ w'.cell? ⟨gb148, 5, none⟩ = some (.int .i64 t147) ∧ w'.cell? (ad154.add (t153).toNat) = some (.string (rdOf ByteArray.empty t150 t153)) ∧ True) (fun w' h_ => ⟨h_.1, h_.2.1, h_.2.2.1, h_.2.2.2.1, h_.2.2.2.2.1, h_.2.2.2.2.2.1, trivial, trivial⟩) ⟨hHeld.1, hHeld.2.1, hHeld.2.2.1, hHeld.2.2.2.1, hHeld.2.2.2.2.1, hHeld.2.2.2.2.2.1, hx154_0, trivial⟩ (fun hHeld => ?_)
    refine pure_ (i := 3) (N := some 22) (v := ?_) (a' := ?_) #[true, true, true, true, false, false, false, false, true, true, true, false, false, false, false, true, false, false, true, false, false, false, true, true, false, false, false] rfl rfl (any_of HT_.out (by kernel_rfl)) (fun _ _ _ h => h) (Or.inl ⟨by rfl, ?_⟩) ?_ ?_
    rotate_left
    ·
     intro w'
     go_simp
     with_reducible rfl
    rotate_left
    ·
     simp only [Act.put, List.setIfInBounds_toArray, List.set_cons_zero, List.set_cons_succ, i64_w, i32_w]
     rfl
    refine take_ (i := 4) (N := some 23) (v := ?_) (a' := ?_) #[true, true, true, true, true, false, false, false, true, true, true, false, false, false, false, true, false, false, true, false, false, false, true, true, false, false, false] rfl rfl (take_ofW HT_.out HW_.out (by kernel_rfl)) (fun _ _ _ h => h) (Or.inl ⟨by rfl, ?_⟩) hHeld ?_ ?_
    rotate_left
    ·
     rintro w' ⟨s0, s1, s2, s3, s4, s5, s6, s7⟩
     go_simp
     with_reducible rfl
    rotate_left
    ·
     simp only [Act.put, List.setIfInBounds_toArray, List.set_cons_zero, List.set_cons_succ, i64_w, i32_w]
     rfl
    refine pure_ (i := 5) (N := some 24) (v := ?_) (a' := ?_) #[true, true, true, true, true, true, false, false, true, true, true, false, false, false, false, true, false, false, true, false, false, false, true, true, false, false, false] rfl rfl (any_of HT_.out (by kernel_rfl)) (fun _ _ _ h => h) (Or.inl ⟨by rfl, ?_⟩) ?_ ?_
    rotate_left
    ·
     intro w'
     go_simp
     with_reducible rfl
    rotate_left
    ·
     simp only [Act.put, List.setIfInBounds_toArray, List.set_cons_zero, List.set_cons_succ, i64_w, i32_w]
     rfl
    refine pure_ (i := 6) (N := some 25) (v := ?_) (a' := ?_) #[true, true, true, true, true, true, true, false, true, true, true, false, false, false, false, true, false, false, true, false, false, false, true, true, false, false, false] rfl rfl (any_of HT_.out (by kernel_rfl)) (fun _ _ _ h => h) (Or.inl ⟨by rfl, ?_⟩) ?_ ?_
    rotate_left
    ·
     intro w'
     go_simp
     with_reducible rfl
    rotate_left
    ·
     simp only [Act.put, List.setIfInBounds_toArray, List.set_cons_zero, List.set_cons_succ, i64_w, i32_w]
     rfl
    refine one_ (i := 7) (N := some 26) #[true, true, true, true, true, true, true, true, true, true, true, false, false, false, false, true, false, false, true, false, false, false, true, true, false, false, false] rfl rfl (one_of HT_.out (by kernel_rfl)) (by decide) (fun K hK => ?_)
    refine goes_ Tryd.func55 (by kernel_rfl) rfl #[] (by rfl) rfl rfl (by (try simp only [List.map_toArray, List.map_cons, List.map_nil]); first | done | rfl | (simp only [List.length_drop, List.length_take]; rfl)) ?_
    with_reducible refine (impl_months.calls  t155 _ A20.out).mono ?_
    rintro e w36 ⟨v156, rfl, ho0, hb⟩
    have HS6_ := (hb.cell (World.block_lt_of_cell? _ _ (hHeld.2.2.2.2.2.2.1))).trans (hHeld.2.2.2.2.2.2.1)
    refine ⟨_, rfl, ?_⟩
    have n0_ := Aside0.mk (Kd.R_elder' (by (with_reducible repeat (first | apply Kd.R_alloc | apply Kd.R_drewN | apply Kd.R_drew)); exact HO152.out) (Kd.R_base ho0) hb)
    have n1_ := Aside0.mk (Kd.R_lower (Kd.R_new' ho0 (Kd.R_lt (by (with_reducible repeat (first | apply Kd.R_alloc | apply Kd.R_drewN | apply Kd.R_drew)); exact HO152.out))) (below_size (by repeat (first | (with_reducible first | exact HB.out | apply below_alloc | apply pw_below_drewN | apply below_drew1 | refine below_set ?_ GE148.out) | exact HB.out))))
    have n2_ := Aside0.mk (blk_below (g := gb148) (o := .cells #[.int .i64 t142, .int .i64 t143, .int .i64 t144, .int .i64 t145, .int .i64 t146, .int .i64 t147] 30 (0, 0)) (by (with_reducible repeat (first | refine blk_drewN ?_ _ | refine blk_drew ?_ | refine blk_alloc ?_ _)); exact BK148.out) hb)
    have n3_ := Aside0.mk (below_step (by repeat (first | (with_reducible first | exact HB.out | apply below_alloc | apply pw_below_drewN | apply below_drew1 | refine below_set ?_ GE148.out) | exact HB.out)) hb)
    clear HO152
    clear BK148
    clear HB
    have HO152 := n0_
    have HO157 := n1_
    have BK148 := n2_
    have HB := n3_
    clear n0_ n1_ n2_ n3_
    (try clear hb)
    (try clear hb2)
    (try clear hk)
    (try clear hi)
    (try clear ho0)
    obtain ⟨Ao37, co37, eo37⟩ := Kd.R_slice HO157.out
    (first | subst eo37 | (injection eo37 with f1_ f2_ f3_; have f4_ := f1_.symm; have f5_ := f3_.symm; clear f1_ f2_ f3_; subst f4_; subst f5_))
    have p158 : 0 ≤ ((ji21) : Int) := of_decide_eq_true (by first | (with_reducible assumption) | assumption)
    have q158 : (ji21) < (t155.length : Int) := of_decide_eq_true (by first | (with_reducible assumption) | assumption)
    obtain ⟨ad158, e158, hx158_0⟩ := Kd.at_string (Kd.R_reads' HO157.out).2.2 (ji21) p158 q158
    cases e158
    replace p158 := eq_true p158
    replace q158 := eq_true q158
    refine hK.out _ _ ⟨(blk_cell BK148.out 0).trans rfl, (blk_cell BK148.out 1).trans rfl, (blk_cell BK148.out 2).trans rfl, (blk_cell BK148.out 3).trans rfl, (blk_cell BK148.out 4).trans rfl, (blk_cell BK148.out 5).trans rfl, HS6_, trivial⟩ (fun hHeld => ?_)
    clear hK K
    refine norm_ (a' := ?_) ?_ ?_
    rotate_left
    ·
     show Act.put _ (some 26) _ = _
     simp only [Act.put, List.setIfInBounds_toArray, List.set_cons_zero, List.set_cons_succ, i64_w, i32_w]
     rfl
    refine grow_ (S' := fun w' => w'.cell? ⟨gb148, 0, none⟩ = some (.int .i64 t142) ∧ w'.cell? ⟨gb148, 1, none⟩ = some (.int .i64 t143) ∧ w'.cell? ⟨gb148, 2, none⟩ = some (.int .i64 t144) ∧ w'.cell? ⟨gb148, 3, none⟩ = some (.int .i64 t145) ∧ w'.cell? ⟨gb148, 4, none⟩ = some (.int .i64 t146) ∧ w'.cell? ⟨gb148, 5, none⟩ = some (.int .i64 t147) ∧ w'.cell? (ad154.add (t153).toNat) = some (.string (rdOf ByteArray.empty t150 t153)) ∧ w'.cell? (ad158.add ((ji21)).toNat) = some (.string (rdOf ByteArray.empty t155 (ji21)))) (fun w' h_ => ⟨h_.1, h_.2.1, h_.2.2.1, h_.2.2.2.1, h_.2.2.2.2.1, h_.2.2.2.2.2.1, h_.2.2.2.2.2.2.1, trivial⟩) ⟨hHeld.1, hHeld.2.1, hHeld.2.2.1, hHeld.2.2.2.1, hHeld.2.2.2.2.1, hHeld.2.2.2.2.2.1, hHeld.2.2.2.2.2.2.1, hx158_0⟩ (fun hHeld => ?_)
    refine pure_ (i := 11) (N := some 30) (v := ?_) (a' := ?_) #[true, true, true, true, true, true, true, true, true, true, true, true, false, false, false, true, false, false, true, false, false, false, true, true, false, false, false] rfl rfl (any_of HT_.out (by kernel_rfl)) (fun _ _ _ h => h) (Or.inl ⟨by rfl, ?_⟩) ?_ ?_
    rotate_left
    ·
     intro w'
     go_simp
     with_reducible rfl
    rotate_left
    ·
     simp only [Act.put, List.setIfInBounds_toArray, List.set_cons_zero, List.set_cons_succ, i64_w, i32_w]
     rfl
    refine take_ (i := 12) (N := some 31) (v := ?_) (a' := ?_) #[true, true, true, true, true, true, true, true, true, true, true, true, true, false, false, true, false, false, true, false, false, false, true, true, false, false, false] rfl rfl (take_ofW HT_.out HW_.out (by kernel_rfl)) (fun _ _ _ h => h) (Or.inl ⟨by rfl, ?_⟩) hHeld ?_ ?_
    rotate_left
    ·
     rintro w' ⟨s0, s1, s2, s3, s4, s5, s6, s7⟩
     go_simp
     with_reducible rfl
    rotate_left
    ·
     simp only [Act.put, List.setIfInBounds_toArray, List.set_cons_zero, List.set_cons_succ, i64_w, i32_w]
     rfl
    refine pure_ (i := 13) (N := some 32) (v := ?_) (a' := ?_) #[true, true, true, true, true, true, true, true, true, true, true, true, true, true, false, true, false, false, true, false, false, false, true, true, false, false, false] rfl rfl (any_of HT_.out (by kernel_rfl)) (fun _ _ _ h => h) (Or.inl ⟨by rfl, ?_⟩) ?_ ?_
    rotate_left
    ·
     intro w'
     go_simp
     with_reducible rfl
    rotate_left
    ·
     simp only [Act.put, List.setIfInBounds_toArray, List.set_cons_zero, List.set_cons_succ, i64_w, i32_w]
     rfl
    refine pure_ (i := 14) (N := some 33) (v := ?_) (a' := ?_) #[true, true, true, true, true, true, true, true, true, true, true, true, true, true, true, true, false, false, true, false, false, false, true, true, false, false, false] rfl rfl (any_of HT_.out (by kernel_rfl)) (fun _ _ _ h => h) (Or.inl ⟨by rfl, ?_⟩) ?_ ?_
    rotate_left
    ·
     intro w'
     go_simp
     with_reducible rfl
    rotate_left
    ·
     simp only [Act.put, List.setIfInBounds_toArray, List.set_cons_zero, List.set_cons_succ, i64_w, i32_w]
     rfl
    refine pure_ (i := 16) (N := some 35) (v := ?_) (a' := ?_) #[true, true, true, true, true, true, true, true, true, true, true, true, true, true, true, true, true, false, true, false, false, false, true, true, false, false, false] rfl rfl (any_of HT_.out (by kernel_rfl)) (fun _ _ _ h => h) (Or.inl ⟨by rfl, ?_⟩) ?_ ?_
    rotate_left
    ·
     intro w'
     go_simp
     with_reducible rfl
    rotate_left
    ·
     simp only [Act.put, List.setIfInBounds_toArray, List.set_cons_zero, List.set_cons_succ, i64_w, i32_w]
     rfl
    refine pure_ (i := 17) (N := some 36) (v := ?_) (a' := ?_) #[true, true, true, true, true, true, true, true, true, true, true, true, true, true, true, true, true, true, true, false, false, false, true, true, false, false, false] rfl rfl (any_of HT_.out (by kernel_rfl)) (fun _ _ _ h => h) (Or.inl ⟨by rfl, ?_⟩) ?_ ?_
    rotate_left
    ·
     intro w'
     go_simp
     with_reducible rfl
    rotate_left
    ·
     simp only [Act.put, List.setIfInBounds_toArray, List.set_cons_zero, List.set_cons_succ, i64_w, i32_w]
     rfl
    refine one_ (i := 19) (N := some 38) #[true, true, true, true, true, true, true, true, true, true, true, true, true, true, true, true, true, true, true, true, false, false, true, true, false, false, false] rfl rfl (one_of HT_.out (by kernel_rfl)) (by decide) (fun K hK => ?_)
    refine goes_ Tryd.func56 (by kernel_rfl) rfl #[.agg #[.int .i64 t142, .int .i64 t143, .int .i64 t144, .int .i64 t145, .int .i64 t146, .int .i64 t147]] (by rfl) rfl rfl (by (try simp only [List.map_toArray, List.map_cons, List.map_nil]); first | done | rfl | (simp only [List.length_drop, List.length_take]; rfl)) ?_
    with_reducible refine (impl_clock.calls t142 t143 t144 t145 t146 t147 t159 _ A28.out).mono ?_
    rintro e w38 ⟨rfl, hb⟩
    have HS6_ := (hb.cell (World.block_lt_of_cell? _ _ (hHeld.2.2.2.2.2.2.1))).trans (hHeld.2.2.2.2.2.2.1)
    have HS7_ := (hb.cell (World.block_lt_of_cell? _ _ (hHeld.2.2.2.2.2.2.2))).trans (hHeld.2.2.2.2.2.2.2)
    refine ⟨_, rfl, ?_⟩
    have n0_ := Aside0.mk (Kd.R_below (by (with_reducible repeat (first | apply Kd.R_alloc | apply Kd.R_drewN | apply Kd.R_drew)); exact HO152.out) hb)
    have n1_ := Aside0.mk (Kd.R_below (by (with_reducible repeat (first | apply Kd.R_alloc | apply Kd.R_drewN | apply Kd.R_drew)); exact HO157.out) hb)
    have n2_ := Aside0.mk (blk_below (g := gb148) (o := .cells #[.int .i64 t142, .int .i64 t143, .int .i64 t144, .int .i64 t145, .int .i64 t146, .int .i64 t147] 30 (0, 0)) (by (with_reducible repeat (first | refine blk_drewN ?_ _ | refine blk_drew ?_ | refine blk_alloc ?_ _)); exact BK148.out) hb)
    have n3_ := Aside0.mk (below_step (by repeat (first | (with_reducible first | exact HB.out | apply below_alloc | apply pw_below_drewN | apply below_drew1 | refine below_set ?_ GE148.out) | exact HB.out)) hb)
    clear HO152
    clear HO157
    clear BK148
    clear HB
    have HO152 := n0_
    have HO157 := n1_
    have BK148 := n2_
    have HB := n3_
    clear n0_ n1_ n2_ n3_
    (try clear hb)
    (try clear hb2)
    (try clear hk)
    (try clear hi)
    refine hK.out _ _ ⟨(blk_cell BK148.out 0).trans rfl, (blk_cell BK148.out 1).trans rfl, (blk_cell BK148.out 2).trans rfl, (blk_cell BK148.out 3).trans rfl, (blk_cell BK148.out 4).trans rfl, (blk_cell BK148.out 5).trans rfl, HS6_, HS7_⟩ (fun hHeld => ?_)
    clear hK K
    refine norm_ (a' := ?_) ?_ ?_
    rotate_left
    ·
     show Act.put _ (some 38) _ = _
     simp only [Act.put, List.setIfInBounds_toArray, List.set_cons_zero, List.set_cons_succ, i64_w, i32_w]
     rfl
    refine pure_ (i := 20) (N := some 39) (v := ?_) (a' := ?_) #[true, true, true, true, true, true, true, true, true, true, true, true, true, true, true, true, true, true, true, true, true, false, true, true, false, false, false] rfl rfl (any_of HT_.out (by kernel_rfl)) (fun _ _ _ h => h) (Or.inl ⟨by rfl, ?_⟩) ?_ ?_
    rotate_left
    ·
     intro w'
     go_simp
     with_reducible rfl
    rotate_left
    ·
     simp only [Act.put, List.setIfInBounds_toArray, List.set_cons_zero, List.set_cons_succ, i64_w, i32_w]
     rfl
    refine pure_ (i := 21) (N := some 40) (v := ?_) (a' := ?_) #[true, true, true, true, true, true, true, true, true, true, true, true, true, true, true, true, true, true, true, true, true, true, true, true, false, false, false] rfl rfl (any_of HT_.out (by kernel_rfl)) (fun _ _ _ h => h) (Or.inl ⟨by rfl, ?_⟩) ?_ ?_
    rotate_left
    ·
     intro w'
     go_simp
     with_reducible rfl
    rotate_left
    ·
     simp only [Act.put, List.setIfInBounds_toArray, List.set_cons_zero, List.set_cons_succ, i64_w, i32_w]
     rfl
    refine one_ (i := 24) (N := some 43) #[true, true, true, true, true, true, true, true, true, true, true, true, true, true, true, true, true, true, true, true, true, true, true, true, true, false, false] rfl rfl (one_of HT_.out (by kernel_rfl)) (by decide) (fun K hK => ?_)
    refine goes_ Tryd.func54 (by kernel_rfl) rfl #[.int .i64 t142, .int .i64 4] (by rfl) rfl rfl (by (try simp only [List.map_toArray, List.map_cons, List.map_nil]); first | done | rfl | (simp only [List.length_drop, List.length_take]; rfl)) ?_
    with_reducible refine (impl_digits.calls t142 4 t160 _ A31.out).mono ?_
    rintro e w' ⟨rfl, ⟨nd, rfl⟩⟩
    refine ⟨_, rfl, ?_⟩
    refine hK.out _ _ ⟨(blk_cell BK148.out 0).trans rfl, (blk_cell BK148.out 1).trans rfl, (blk_cell BK148.out 2).trans rfl, (blk_cell BK148.out 3).trans rfl, (blk_cell BK148.out 4).trans rfl, (blk_cell BK148.out 5).trans rfl, hHeld.2.2.2.2.2.2.1, hHeld.2.2.2.2.2.2.2⟩ (fun hHeld => ?_)
    clear hK K
    refine norm_ (a' := ?_) ?_ ?_
    rotate_left
    ·
     show Act.put _ (some 43) _ = _
     simp only [Act.put, List.setIfInBounds_toArray, List.set_cons_zero, List.set_cons_succ, i64_w, i32_w]
     rfl
    refine pure_ (i := 25) (N := some 44) (v := ?_) (a' := ?_) #[true, true, true, true, true, true, true, true, true, true, true, true, true, true, true, true, true, true, true, true, true, true, true, true, true, true, false] rfl rfl (any_of HT_.out (by kernel_rfl)) (fun _ _ _ h => h) (Or.inl ⟨by rfl, ?_⟩) ?_ ?_
    rotate_left
    ·
     intro w'
     go_simp
     with_reducible rfl
    rotate_left
    ·
     simp only [Act.put, List.setIfInBounds_toArray, List.set_cons_zero, List.set_cons_succ, i64_w, i32_w]
     rfl
    refine pure_ (i := 26) (N := some 2) (v := ?_) (a' := ?_) #[true, true, true, true, true, true, true, true, true, true, true, true, true, true, true, true, true, true, true, true, true, true, true, true, true, true, true] rfl rfl (any_of HT_.out (by kernel_rfl)) (fun _ _ _ h => h) (Or.inl ⟨by rfl, ?_⟩) ?_ ?_
    rotate_left
    ·
     intro w'
     go_simp
     with_reducible rfl
    rotate_left
    ·
     simp only [Act.put, List.setIfInBounds_toArray, List.set_cons_zero, List.set_cons_succ, i64_w, i32_w]
     rfl
    refine done_ (done_of HT_.out (by kernel_rfl)) ?_
    try go_wp2
    go_ret
    exact ⟨by first | rfl | (simp [errW_none, errW_some] <;> rfl) | (simp only [← hji21]; first | rfl | (simp [errW_none, errW_some] <;> rfl)) | (simp [*, errW_none, errW_some] <;> rfl), by repeat (first | (with_reducible first | exact HB.out | apply below_alloc | apply pw_below_drewN | apply below_drew1 | refine below_set ?_ GE148.out) | exact HB.out)⟩
 ·
  replace c3 := Bool.eq_false_iff.mpr c3
  subst c3
  have H1 : (some (⟨#[]⟩ : ByteArray)) = some r := by rw [if_neg (show ¬ (false = true) by decide)] at H; exact H
  clear H
  have H := H1
  clear H1
  obtain rfl := Option.some.inj H
  go_enter Tryd.func31, Tryd.ntmps31
  go_wp2_with (first | ((with_reducible refine gate_callee (f := 45) rfl ?_); refine goesL_ (some 6) rfl rfl Tryd.func45 (by kernel_rfl) rfl #[.int .i64 a0] rfl (by (try simp only [List.map_toArray, List.map_cons, List.map_nil]); first | done | rfl | (simp only [List.length_drop, List.length_take]; rfl)) ?_; (with_reducible refine (impl_isTime.calls a0 false _ A2.out).mono ?_); rintro e w' ⟨rfl, ⟨nd, rfl⟩⟩; refine ⟨_, rfl, ?_⟩))
  go_ret
  exact ⟨by first | rfl | (simp [errW_none, errW_some] <;> rfl) | (simp [*, errW_none, errW_some] <;> rfl), by repeat (first | (with_reducible first | exact HB.out | apply below_alloc | apply pw_below_drewN | apply below_drew1) | exact HB.out)⟩

/-! ### laws_FnExactLineDate: function 9 -/
def laws_FnExactLineDate.f (k : Nat) (a0 : Int) : Option (Bool) := (spec_LineDate.f k a0).bind fun t161 => ((impl_LineDate.f k a0).bind fun t162 => (if t162.toList = t161.toList then (some true) else (some false)))
theorem laws_FnExactLineDate.mono : ∀ a0 k, LeO (laws_FnExactLineDate.f k a0) (laws_FnExactLineDate.f (k + 1) a0) := by
 intro a0 k
 unfold laws_FnExactLineDate.f
 repeat' first
   | (with_reducible exact impl_LineDate.mono _ _)
   | (with_reducible exact spec_LineDate.mono _ _)
   | (with_reducible exact LeO.refl _)
   | (with_reducible exact LeO.none _)
   | (with_reducible refine LeO.ite ?_ ?_)
   | (with_reducible refine LeO.bind ?_ (fun _ => ?_))
   | exact impl_LineDate.mono _ _
   | exact spec_LineDate.mono _ _
   | exact LeO.none _
   | refine LeO.ite ?_ ?_
   | refine LeO.bind ?_ (fun _ => ?_)
set_option maxHeartbeats 8000000 in
set_option maxRecDepth 100000 in
theorem laws_FnExactLineDate.calls (k : Nat) (a0 : Int) (r : Bool) (w : World) (h : laws_FnExactLineDate.f k a0 = some r) :
  Calls Tryd.prog 9 #[.int .i64 a0] w fun e w' => e = .returned (.bool r) ∧ Below w.heap.size w w' := by
 have HB := Aside0.mk (Below.refl w.heap.size w)
 have H : ((spec_LineDate.f k a0).bind fun t161 => ((impl_LineDate.f k a0).bind fun t162 => (if t162.toList = t161.toList then (some true) else (some false)))) = some r := h
 clear h
 replace H := Option.bind_eq_some_iff.mp H
 obtain ⟨t161, A20, H⟩ := H
 replace H : ((impl_LineDate.f k a0).bind fun t162 => (if t162.toList = t161.toList then (some true) else (some false))) = some r := H
 have A2 := Aside0.mk A20
 clear A20
 replace H := Option.bind_eq_some_iff.mp H
 obtain ⟨t162, A30, H⟩ := H
 replace H : (if t162.toList = t161.toList then (some true) else (some false)) = some r := H
 have A3 := Aside0.mk A30
 clear A30
 by_cases c4 : t162.toList = t161.toList
 ·
  rw [if_pos c4] at H
  have c4b0 : (t162.toList == t161.toList) = true := beq_iff_eq.mpr c4
  have c4b1 : (t162.toList != t161.toList) = false := bne_eq_false_iff_eq.mpr c4
  clear c4
  obtain rfl := Option.some.inj H
  go_enter Tryd.func9, Tryd.ntmps9
  go_wp2_with (first | ((with_reducible refine gate_callee (f := 30) rfl ?_); refine goesL_ (some 6) rfl rfl Tryd.func30 (by kernel_rfl) rfl #[.int .i64 a0] rfl (by (try simp only [List.map_toArray, List.map_cons, List.map_nil]); first | done | rfl | (simp only [List.length_drop, List.length_take]; rfl)) ?_; (with_reducible refine (spec_LineDate.calls k a0 t161 _ A2.out).mono ?_); rintro e w5 ⟨rfl, hb⟩; refine ⟨_, rfl, ?_⟩; have n0_ := Aside0.mk (below_step (by repeat (first | (with_reducible first | exact HB.out | apply below_alloc | apply pw_below_drewN | apply below_drew1) | exact HB.out)) hb); clear HB; have HB := n0_; clear n0_; (try clear hb); (try clear hb2); (try clear hk); (try clear hi)) | ((with_reducible refine gate_callee (f := 31) rfl ?_); refine goesL_ (some 8) rfl rfl Tryd.func31 (by kernel_rfl) rfl #[.int .i64 a0] rfl (by (try simp only [List.map_toArray, List.map_cons, List.map_nil]); first | done | rfl | (simp only [List.length_drop, List.length_take]; rfl)) ?_; (with_reducible refine (impl_LineDate.calls k a0 t162 _ A3.out).mono ?_); rintro e w6 ⟨rfl, hb⟩; refine ⟨_, rfl, ?_⟩; have n0_ := Aside0.mk (below_step (by repeat (first | (with_reducible first | exact HB.out | apply below_alloc | apply pw_below_drewN | apply below_drew1) | exact HB.out)) hb); clear HB; have HB := n0_; clear n0_; (try clear hb); (try clear hb2); (try clear hk); (try clear hi)))
  go_ret
  exact ⟨by first | rfl | (simp [errW_none, errW_some] <;> rfl) | (simp [*, errW_none, errW_some] <;> rfl), by repeat (first | (with_reducible first | exact HB.out | apply below_alloc | apply pw_below_drewN | apply below_drew1) | exact HB.out)⟩
 ·
  rw [if_neg c4] at H
  have c4b0 : (t162.toList == t161.toList) = false := beq_eq_false_iff_ne.mpr c4
  have c4b1 : (t162.toList != t161.toList) = true := bne_iff_ne.mpr c4
  obtain rfl := Option.some.inj H
  go_enter Tryd.func9, Tryd.ntmps9
  go_wp2_with (first | ((with_reducible refine gate_callee (f := 30) rfl ?_); refine goesL_ (some 6) rfl rfl Tryd.func30 (by kernel_rfl) rfl #[.int .i64 a0] rfl (by (try simp only [List.map_toArray, List.map_cons, List.map_nil]); first | done | rfl | (simp only [List.length_drop, List.length_take]; rfl)) ?_; (with_reducible refine (spec_LineDate.calls k a0 t161 _ A2.out).mono ?_); rintro e w7 ⟨rfl, hb⟩; refine ⟨_, rfl, ?_⟩; have n0_ := Aside0.mk (below_step (by repeat (first | (with_reducible first | exact HB.out | apply below_alloc | apply pw_below_drewN | apply below_drew1) | exact HB.out)) hb); clear HB; have HB := n0_; clear n0_; (try clear hb); (try clear hb2); (try clear hk); (try clear hi)) | ((with_reducible refine gate_callee (f := 31) rfl ?_); refine goesL_ (some 8) rfl rfl Tryd.func31 (by kernel_rfl) rfl #[.int .i64 a0] rfl (by (try simp only [List.map_toArray, List.map_cons, List.map_nil]); first | done | rfl | (simp only [List.length_drop, List.length_take]; rfl)) ?_; (with_reducible refine (impl_LineDate.calls k a0 t162 _ A3.out).mono ?_); rintro e w8 ⟨rfl, hb⟩; refine ⟨_, rfl, ?_⟩; have n0_ := Aside0.mk (below_step (by repeat (first | (with_reducible first | exact HB.out | apply below_alloc | apply pw_below_drewN | apply below_drew1) | exact HB.out)) hb); clear HB; have HB := n0_; clear n0_; (try clear hb); (try clear hb2); (try clear hk); (try clear hi)))
  go_ret
  exact ⟨by first | rfl | (simp [errW_none, errW_some] <;> rfl) | (simp [*, errW_none, errW_some] <;> rfl), by repeat (first | (with_reducible first | exact HB.out | apply below_alloc | apply pw_below_drewN | apply below_drew1) | exact HB.out)⟩

/-- THE ONE PURE STATEMENT of laws_FnExactLineDate: yours. -/
def laws_FnExactLineDate.Pure : Prop := ∀ (a0 : Int), (Lit.int .i64 a0).wf = true → ∃ k, laws_FnExactLineDate.f k a0 = some true
theorem laws_FnExactLineDate.walk (P : laws_FnExactLineDate.Pure) (a0 : Int) (w : World) (w0 : (Lit.int .i64 a0).wf = true) :
  Calls Tryd.prog 9 #[.int .i64 a0] w fun e w' => e = .returned (.bool true) ∧ Below w.heap.size w w' := by
 obtain ⟨k, h⟩ := P a0 w0
 refine (laws_FnExactLineDate.calls k a0 true w h).mono ?_
 rintro e w' ⟨rfl, hd⟩
 exact ⟨rfl, hd⟩

end Go.Proofs.YtgjbhdfncappdaaDoor.PFnExactLineDate
