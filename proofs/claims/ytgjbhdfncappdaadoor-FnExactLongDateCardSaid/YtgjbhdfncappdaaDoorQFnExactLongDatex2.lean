-- Written by a program of this session.
import Derived.Test.YtgjbhdfncappdaaDoorQFnExactLongDatex0
import Derived.Test.YtgjbhdfncappdaaDoorQFnExactLongDatex1
namespace Go.Proofs.YtgjbhdfncappdaaDoor.PFnExactLongDate
open Go.Proofs.YtgjbhdfncappdaaDoor.Foreign
open Go.RowKit Go.Proofs.YtgjbhdfncappdaaDoorW.PrintWords Go.Proofs.YtgjbhdfncappdaaDoorW.PrintLast Go.Proofs.YtgjbhdfncappdaaDoorW.PrintMore
attribute [local go_sem] max2_int min2_int max_two min_two max_three min_three max_four min_four   -- for this text's walks alone
set_option linter.unusedVariables false
set_option linter.unusedSimpArgs false

/-! ### spec_l2monthName: function 52 -/
def spec_l2monthName.f (a0 : Int) : Option (ByteArray) := if 0 ≤ (wrap64 ((wrap64 (3 * a0)) - 3)) then (if (wrap64 ((wrap64 (3 * a0)) - 3)) ≤ (wrap64 (3 * a0)) then (if (wrap64 (3 * a0)) ≤ 36 then (some ((⟨#[74, 97, 110, 70, 101, 98, 77, 97, 114, 65, 112, 114, 77, 97, 121, 74, 117, 110, 74, 117, 108, 65, 117, 103, 83, 101, 112, 79, 99, 116, 78, 111, 118, 68, 101, 99]⟩ : ByteArray).extract ((wrap64 ((wrap64 (3 * a0)) - 3)) : Int).toNat ((wrap64 (3 * a0)) : Int).toNat)) else (none)) else (none)) else (none)
set_option maxHeartbeats 8000000 in
set_option maxRecDepth 100000 in
theorem spec_l2monthName.calls (a0 : Int) (r : ByteArray) (w : World) (h : spec_l2monthName.f a0 = some r) :
  Calls Tryd.prog 52 #[.int .i64 a0] w fun e w' => e = .returned (.string r) ∧ Drawn0 w w' := by
 have H : (if 0 ≤ (wrap64 ((wrap64 (3 * a0)) - 3)) then (if (wrap64 ((wrap64 (3 * a0)) - 3)) ≤ (wrap64 (3 * a0)) then (if (wrap64 (3 * a0)) ≤ 36 then (some ((⟨#[74, 97, 110, 70, 101, 98, 77, 97, 114, 65, 112, 114, 77, 97, 121, 74, 117, 110, 74, 117, 108, 65, 117, 103, 83, 101, 112, 79, 99, 116, 78, 111, 118, 68, 101, 99]⟩ : ByteArray).extract ((wrap64 ((wrap64 (3 * a0)) - 3)) : Int).toNat ((wrap64 (3 * a0)) : Int).toNat)) else (none)) else (none)) else (none)) = some r := h
 clear h
 obtain ⟨ji2, hji2⟩ : ∃ j_ : Int, (wrap64 ((wrap64 (3 * a0)) - 3)) = j_ := ⟨_, rfl⟩
 replace H : (if 0 ≤ (ji2) then (if (ji2) ≤ (wrap64 (3 * a0)) then (if (wrap64 (3 * a0)) ≤ 36 then (some ((⟨#[74, 97, 110, 70, 101, 98, 77, 97, 114, 65, 112, 114, 77, 97, 121, 74, 117, 110, 74, 117, 108, 65, 117, 103, 83, 101, 112, 79, 99, 116, 78, 111, 118, 68, 101, 99]⟩ : ByteArray).extract ((ji2) : Int).toNat ((wrap64 (3 * a0)) : Int).toNat)) else (none)) else (none)) else (none)) = some r := by first | (rw [hji2] at H; exact H) | (simp only [hji2] at H ⊢; exact H)
 have hji2w : (IntKind.i64.wrap ((wrap64 (3 * a0)) - 3)) = ji2 := (i64_w _).trans hji2
 have c3 : 0 ≤ (ji2) := Classical.byContradiction fun h_ => by rw [if_neg h_] at H; exact absurd H (by simp)
 rw [if_pos c3] at H
 have c3b0 := eq_true c3
 have c3b1 : decide (0 ≤ (ji2)) = true := decide_eq_true c3
 clear c3
 have c4 : (ji2) ≤ (wrap64 (3 * a0)) := Classical.byContradiction fun h_ => by rw [if_neg h_] at H; exact absurd H (by simp)
 rw [if_pos c4] at H
 have c4b0 := eq_true c4
 have c4b1 : decide ((ji2) ≤ (wrap64 (3 * a0))) = true := decide_eq_true c4
 clear c4
 have c5 : (wrap64 (3 * a0)) ≤ 36 := Classical.byContradiction fun h_ => by rw [if_neg h_] at H; exact absurd H (by simp)
 rw [if_pos c5] at H
 have c5b0 := eq_true c5
 have c5b1 : decide ((wrap64 (3 * a0)) ≤ 36) = true := decide_eq_true c5
 clear c5
 obtain rfl := Option.some.inj H
 go_enter Tryd.func52, Tryd.ntmps52
 go_wp2
 go_ret
 exact ⟨by first | rfl | (simp; done) | (simp only [← hji2] <;> (first | rfl | simp)) | (simp [*]; done), by repeat (first | exact Drawn0.refl _ | apply Drawn0.step)⟩

/-! ### spec_LongDate: function 28 -/
def spec_LongDate.j0 : Nat → Int → Bool → Int → Int → Int → Int → Int → Int → Option (ByteArray)
 | 0, _, _, _, _, _, _, _, _ => none
 | k + 1, x0, x16, x122000, x122001, x122002, x122003, x122004, x122005 => if x16 = true then (some (⟨#[]⟩ : ByteArray)) else ((spec_Weekday.f x0).bind fun t122 => ((spec_l2dayName.f t122).bind fun t123 => (if t123.size + 2 ≤ 9223372036854775807 then ((spec_l2pad.f k x122002 2).bind fun t124 => (if (t123 ++ (⟨#[44, 32]⟩ : ByteArray)).size + t124.size ≤ 9223372036854775807 then (if ((t123 ++ (⟨#[44, 32]⟩ : ByteArray)) ++ t124).size + 1 ≤ 9223372036854775807 then ((spec_l2monthName.f x122001).bind fun t125 => (if (((t123 ++ (⟨#[44, 32]⟩ : ByteArray)) ++ t124) ++ (⟨#[45]⟩ : ByteArray)).size + t125.size ≤ 9223372036854775807 then (if ((((t123 ++ (⟨#[44, 32]⟩ : ByteArray)) ++ t124) ++ (⟨#[45]⟩ : ByteArray)) ++ t125).size + 1 ≤ 9223372036854775807 then ((spec_l2pad.f k (Int.tmod x122000 100) 2).bind fun t126 => (if (((((t123 ++ (⟨#[44, 32]⟩ : ByteArray)) ++ t124) ++ (⟨#[45]⟩ : ByteArray)) ++ t125) ++ (⟨#[45]⟩ : ByteArray)).size + t126.size ≤ 9223372036854775807 then (if ((((((t123 ++ (⟨#[44, 32]⟩ : ByteArray)) ++ t124) ++ (⟨#[45]⟩ : ByteArray)) ++ t125) ++ (⟨#[45]⟩ : ByteArray)) ++ t126).size + 1 ≤ 9223372036854775807 then ((spec_l2clock.f k x122000 x122001 x122002 x122003 x122004 x122005).bind fun t127 => (if (((((((t123 ++ (⟨#[44, 32]⟩ : ByteArray)) ++ t124) ++ (⟨#[45]⟩ : ByteArray)) ++ t125) ++ (⟨#[45]⟩ : ByteArray)) ++ t126) ++ (⟨#[32]⟩ : ByteArray)).size + t127.size ≤ 9223372036854775807 then (if ((((((((t123 ++ (⟨#[44, 32]⟩ : ByteArray)) ++ t124) ++ (⟨#[45]⟩ : ByteArray)) ++ t125) ++ (⟨#[45]⟩ : ByteArray)) ++ t126) ++ (⟨#[32]⟩ : ByteArray)) ++ t127).size + 4 ≤ 9223372036854775807 then (some (((((((((t123 ++ (⟨#[44, 32]⟩ : ByteArray)) ++ t124) ++ (⟨#[45]⟩ : ByteArray)) ++ t125) ++ (⟨#[45]⟩ : ByteArray)) ++ t126) ++ (⟨#[32]⟩ : ByteArray)) ++ t127) ++ (⟨#[32, 71, 77, 84]⟩ : ByteArray))) else (none)) else (none))) else (none)) else (none))) else (none)) else (none))) else (none)) else (none))) else (none))))
def spec_LongDate.f (k : Nat) (a0 : Int) : Option (ByteArray) := (spec_CivilOf.f a0).bind fun bt114 => (if bt114.2.2.2.2.2.2 = true then (spec_LongDate.j0 k a0 (decide (bt114.1 > 2069)) bt114.1 bt114.2.1 bt114.2.2.1 bt114.2.2.2.1 bt114.2.2.2.2.1 bt114.2.2.2.2.2.1) else (spec_LongDate.j0 k a0 true bt114.1 bt114.2.1 bt114.2.2.1 bt114.2.2.2.1 bt114.2.2.2.2.1 bt114.2.2.2.2.2.1))
theorem spec_LongDate.mono_l : ∀ k, (∀ y0 y1 y2 y3 y4 y5 y6 y7, LeO (spec_LongDate.j0 k y0 y1 y2 y3 y4 y5 y6 y7) (spec_LongDate.j0 (k + 1) y0 y1 y2 y3 y4 y5 y6 y7))
 | 0 => fun _ _ _ _ _ _ _ _ r h => by simp [spec_LongDate.j0] at h
 | k + 1 => by
  have ih0 := spec_LongDate.mono_l k
  ·
   intro y0 y1 y2 y3 y4 y5 y6 y7
   unfold spec_LongDate.j0
   repeat' first
   | (with_reducible exact ih0 _ _ _ _ _ _ _ _)
   | (with_reducible exact spec_l2clock.mono _ _ _ _ _ _ _)
   | (with_reducible exact spec_l2pad.mono _ _ _)
   | (with_reducible exact LeO.refl _)
   | (with_reducible exact LeO.none _)
   | (with_reducible refine LeO.ite ?_ ?_)
   | (with_reducible refine LeO.bind ?_ (fun _ => ?_))
   | exact ih0 _ _ _ _ _ _ _ _
   | exact spec_l2clock.mono _ _ _ _ _ _ _
   | exact spec_l2pad.mono _ _ _
   | exact LeO.none _
   | refine LeO.ite ?_ ?_
   | refine LeO.bind ?_ (fun _ => ?_)
theorem spec_LongDate.mono : ∀ a0 k, LeO (spec_LongDate.f k a0) (spec_LongDate.f (k + 1) a0) := by
 intro a0 k
 have ih0 := spec_LongDate.mono_l k
 unfold spec_LongDate.f
 repeat' first
   | (with_reducible exact ih0 _ _ _ _ _ _ _ _)
   | (with_reducible exact spec_l2clock.mono _ _ _ _ _ _ _)
   | (with_reducible exact spec_l2pad.mono _ _ _)
   | (with_reducible exact LeO.refl _)
   | (with_reducible exact LeO.none _)
   | (with_reducible refine LeO.ite ?_ ?_)
   | (with_reducible refine LeO.bind ?_ (fun _ => ?_))
   | exact ih0 _ _ _ _ _ _ _ _
   | exact spec_l2clock.mono _ _ _ _ _ _ _
   | exact spec_l2pad.mono _ _ _
   | exact LeO.none _
   | refine LeO.ite ?_ ?_
   | refine LeO.bind ?_ (fun _ => ?_)
def spec_LongDate.T4 : Bool × List (List Nat × List Nat) := (true, [([], []), ([0], [0]), ([1, 1], [1]), ([2], [2]), ([], []), ([4], [4]), ([5, 2], [5]), ([3, 6], [3, 6]), ([7], [7]), ([], []), ([9], [9]), ([10, 6], [10]), ([8, 11], [8, 11]), ([12], [12]), ([], []), ([14], [14]), ([15], [15]), ([16, 11], [16]), ([13, 17], [13, 17]), ([18], [18]), ([], []), ([20, 17], [20]), ([19, 21], [19, 21]), ([22], [22]), ([23, 21, 0, 1, 2, 3, 4, 5, 6, 7, 8, 9, 10, 11, 12, 13, 14, 15, 16, 17, 18, 19, 20, 21, 22, 23], [23])])
def spec_LongDate.B4 : List Nat := [0, 1, 3, 7, 0, 16, 55, 127, 255, 0, 512, 1655, 4095, 8191, 0, 16384, 49152, 118391, 262143, 524287, 0, 1298039, 4194303, 8388607, 16777215]
theorem spec_LongDate.tab4 : rtab .any (opsOf Tryd.f28 4) = spec_LongDate.T4 := by kernel_rfl
theorem spec_LongDate.bits4 : waitsOk spec_LongDate.T4.2 spec_LongDate.B4 = true := by kernel_rfl
set_option maxHeartbeats 8000000 in
set_option maxRecDepth 100000 in
theorem spec_LongDate.calls (k : Nat) (a0 : Int) (r : ByteArray) (w : World) (h : spec_LongDate.f k a0 = some r) :
  Calls Tryd.prog 28 #[.int .i64 a0] w fun e w' => e = .returned (.string r) ∧ Below w.heap.size w w' := by
 have hu30 := Tryd.underlying30
 have HB := Aside0.mk (Below.refl w.heap.size w)
 have H : ((spec_CivilOf.f a0).bind fun bt114 => (if bt114.2.2.2.2.2.2 = true then (spec_LongDate.j0 k a0 (decide (bt114.1 > 2069)) bt114.1 bt114.2.1 bt114.2.2.1 bt114.2.2.2.1 bt114.2.2.2.2.1 bt114.2.2.2.2.2.1) else (spec_LongDate.j0 k a0 true bt114.1 bt114.2.1 bt114.2.2.1 bt114.2.2.2.1 bt114.2.2.2.2.1 bt114.2.2.2.2.2.1))) = some r := h
 clear h
 replace H := Option.bind_eq_some_iff.mp H
 obtain ⟨⟨t114, t115, t116, t117, t118, t119, t120⟩, A20, H⟩ := H
 replace H : (if t120 = true then (spec_LongDate.j0 k a0 (decide (t114 > 2069)) t114 t115 t116 t117 t118 t119) else (spec_LongDate.j0 k a0 true t114 t115 t116 t117 t118 t119)) = some r := H
 have A2 := Aside0.mk A20
 clear A20
 have HC3 := Aside0.mk H
 clear H
 go_enter Tryd.func28, Tryd.ntmps28
 go_upto_region 2 with (first | ((with_reducible refine gate_callee (f := 39) rfl ?_); refine goesL_ (some 7) rfl rfl Tryd.func39 (by kernel_rfl) rfl #[.int .i64 a0] rfl (by (try simp only [List.map_toArray, List.map_cons, List.map_nil]); first | done | rfl | (simp only [List.length_drop, List.length_take]; rfl)) ?_; (with_reducible refine (spec_CivilOf.calls a0 t114 t115 t116 t117 t118 t119 t120 _ A2.out).mono ?_); rintro e w4 ⟨rfl, hb⟩; refine ⟨_, rfl, ?_⟩; have n0_ := Aside0.mk (below_step (by repeat (first | (with_reducible first | exact HB.out | apply below_alloc | apply pw_below_drewN | apply below_drew1) | exact HB.out)) hb); clear HB; have HB := n0_; clear n0_; (try clear hb); (try clear hb2); (try clear hk); (try clear hi)) | ((with_reducible refine gate_dst (N := 3) rfl ?_); refine box_event ?hg (N := 3) ?hd (cs := #[.int .i64 0, .int .i64 0, .int .i64 0, .int .i64 0, .int .i64 0, .int .i64 0]) (t := 30) ?hr ?_; (case hd => rfl); (case hg => rfl); (case hr => first | (go_simp; done) | (go_simp; rfl)); intro gb121 hg w5 hbox hb; have n0_ := Aside0.mk (below_step (by repeat (first | (with_reducible first | exact HB.out | apply below_alloc | apply pw_below_drewN | apply below_drew1) | exact HB.out)) hb); have n1_ := Aside0.mk (hbox); have n2_ := Aside0.mk ((by rw [hg]; exact (below_size (by repeat (first | (with_reducible first | exact HB.out | apply below_alloc | apply pw_below_drewN | apply below_drew1) | exact HB.out))) : w.heap.size ≤ gb121)); have n3_ := Aside0.mk ((by rw [hg]; exact (below_size (by repeat (first | (with_reducible first | exact HB.out | apply below_alloc | apply pw_below_drewN | apply below_drew1) | exact HB.out))) : w.heap.size ≤ gb121)); clear HB; have HB := n0_; have BK121 := n1_; have GW121 := n2_; have GE121 := n3_; clear n0_ n1_ n2_ n3_; clear hb hbox hg; have hcz6_0 : w5.cell? ⟨gb121, 0, none⟩ = some (.int .i64 0) := (blk_cell BK121.out 0).trans rfl; have hcz6_1 : w5.cell? ⟨gb121, 1, none⟩ = some (.int .i64 0) := (blk_cell BK121.out 1).trans rfl; have hcz6_2 : w5.cell? ⟨gb121, 2, none⟩ = some (.int .i64 0) := (blk_cell BK121.out 2).trans rfl; have hcz6_3 : w5.cell? ⟨gb121, 3, none⟩ = some (.int .i64 0) := (blk_cell BK121.out 3).trans rfl; have hcz6_4 : w5.cell? ⟨gb121, 4, none⟩ = some (.int .i64 0) := (blk_cell BK121.out 4).trans rfl; have hcz6_5 : w5.cell? ⟨gb121, 5, none⟩ = some (.int .i64 0) := (blk_cell BK121.out 5).trans rfl; have hfz6_0 := blk_frozen BK121.out 0; have hfz6_1 := blk_frozen BK121.out 1; have hfz6_2 := blk_frozen BK121.out 2; have hfz6_3 := blk_frozen BK121.out 3; have hfz6_4 := blk_frozen BK121.out 4; have hfz6_5 := blk_frozen BK121.out 5))
 (try simp only [Act.put, List.setIfInBounds_toArray, List.set_cons_zero, List.set_cons_succ])
 go_cut [16] (fun v16 wc => ∃ (kq : Nat) (x16_2 : Bool), v16 = .bool x16_2 ∧ Aside0 (spec_LongDate.j0 kq a0 x16_2 t114 t115 t116 t117 t118 t119 = some r) ∧ Aside0 (kq ≤ k) ∧ Aside0 (wc.heap[gb121]? = some (.cells #[.int .i64 t114, .int .i64 t115, .int .i64 t116, .int .i64 t117, .int .i64 t118, .int .i64 t119] 30 (0, 0))) ∧ Aside0 (Below w.heap.size w wc))
 case first =>
  have H := HC3.out
  clear HC3
  by_cases c7 : t120 = true
  ·
   subst c7
   have H1 : (spec_LongDate.j0 k a0 (decide (t114 > 2069)) t114 t115 t116 t117 t118 t119) = some r := by rw [if_pos rfl] at H; exact H
   clear H
   have H := H1
   clear H1
   have H' := Aside0.mk H
   clear H
   have hcz8_0 : w5.cell? ⟨gb121, 0, none⟩ = some (.int .i64 0) := (blk_cell BK121.out 0).trans rfl
   have hcz8_1 : w5.cell? ⟨gb121, 1, none⟩ = some (.int .i64 0) := (blk_cell BK121.out 1).trans rfl
   have hcz8_2 : w5.cell? ⟨gb121, 2, none⟩ = some (.int .i64 0) := (blk_cell BK121.out 2).trans rfl
   have hcz8_3 : w5.cell? ⟨gb121, 3, none⟩ = some (.int .i64 0) := (blk_cell BK121.out 3).trans rfl
   have hcz8_4 : w5.cell? ⟨gb121, 4, none⟩ = some (.int .i64 0) := (blk_cell BK121.out 4).trans rfl
   have hcz8_5 : w5.cell? ⟨gb121, 5, none⟩ = some (.int .i64 0) := (blk_cell BK121.out 5).trans rfl
   have hfz8_0 := blk_frozen BK121.out 0
   have hfz8_1 := blk_frozen BK121.out 1
   have hfz8_2 := blk_frozen BK121.out 2
   have hfz8_3 := blk_frozen BK121.out 3
   have hfz8_4 := blk_frozen BK121.out 4
   have hfz8_5 := blk_frozen BK121.out 5
   go_wp2
   go_meet
   case rel => exact ⟨_, (decide (t114 > 2069)), (by first | rfl | (simp; done) | (simp [*]; done)), H', ⟨by first | omega | exact Nat.le_refl _⟩, ⟨by (with_reducible repeat (first | refine blk_drewN ?_ _ | refine blk_drew ?_ | refine blk_alloc ?_ _)); refine blk_put (cs := #[.int .i64 t114, .int .i64 t115, .int .i64 t116, .int .i64 t117, .int .i64 t118, .int .i64 0]) ?_ 5 _ rfl; (with_reducible repeat (first | refine blk_drewN ?_ _ | refine blk_drew ?_ | refine blk_alloc ?_ _)); refine blk_put (cs := #[.int .i64 t114, .int .i64 t115, .int .i64 t116, .int .i64 t117, .int .i64 0, .int .i64 0]) ?_ 4 _ rfl; (with_reducible repeat (first | refine blk_drewN ?_ _ | refine blk_drew ?_ | refine blk_alloc ?_ _)); refine blk_put (cs := #[.int .i64 t114, .int .i64 t115, .int .i64 t116, .int .i64 0, .int .i64 0, .int .i64 0]) ?_ 3 _ rfl; (with_reducible repeat (first | refine blk_drewN ?_ _ | refine blk_drew ?_ | refine blk_alloc ?_ _)); refine blk_put (cs := #[.int .i64 t114, .int .i64 t115, .int .i64 0, .int .i64 0, .int .i64 0, .int .i64 0]) ?_ 2 _ rfl; (with_reducible repeat (first | refine blk_drewN ?_ _ | refine blk_drew ?_ | refine blk_alloc ?_ _)); refine blk_put (cs := #[.int .i64 t114, .int .i64 0, .int .i64 0, .int .i64 0, .int .i64 0, .int .i64 0]) ?_ 1 _ rfl; (with_reducible repeat (first | refine blk_drewN ?_ _ | refine blk_drew ?_ | refine blk_alloc ?_ _)); refine blk_put (cs := #[.int .i64 0, .int .i64 0, .int .i64 0, .int .i64 0, .int .i64 0, .int .i64 0]) ?_ 0 _ rfl; (with_reducible repeat (first | refine blk_drewN ?_ _ | refine blk_drew ?_ | refine blk_alloc ?_ _)); exact BK121.out⟩, ⟨by repeat (first | (with_reducible first | exact HB.out | apply below_alloc | apply pw_below_drewN | apply below_drew1 | refine below_set ?_ GE121.out) | exact HB.out)⟩⟩
  ·
   replace c7 := Bool.eq_false_iff.mpr c7
   subst c7
   have H1 : (spec_LongDate.j0 k a0 true t114 t115 t116 t117 t118 t119) = some r := by rw [if_neg (show ¬ (false = true) by decide)] at H; exact H
   clear H
   have H := H1
   clear H1
   have H' := Aside0.mk H
   clear H
   go_wp2
   go_meet
   case rel => exact ⟨_, (true), (by first | rfl | (simp; done) | (simp [*]; done)), H', ⟨by first | omega | exact Nat.le_refl _⟩, ⟨by (with_reducible repeat (first | refine blk_drewN ?_ _ | refine blk_drew ?_ | refine blk_alloc ?_ _)); refine blk_put (cs := #[.int .i64 t114, .int .i64 t115, .int .i64 t116, .int .i64 t117, .int .i64 t118, .int .i64 0]) ?_ 5 _ rfl; (with_reducible repeat (first | refine blk_drewN ?_ _ | refine blk_drew ?_ | refine blk_alloc ?_ _)); refine blk_put (cs := #[.int .i64 t114, .int .i64 t115, .int .i64 t116, .int .i64 t117, .int .i64 0, .int .i64 0]) ?_ 4 _ rfl; (with_reducible repeat (first | refine blk_drewN ?_ _ | refine blk_drew ?_ | refine blk_alloc ?_ _)); refine blk_put (cs := #[.int .i64 t114, .int .i64 t115, .int .i64 t116, .int .i64 0, .int .i64 0, .int .i64 0]) ?_ 3 _ rfl; (with_reducible repeat (first | refine blk_drewN ?_ _ | refine blk_drew ?_ | refine blk_alloc ?_ _)); refine blk_put (cs := #[.int .i64 t114, .int .i64 t115, .int .i64 0, .int .i64 0, .int .i64 0, .int .i64 0]) ?_ 2 _ rfl; (with_reducible repeat (first | refine blk_drewN ?_ _ | refine blk_drew ?_ | refine blk_alloc ?_ _)); refine blk_put (cs := #[.int .i64 t114, .int .i64 0, .int .i64 0, .int .i64 0, .int .i64 0, .int .i64 0]) ?_ 1 _ rfl; (with_reducible repeat (first | refine blk_drewN ?_ _ | refine blk_drew ?_ | refine blk_alloc ?_ _)); refine blk_put (cs := #[.int .i64 0, .int .i64 0, .int .i64 0, .int .i64 0, .int .i64 0, .int .i64 0]) ?_ 0 _ rfl; (with_reducible repeat (first | refine blk_drewN ?_ _ | refine blk_drew ?_ | refine blk_alloc ?_ _)); exact BK121.out⟩, ⟨by repeat (first | (with_reducible first | exact HB.out | apply below_alloc | apply pw_below_drewN | apply below_drew1 | refine below_set ?_ GE121.out) | exact HB.out)⟩⟩
 case rest =>
  clear HC3
  try clear c2
  try clear p2
  try clear c3
  try clear c7
  try clear hcz6_0
  try clear hcz6_1
  try clear hcz6_2
  try clear hcz6_3
  try clear hcz6_4
  try clear hcz6_5
  try clear hcz8_0
  try clear hcz8_1
  try clear hcz8_2
  try clear hcz8_3
  try clear hcz8_4
  try clear hcz8_5
  try clear hfz6_0
  try clear hfz6_1
  try clear hfz6_2
  try clear hfz6_3
  try clear hfz6_4
  try clear hfz6_5
  try clear hfz8_0
  try clear hfz8_1
  try clear hfz8_2
  try clear hfz8_3
  try clear hfz8_4
  try clear hfz8_5
  obtain ⟨kq, x16_2, rfl, HA, HJ2, BK121, HB⟩ := hcut
  cases kq with
  | zero => exact absurd HA.out (by simp [spec_LongDate.j0])
  | succ kj2 =>
   have H := HA.out
   clear HA
   simp only [spec_LongDate.j0] at H
   by_cases c9 : x16_2 = true
   ·
    subst c9
    have H1 : (some (⟨#[]⟩ : ByteArray)) = some r := by rw [if_pos rfl] at H; exact H
    clear H
    have H := H1
    clear H1
    obtain rfl := Option.some.inj H
    go_wp2
    go_ret
    exact ⟨by first | rfl | (simp [errW_none, errW_some] <;> rfl) | (simp [*, errW_none, errW_some] <;> rfl), by repeat (first | (with_reducible first | exact HB.out | apply below_alloc | apply pw_below_drewN | apply below_drew1 | refine below_set ?_ GE121.out) | exact HB.out)⟩
   ·
    replace c9 := Bool.eq_false_iff.mpr c9
    subst c9
    have H1 : ((spec_Weekday.f a0).bind fun t122 => ((spec_l2dayName.f t122).bind fun t123 => (if t123.size + 2 ≤ 9223372036854775807 then ((spec_l2pad.f kj2 t116 2).bind fun t124 => (if (t123 ++ (⟨#[44, 32]⟩ : ByteArray)).size + t124.size ≤ 9223372036854775807 then (if ((t123 ++ (⟨#[44, 32]⟩ : ByteArray)) ++ t124).size + 1 ≤ 9223372036854775807 then ((spec_l2monthName.f t115).bind fun t125 => (if (((t123 ++ (⟨#[44, 32]⟩ : ByteArray)) ++ t124) ++ (⟨#[45]⟩ : ByteArray)).size + t125.size ≤ 9223372036854775807 then (if ((((t123 ++ (⟨#[44, 32]⟩ : ByteArray)) ++ t124) ++ (⟨#[45]⟩ : ByteArray)) ++ t125).size + 1 ≤ 9223372036854775807 then ((spec_l2pad.f kj2 (Int.tmod t114 100) 2).bind fun t126 => (if (((((t123 ++ (⟨#[44, 32]⟩ : ByteArray)) ++ t124) ++ (⟨#[45]⟩ : ByteArray)) ++ t125) ++ (⟨#[45]⟩ : ByteArray)).size + t126.size ≤ 9223372036854775807 then (if ((((((t123 ++ (⟨#[44, 32]⟩ : ByteArray)) ++ t124) ++ (⟨#[45]⟩ : ByteArray)) ++ t125) ++ (⟨#[45]⟩ : ByteArray)) ++ t126).size + 1 ≤ 9223372036854775807 then ((spec_l2clock.f kj2 t114 t115 t116 t117 t118 t119).bind fun t127 => (if (((((((t123 ++ (⟨#[44, 32]⟩ : ByteArray)) ++ t124) ++ (⟨#[45]⟩ : ByteArray)) ++ t125) ++ (⟨#[45]⟩ : ByteArray)) ++ t126) ++ (⟨#[32]⟩ : ByteArray)).size + t127.size ≤ 9223372036854775807 then (if ((((((((t123 ++ (⟨#[44, 32]⟩ : ByteArray)) ++ t124) ++ (⟨#[45]⟩ : ByteArray)) ++ t125) ++ (⟨#[45]⟩ : ByteArray)) ++ t126) ++ (⟨#[32]⟩ : ByteArray)) ++ t127).size + 4 ≤ 9223372036854775807 then (some (((((((((t123 ++ (⟨#[44, 32]⟩ : ByteArray)) ++ t124) ++ (⟨#[45]⟩ : ByteArray)) ++ t125) ++ (⟨#[45]⟩ : ByteArray)) ++ t126) ++ (⟨#[32]⟩ : ByteArray)) ++ t127) ++ (⟨#[32, 71, 77, 84]⟩ : ByteArray))) else (none)) else (none))) else (none)) else (none))) else (none)) else (none))) else (none)) else (none))) else (none)))) = some r := by rw [if_neg (show ¬ (false = true) by decide)] at H; exact H
    clear H
    have H := H1
    clear H1
    replace H := Option.bind_eq_some_iff.mp H
    obtain ⟨t122, A100, H⟩ := H
    replace H : ((spec_l2dayName.f t122).bind fun t123 => (if t123.size + 2 ≤ 9223372036854775807 then ((spec_l2pad.f kj2 t116 2).bind fun t124 => (if (t123 ++ (⟨#[44, 32]⟩ : ByteArray)).size + t124.size ≤ 9223372036854775807 then (if ((t123 ++ (⟨#[44, 32]⟩ : ByteArray)) ++ t124).size + 1 ≤ 9223372036854775807 then ((spec_l2monthName.f t115).bind fun t125 => (if (((t123 ++ (⟨#[44, 32]⟩ : ByteArray)) ++ t124) ++ (⟨#[45]⟩ : ByteArray)).size + t125.size ≤ 9223372036854775807 then (if ((((t123 ++ (⟨#[44, 32]⟩ : ByteArray)) ++ t124) ++ (⟨#[45]⟩ : ByteArray)) ++ t125).size + 1 ≤ 9223372036854775807 then ((spec_l2pad.f kj2 (Int.tmod t114 100) 2).bind fun t126 => (if (((((t123 ++ (⟨#[44, 32]⟩ : ByteArray)) ++ t124) ++ (⟨#[45]⟩ : ByteArray)) ++ t125) ++ (⟨#[45]⟩ : ByteArray)).size + t126.size ≤ 9223372036854775807 then (if ((((((t123 ++ (⟨#[44, 32]⟩ : ByteArray)) ++ t124) ++ (⟨#[45]⟩ : ByteArray)) ++ t125) ++ (⟨#[45]⟩ : ByteArray)) ++ t126).size + 1 ≤ 9223372036854775807 then ((spec_l2clock.f kj2 t114 t115 t116 t117 t118 t119).bind fun t127 => (if (((((((t123 ++ (⟨#[44, 32]⟩ : ByteArray)) ++ t124) ++ (⟨#[45]⟩ : ByteArray)) ++ t125) ++ (⟨#[45]⟩ : ByteArray)) ++ t126) ++ (⟨#[32]⟩ : ByteArray)).size + t127.size ≤ 9223372036854775807 then (if ((((((((t123 ++ (⟨#[44, 32]⟩ : ByteArray)) ++ t124) ++ (⟨#[45]⟩ : ByteArray)) ++ t125) ++ (⟨#[45]⟩ : ByteArray)) ++ t126) ++ (⟨#[32]⟩ : ByteArray)) ++ t127).size + 4 ≤ 9223372036854775807 then (some (((((((((t123 ++ (⟨#[44, 32]⟩ : ByteArray)) ++ t124) ++ (⟨#[45]⟩ : ByteArray)) ++ t125) ++ (⟨#[45]⟩ : ByteArray)) ++ t126) ++ (⟨#[32]⟩ : ByteArray)) ++ t127) ++ (⟨#[32, 71, 77, 84]⟩ : ByteArray))) else (none)) else (none))) else (none)) else (none))) else (none)) else (none))) else (none)) else (none))) else (none))) = some r := H
    have A10 := Aside0.mk A100
    clear A100
    replace H := Option.bind_eq_some_iff.mp H
    obtain ⟨t123, A110, H⟩ := H
    replace H : (if t123.size + 2 ≤ 9223372036854775807 then ((spec_l2pad.f kj2 t116 2).bind fun t124 => (if (t123 ++ (⟨#[44, 32]⟩ : ByteArray)).size + t124.size ≤ 9223372036854775807 then (if ((t123 ++ (⟨#[44, 32]⟩ : ByteArray)) ++ t124).size + 1 ≤ 9223372036854775807 then ((spec_l2monthName.f t115).bind fun t125 => (if (((t123 ++ (⟨#[44, 32]⟩ : ByteArray)) ++ t124) ++ (⟨#[45]⟩ : ByteArray)).size + t125.size ≤ 9223372036854775807 then (if ((((t123 ++ (⟨#[44, 32]⟩ : ByteArray)) ++ t124) ++ (⟨#[45]⟩ : ByteArray)) ++ t125).size + 1 ≤ 9223372036854775807 then ((spec_l2pad.f kj2 (Int.tmod t114 100) 2).bind fun t126 => (if (((((t123 ++ (⟨#[44, 32]⟩ : ByteArray)) ++ t124) ++ (⟨#[45]⟩ : ByteArray)) ++ t125) ++ (⟨#[45]⟩ : ByteArray)).size + t126.size ≤ 9223372036854775807 then (if ((((((t123 ++ (⟨#[44, 32]⟩ : ByteArray)) ++ t124) ++ (⟨#[45]⟩ : ByteArray)) ++ t125) ++ (⟨#[45]⟩ : ByteArray)) ++ t126).size + 1 ≤ 9223372036854775807 then ((spec_l2clock.f kj2 t114 t115 t116 t117 t118 t119).bind fun t127 => (if (((((((t123 ++ (⟨#[44, 32]⟩ : ByteArray)) ++ t124) ++ (⟨#[45]⟩ : ByteArray)) ++ t125) ++ (⟨#[45]⟩ : ByteArray)) ++ t126) ++ (⟨#[32]⟩ : ByteArray)).size + t127.size ≤ 9223372036854775807 then (if ((((((((t123 ++ (⟨#[44, 32]⟩ : ByteArray)) ++ t124) ++ (⟨#[45]⟩ : ByteArray)) ++ t125) ++ (⟨#[45]⟩ : ByteArray)) ++ t126) ++ (⟨#[32]⟩ : ByteArray)) ++ t127).size + 4 ≤ 9223372036854775807 then (some (((((((((t123 ++ (⟨#[44, 32]⟩ : ByteArray)) ++ t124) ++ (⟨#[45]⟩ : ByteArray)) ++ t125) ++ (⟨#[45]⟩ : ByteArray)) ++ t126) ++ (⟨#[32]⟩ : ByteArray)) ++ t127) ++ (⟨#[32, 71, 77, 84]⟩ : ByteArray))) else (none)) else (none))) else (none)) else (none))) else (none)) else (none))) else (none)) else (none))) else (none)) = some r := H
    have A11 := Aside0.mk A110
    clear A110
    have c12 : t123.size + 2 ≤ 9223372036854775807 := Classical.byContradiction fun h_ => by rw [if_neg h_] at H; exact absurd H (by simp)
    rw [if_pos c12] at H
    have c12b0 := eq_true c12
    have c12b1 : decide (t123.size + 2 ≤ 9223372036854775807) = true := decide_eq_true c12
    try have c12b2 : (9223372036854775807 < t123.size + 2) = False := eq_false (Nat.not_lt.2 c12)
    replace H := Option.bind_eq_some_iff.mp H
    obtain ⟨t124, A130, H⟩ := H
    replace H : (if (t123 ++ (⟨#[44, 32]⟩ : ByteArray)).size + t124.size ≤ 9223372036854775807 then (if ((t123 ++ (⟨#[44, 32]⟩ : ByteArray)) ++ t124).size + 1 ≤ 9223372036854775807 then ((spec_l2monthName.f t115).bind fun t125 => (if (((t123 ++ (⟨#[44, 32]⟩ : ByteArray)) ++ t124) ++ (⟨#[45]⟩ : ByteArray)).size + t125.size ≤ 9223372036854775807 then (if ((((t123 ++ (⟨#[44, 32]⟩ : ByteArray)) ++ t124) ++ (⟨#[45]⟩ : ByteArray)) ++ t125).size + 1 ≤ 9223372036854775807 then ((spec_l2pad.f kj2 (Int.tmod t114 100) 2).bind fun t126 => (if (((((t123 ++ (⟨#[44, 32]⟩ : ByteArray)) ++ t124) ++ (⟨#[45]⟩ : ByteArray)) ++ t125) ++ (⟨#[45]⟩ : ByteArray)).size + t126.size ≤ 9223372036854775807 then (if ((((((t123 ++ (⟨#[44, 32]⟩ : ByteArray)) ++ t124) ++ (⟨#[45]⟩ : ByteArray)) ++ t125) ++ (⟨#[45]⟩ : ByteArray)) ++ t126).size + 1 ≤ 9223372036854775807 then ((spec_l2clock.f kj2 t114 t115 t116 t117 t118 t119).bind fun t127 => (if (((((((t123 ++ (⟨#[44, 32]⟩ : ByteArray)) ++ t124) ++ (⟨#[45]⟩ : ByteArray)) ++ t125) ++ (⟨#[45]⟩ : ByteArray)) ++ t126) ++ (⟨#[32]⟩ : ByteArray)).size + t127.size ≤ 9223372036854775807 then (if ((((((((t123 ++ (⟨#[44, 32]⟩ : ByteArray)) ++ t124) ++ (⟨#[45]⟩ : ByteArray)) ++ t125) ++ (⟨#[45]⟩ : ByteArray)) ++ t126) ++ (⟨#[32]⟩ : ByteArray)) ++ t127).size + 4 ≤ 9223372036854775807 then (some (((((((((t123 ++ (⟨#[44, 32]⟩ : ByteArray)) ++ t124) ++ (⟨#[45]⟩ : ByteArray)) ++ t125) ++ (⟨#[45]⟩ : ByteArray)) ++ t126) ++ (⟨#[32]⟩ : ByteArray)) ++ t127) ++ (⟨#[32, 71, 77, 84]⟩ : ByteArray))) else (none)) else (none))) else (none)) else (none))) else (none)) else (none))) else (none)) else (none)) = some r := H
    have A13 := Aside0.mk A130
    clear A130
    have c14 : (t123 ++ (⟨#[44, 32]⟩ : ByteArray)).size + t124.size ≤ 9223372036854775807 := Classical.byContradiction fun h_ => by rw [if_neg h_] at H; exact absurd H (by simp)
    rw [if_pos c14] at H
    have c14b0 := eq_true c14
    have c14b1 : decide ((t123 ++ (⟨#[44, 32]⟩ : ByteArray)).size + t124.size ≤ 9223372036854775807) = true := decide_eq_true c14
    try have c14b2 : (9223372036854775807 < (t123 ++ (⟨#[44, 32]⟩ : ByteArray)).size + t124.size) = False := eq_false (Nat.not_lt.2 c14)
    (try (have c14v2 : (9223372036854775807 < (t123.size + 2) + t124.size) = False := eq_false (by have h_ := c14; simp only [ByteArray.size_append, show (⟨#[44, 32]⟩ : ByteArray).size = 2 from rfl] at h_; omega)))
    (try (have c14y0 := c14b0; simp only [ByteArray.size_append] at c14y0))
    (try (have c14z0 := c14b0; simp only [ByteArray.size_append, Int.natCast_add] at c14z0))
    (try (have c14y1 := c14b1; simp only [ByteArray.size_append] at c14y1))
    (try (have c14z1 := c14b1; simp only [ByteArray.size_append, Int.natCast_add] at c14z1))
    have c15 : ((t123 ++ (⟨#[44, 32]⟩ : ByteArray)) ++ t124).size + 1 ≤ 9223372036854775807 := Classical.byContradiction fun h_ => by rw [if_neg h_] at H; exact absurd H (by simp)
    rw [if_pos c15] at H
    have c15b0 := eq_true c15
    have c15b1 : decide (((t123 ++ (⟨#[44, 32]⟩ : ByteArray)) ++ t124).size + 1 ≤ 9223372036854775807) = true := decide_eq_true c15
    try have c15b2 : (9223372036854775807 < ((t123 ++ (⟨#[44, 32]⟩ : ByteArray)) ++ t124).size + 1) = False := eq_false (Nat.not_lt.2 c15)
    (try (have c15v2 : (9223372036854775807 < ((t123.size + 2) + t124.size) + 1) = False := eq_false (by have h_ := c15; simp only [ByteArray.size_append, show (⟨#[44, 32]⟩ : ByteArray).size = 2 from rfl] at h_; omega)))
    (try (have c15y0 := c15b0; simp only [ByteArray.size_append] at c15y0))
    (try (have c15z0 := c15b0; simp only [ByteArray.size_append, Int.natCast_add] at c15z0))
    (try (have c15y1 := c15b1; simp only [ByteArray.size_append] at c15y1))
    (try (have c15z1 := c15b1; simp only [ByteArray.size_append, Int.natCast_add] at c15z1))
    replace H := Option.bind_eq_some_iff.mp H
    obtain ⟨t125, A160, H⟩ := H
    replace H : (if (((t123 ++ (⟨#[44, 32]⟩ : ByteArray)) ++ t124) ++ (⟨#[45]⟩ : ByteArray)).size + t125.size ≤ 9223372036854775807 then (if ((((t123 ++ (⟨#[44, 32]⟩ : ByteArray)) ++ t124) ++ (⟨#[45]⟩ : ByteArray)) ++ t125).size + 1 ≤ 9223372036854775807 then ((spec_l2pad.f kj2 (Int.tmod t114 100) 2).bind fun t126 => (if (((((t123 ++ (⟨#[44, 32]⟩ : ByteArray)) ++ t124) ++ (⟨#[45]⟩ : ByteArray)) ++ t125) ++ (⟨#[45]⟩ : ByteArray)).size + t126.size ≤ 9223372036854775807 then (if ((((((t123 ++ (⟨#[44, 32]⟩ : ByteArray)) ++ t124) ++ (⟨#[45]⟩ : ByteArray)) ++ t125) ++ (⟨#[45]⟩ : ByteArray)) ++ t126).size + 1 ≤ 9223372036854775807 then ((spec_l2clock.f kj2 t114 t115 t116 t117 t118 t119).bind fun t127 => (if (((((((t123 ++ (⟨#[44, 32]⟩ : ByteArray)) ++ t124) ++ (⟨#[45]⟩ : ByteArray)) ++ t125) ++ (⟨#[45]⟩ : ByteArray)) ++ t126) ++ (⟨#[32]⟩ : ByteArray)).size + t127.size ≤ 9223372036854775807 then (if ((((((((t123 ++ (⟨#[44, 32]⟩ : ByteArray)) ++ t124) ++ (⟨#[45]⟩ : ByteArray)) ++ t125) ++ (⟨#[45]⟩ : ByteArray)) ++ t126) ++ (⟨#[32]⟩ : ByteArray)) ++ t127).size + 4 ≤ 9223372036854775807 then (some (((((((((t123 ++ (⟨#[44, 32]⟩ : ByteArray)) ++ t124) ++ (⟨#[45]⟩ : ByteArray)) ++ t125) ++ (⟨#[45]⟩ : ByteArray)) ++ t126) ++ (⟨#[32]⟩ : ByteArray)) ++ t127) ++ (⟨#[32, 71, 77, 84]⟩ : ByteArray))) else (none)) else (none))) else (none)) else (none))) else (none)) else (none)) = some r := H
    have A16 := Aside0.mk A160
    clear A160
    have c17 : (((t123 ++ (⟨#[44, 32]⟩ : ByteArray)) ++ t124) ++ (⟨#[45]⟩ : ByteArray)).size + t125.size ≤ 9223372036854775807 := Classical.byContradiction fun h_ => by rw [if_neg h_] at H; exact absurd H (by simp)
    rw [if_pos c17] at H
    have c17b0 := eq_true c17
    have c17b1 : decide ((((t123 ++ (⟨#[44, 32]⟩ : ByteArray)) ++ t124) ++ (⟨#[45]⟩ : ByteArray)).size + t125.size ≤ 9223372036854775807) = true := decide_eq_true c17
    try have c17b2 : (9223372036854775807 < (((t123 ++ (⟨#[44, 32]⟩ : ByteArray)) ++ t124) ++ (⟨#[45]⟩ : ByteArray)).size + t125.size) = False := eq_false (Nat.not_lt.2 c17)
    (try (have c17v2 : (9223372036854775807 < (((t123.size + 2) + t124.size) + 1) + t125.size) = False := eq_false (by have h_ := c17; simp only [ByteArray.size_append, show (⟨#[44, 32]⟩ : ByteArray).size = 2 from rfl, show (⟨#[45]⟩ : ByteArray).size = 1 from rfl] at h_; omega)))
    (try (have c17y0 := c17b0; simp only [ByteArray.size_append] at c17y0))
    (try (have c17z0 := c17b0; simp only [ByteArray.size_append, Int.natCast_add] at c17z0))
    (try (have c17y1 := c17b1; simp only [ByteArray.size_append] at c17y1))
    (try (have c17z1 := c17b1; simp only [ByteArray.size_append, Int.natCast_add] at c17z1))
    have c18 : ((((t123 ++ (⟨#[44, 32]⟩ : ByteArray)) ++ t124) ++ (⟨#[45]⟩ : ByteArray)) ++ t125).size + 1 ≤ 9223372036854775807 := Classical.byContradiction fun h_ => by rw [if_neg h_] at H; exact absurd H (by simp)
    rw [if_pos c18] at H
    have c18b0 := eq_true c18
    have c18b1 : decide (((((t123 ++ (⟨#[44, 32]⟩ : ByteArray)) ++ t124) ++ (⟨#[45]⟩ : ByteArray)) ++ t125).size + 1 ≤ 9223372036854775807) = true := decide_eq_true c18
    try have c18b2 : (9223372036854775807 < ((((t123 ++ (⟨#[44, 32]⟩ : ByteArray)) ++ t124) ++ (⟨#[45]⟩ : ByteArray)) ++ t125).size + 1) = False := eq_false (Nat.not_lt.2 c18)
    (try (have c18v2 : (9223372036854775807 < ((((t123.size + 2) + t124.size) + 1) + t125.size) + 1) = False := eq_false (by have h_ := c18; simp only [ByteArray.size_append, show (⟨#[44, 32]⟩ : ByteArray).size = 2 from rfl, show (⟨#[45]⟩ : ByteArray).size = 1 from rfl] at h_; omega)))
    (try (have c18y0 := c18b0; simp only [ByteArray.size_append] at c18y0))
    (try (have c18z0 := c18b0; simp only [ByteArray.size_append, Int.natCast_add] at c18z0))
    (try (have c18y1 := c18b1; simp only [ByteArray.size_append] at c18y1))
    (try (have c18z1 := c18b1; simp only [ByteArray.size_append, Int.natCast_add] at c18z1))
    replace H := Option.bind_eq_some_iff.mp H
    obtain ⟨t126, A190, H⟩ := H
    replace H : (if (((((t123 ++ (⟨#[44, 32]⟩ : ByteArray)) ++ t124) ++ (⟨#[45]⟩ : ByteArray)) ++ t125) ++ (⟨#[45]⟩ : ByteArray)).size + t126.size ≤ 9223372036854775807 then (if ((((((t123 ++ (⟨#[44, 32]⟩ : ByteArray)) ++ t124) ++ (⟨#[45]⟩ : ByteArray)) ++ t125) ++ (⟨#[45]⟩ : ByteArray)) ++ t126).size + 1 ≤ 9223372036854775807 then ((spec_l2clock.f kj2 t114 t115 t116 t117 t118 t119).bind fun t127 => (if (((((((t123 ++ (⟨#[44, 32]⟩ : ByteArray)) ++ t124) ++ (⟨#[45]⟩ : ByteArray)) ++ t125) ++ (⟨#[45]⟩ : ByteArray)) ++ t126) ++ (⟨#[32]⟩ : ByteArray)).size + t127.size ≤ 9223372036854775807 then (if ((((((((t123 ++ (⟨#[44, 32]⟩ : ByteArray)) ++ t124) ++ (⟨#[45]⟩ : ByteArray)) ++ t125) ++ (⟨#[45]⟩ : ByteArray)) ++ t126) ++ (⟨#[32]⟩ : ByteArray)) ++ t127).size + 4 ≤ 9223372036854775807 then (some (((((((((t123 ++ (⟨#[44, 32]⟩ : ByteArray)) ++ t124) ++ (⟨#[45]⟩ : ByteArray)) ++ t125) ++ (⟨#[45]⟩ : ByteArray)) ++ t126) ++ (⟨#[32]⟩ : ByteArray)) ++ t127) ++ (⟨#[32, 71, 77, 84]⟩ : ByteArray))) else (none)) else (none))) else (none)) else (none)) = some r := H
    have A19 := Aside0.mk A190
    clear A190
    have c20 : (((((t123 ++ (⟨#[44, 32]⟩ : ByteArray)) ++ t124) ++ (⟨#[45]⟩ : ByteArray)) ++ t125) ++ (⟨#[45]⟩ : ByteArray)).size + t126.size ≤ 9223372036854775807 := Classical.byContradiction fun h_ => by rw [if_neg h_] at H; exact absurd H (by simp)
    rw [if_pos c20] at H
    have c20b0 := eq_true c20
    have c20b1 : decide ((((((t123 ++ (⟨#[44, 32]⟩ : ByteArray)) ++ t124) ++ (⟨#[45]⟩ : ByteArray)) ++ t125) ++ (⟨#[45]⟩ : ByteArray)).size + t126.size ≤ 9223372036854775807) = true := decide_eq_true c20
    try have c20b2 : (9223372036854775807 < (((((t123 ++ (⟨#[44, 32]⟩ : ByteArray)) ++ t124) ++ (⟨#[45]⟩ : ByteArray)) ++ t125) ++ (⟨#[45]⟩ : ByteArray)).size + t126.size) = False := eq_false (Nat.not_lt.2 c20)
    (try (have c20v2 : (9223372036854775807 < (((((t123.size + 2) + t124.size) + 1) + t125.size) + 1) + t126.size) = False := eq_false (by have h_ := c20; simp only [ByteArray.size_append, show (⟨#[44, 32]⟩ : ByteArray).size = 2 from rfl, show (⟨#[45]⟩ : ByteArray).size = 1 from rfl] at h_; omega)))
    (try (have c20y0 := c20b0; simp only [ByteArray.size_append] at c20y0))
    (try (have c20z0 := c20b0; simp only [ByteArray.size_append, Int.natCast_add] at c20z0))
    (try (have c20y1 := c20b1; simp only [ByteArray.size_append] at c20y1))
    (try (have c20z1 := c20b1; simp only [ByteArray.size_append, Int.natCast_add] at c20z1))
    have c21 : ((((((t123 ++ (⟨#[44, 32]⟩ : ByteArray)) ++ t124) ++ (⟨#[45]⟩ : ByteArray)) ++ t125) ++ (⟨#[45]⟩ : ByteArray)) ++ t126).size + 1 ≤ 9223372036854775807 := Classical.byContradiction fun h_ => by rw [if_neg h_] at H; exact absurd H (by simp)
    rw [if_pos c21] at H
    have c21b0 := eq_true c21
    have c21b1 : decide (((((((t123 ++ (⟨#[44, 32]⟩ : ByteArray)) ++ t124) ++ (⟨#[45]⟩ : ByteArray)) ++ t125) ++ (⟨#[45]⟩ : ByteArray)) ++ t126).size + 1 ≤ 9223372036854775807) = true := decide_eq_true c21
    try have c21b2 : (9223372036854775807 < ((((((t123 ++ (⟨#[44, 32]⟩ : ByteArray)) ++ t124) ++ (⟨#[45]⟩ : ByteArray)) ++ t125) ++ (⟨#[45]⟩ : ByteArray)) ++ t126).size + 1) = False := eq_false (Nat.not_lt.2 c21)
    (try (have c21v2 : (9223372036854775807 < ((((((t123.size + 2) + t124.size) + 1) + t125.size) + 1) + t126.size) + 1) = False := eq_false (by have h_ := c21; simp only [ByteArray.size_append, show (⟨#[44, 32]⟩ : ByteArray).size = 2 from rfl, show (⟨#[45]⟩ : ByteArray).size = 1 from rfl] at h_; omega)))
    (try (have c21y0 := c21b0; simp only [ByteArray.size_append] at c21y0))
    (try (have c21z0 := c21b0; simp only [ByteArray.size_append, Int.natCast_add] at c21z0))
    (try (have c21y1 := c21b1; simp only [ByteArray.size_append] at c21y1))
    (try (have c21z1 := c21b1; simp only [ByteArray.size_append, Int.natCast_add] at c21z1))
    replace H := Option.bind_eq_some_iff.mp H
    obtain ⟨t127, A220, H⟩ := H
    replace H : (if (((((((t123 ++ (⟨#[44, 32]⟩ : ByteArray)) ++ t124) ++ (⟨#[45]⟩ : ByteArray)) ++ t125) ++ (⟨#[45]⟩ : ByteArray)) ++ t126) ++ (⟨#[32]⟩ : ByteArray)).size + t127.size ≤ 9223372036854775807 then (if ((((((((t123 ++ (⟨#[44, 32]⟩ : ByteArray)) ++ t124) ++ (⟨#[45]⟩ : ByteArray)) ++ t125) ++ (⟨#[45]⟩ : ByteArray)) ++ t126) ++ (⟨#[32]⟩ : ByteArray)) ++ t127).size + 4 ≤ 9223372036854775807 then (some (((((((((t123 ++ (⟨#[44, 32]⟩ : ByteArray)) ++ t124) ++ (⟨#[45]⟩ : ByteArray)) ++ t125) ++ (⟨#[45]⟩ : ByteArray)) ++ t126) ++ (⟨#[32]⟩ : ByteArray)) ++ t127) ++ (⟨#[32, 71, 77, 84]⟩ : ByteArray))) else (none)) else (none)) = some r := H
    have A22 := Aside0.mk A220
    clear A220
    have c23 : (((((((t123 ++ (⟨#[44, 32]⟩ : ByteArray)) ++ t124) ++ (⟨#[45]⟩ : ByteArray)) ++ t125) ++ (⟨#[45]⟩ : ByteArray)) ++ t126) ++ (⟨#[32]⟩ : ByteArray)).size + t127.size ≤ 9223372036854775807 := Classical.byContradiction fun h_ => by rw [if_neg h_] at H; exact absurd H (by simp)
    rw [if_pos c23] at H
    have c23b0 := eq_true c23
    have c23b1 : decide ((((((((t123 ++ (⟨#[44, 32]⟩ : ByteArray)) ++ t124) ++ (⟨#[45]⟩ : ByteArray)) ++ t125) ++ (⟨#[45]⟩ : ByteArray)) ++ t126) ++ (⟨#[32]⟩ : ByteArray)).size + t127.size ≤ 9223372036854775807) = true := decide_eq_true c23
    try have c23b2 : (9223372036854775807 < (((((((t123 ++ (⟨#[44, 32]⟩ : ByteArray)) ++ t124) ++ (⟨#[45]⟩ : ByteArray)) ++ t125) ++ (⟨#[45]⟩ : ByteArray)) ++ t126) ++ (⟨#[32]⟩ : ByteArray)).size + t127.size) = False := eq_false (Nat.not_lt.2 c23)
    (try (have c23v2 : (9223372036854775807 < (((((((t123.size + 2) + t124.size) + 1) + t125.size) + 1) + t126.size) + 1) + t127.size) = False := eq_false (by have h_ := c23; simp only [ByteArray.size_append, show (⟨#[32]⟩ : ByteArray).size = 1 from rfl, show (⟨#[44, 32]⟩ : ByteArray).size = 2 from rfl, show (⟨#[45]⟩ : ByteArray).size = 1 from rfl] at h_; omega)))
    (try (have c23y0 := c23b0; simp only [ByteArray.size_append] at c23y0))
    (try (have c23z0 := c23b0; simp only [ByteArray.size_append, Int.natCast_add] at c23z0))
    (try (have c23y1 := c23b1; simp only [ByteArray.size_append] at c23y1))
    (try (have c23z1 := c23b1; simp only [ByteArray.size_append, Int.natCast_add] at c23z1))
    have c24 : ((((((((t123 ++ (⟨#[44, 32]⟩ : ByteArray)) ++ t124) ++ (⟨#[45]⟩ : ByteArray)) ++ t125) ++ (⟨#[45]⟩ : ByteArray)) ++ t126) ++ (⟨#[32]⟩ : ByteArray)) ++ t127).size + 4 ≤ 9223372036854775807 := Classical.byContradiction fun h_ => by rw [if_neg h_] at H; exact absurd H (by simp)
    rw [if_pos c24] at H
    have c24b0 := eq_true c24
    have c24b1 : decide (((((((((t123 ++ (⟨#[44, 32]⟩ : ByteArray)) ++ t124) ++ (⟨#[45]⟩ : ByteArray)) ++ t125) ++ (⟨#[45]⟩ : ByteArray)) ++ t126) ++ (⟨#[32]⟩ : ByteArray)) ++ t127).size + 4 ≤ 9223372036854775807) = true := decide_eq_true c24
    try have c24b2 : (9223372036854775807 < ((((((((t123 ++ (⟨#[44, 32]⟩ : ByteArray)) ++ t124) ++ (⟨#[45]⟩ : ByteArray)) ++ t125) ++ (⟨#[45]⟩ : ByteArray)) ++ t126) ++ (⟨#[32]⟩ : ByteArray)) ++ t127).size + 4) = False := eq_false (Nat.not_lt.2 c24)
    (try (have c24v2 : (9223372036854775807 < ((((((((t123.size + 2) + t124.size) + 1) + t125.size) + 1) + t126.size) + 1) + t127.size) + 4) = False := eq_false (by have h_ := c24; simp only [ByteArray.size_append, show (⟨#[32]⟩ : ByteArray).size = 1 from rfl, show (⟨#[44, 32]⟩ : ByteArray).size = 2 from rfl, show (⟨#[45]⟩ : ByteArray).size = 1 from rfl] at h_; omega)))
    (try (have c24y0 := c24b0; simp only [ByteArray.size_append] at c24y0))
    (try (have c24z0 := c24b0; simp only [ByteArray.size_append, Int.natCast_add] at c24z0))
    (try (have c24y1 := c24b1; simp only [ByteArray.size_append] at c24y1))
    (try (have c24z1 := c24b1; simp only [ByteArray.size_append, Int.natCast_add] at c24z1))
    obtain rfl := Option.some.inj H
    try go_wp2
    have n0_ := Aside0.mk (blk_drew BK121.out)
    have n1_ := Aside0.mk (below_drew1 HB.out)
    clear BK121
    clear HB
    have BK121 := n0_
    have HB := n1_
    clear n0_ n1_
    refine start_ (n := 25) (S := fun w' => w'.cell? ⟨gb121, 0, none⟩ = some (.int .i64 t114) ∧ w'.cell? ⟨gb121, 1, none⟩ = some (.int .i64 t115) ∧ w'.cell? ⟨gb121, 2, none⟩ = some (.int .i64 t116) ∧ w'.cell? ⟨gb121, 3, none⟩ = some (.int .i64 t117) ∧ w'.cell? ⟨gb121, 4, none⟩ = some (.int .i64 t118) ∧ w'.cell? ⟨gb121, 5, none⟩ = some (.int .i64 t119)) (ds := []) #[false, false, false, false, false, false, false, false, false, false, false, false, false, false, false, false, false, false, false, false, false, false, false, false, false] (by kernel_rfl) rfl rfl ⟨(blk_cell BK121.out 0).trans rfl, (blk_cell BK121.out 1).trans rfl, (blk_cell BK121.out 2).trans rfl, (blk_cell BK121.out 3).trans rfl, (blk_cell BK121.out 4).trans rfl, (blk_cell BK121.out 5).trans rfl⟩ (fun hHeld => ?_); refine with_tabW spec_LongDate.tab4 spec_LongDate.bits4 (fun HT_ HW_ => ?_)
    generalize wc.drew = w25 at BK121 HB hHeld ⊢
    refine pure_ (i := 0) (N := some 17) (v := ?_) (a' := ?_) #[true, false, false, false, false, false, false, false, false, false, false, false, false, false, false, false, false, false, false, false, false, false, false, false, false] rfl rfl (any_of HT_.out (by kernel_rfl)) (fun _ _ _ h => h) (Or.inl ⟨by rfl, ?_⟩) ?_ ?_
    rotate_left
    ·
     intro w'
     go_simp
     with_reducible rfl
    rotate_left
    ·
     simp only [Act.put, List.setIfInBounds_toArray, List.set_cons_zero, List.set_cons_succ, i64_w, i32_w]
     rfl
    refine pure_ (i := 4) (N := some 21) (v := ?_) (a' := ?_) #[true, false, false, false, true, false, false, false, false, false, false, false, false, false, false, false, false, false, false, false, false, false, false, false, false] rfl rfl (any_of HT_.out (by kernel_rfl)) (fun _ _ _ h => h) (Or.inl ⟨by rfl, ?_⟩) ?_ ?_
    rotate_left
    ·
     intro w'
     go_simp
     with_reducible rfl
    rotate_left
    ·
     simp only [Act.put, List.setIfInBounds_toArray, List.set_cons_zero, List.set_cons_succ, i64_w, i32_w]
     rfl
    refine pure_ (i := 9) (N := some 26) (v := ?_) (a' := ?_) #[true, false, false, false, true, false, false, false, false, true, false, false, false, false, false, false, false, false, false, false, false, false, false, false, false] rfl rfl (any_of HT_.out (by kernel_rfl)) (fun _ _ _ h => h) (Or.inl ⟨by rfl, ?_⟩) ?_ ?_
    rotate_left
    ·
     intro w'
     go_simp
     with_reducible rfl
    rotate_left
    ·
     simp only [Act.put, List.setIfInBounds_toArray, List.set_cons_zero, List.set_cons_succ, i64_w, i32_w]
     rfl
    refine pure_ (i := 14) (N := some 31) (v := ?_) (a' := ?_) #[true, false, false, false, true, false, false, false, false, true, false, false, false, false, true, false, false, false, false, false, false, false, false, false, false] rfl rfl (any_of HT_.out (by kernel_rfl)) (fun _ _ _ h => h) (Or.inl ⟨by rfl, ?_⟩) ?_ ?_
    rotate_left
    ·
     intro w'
     go_simp
     with_reducible rfl
    rotate_left
    ·
     simp only [Act.put, List.setIfInBounds_toArray, List.set_cons_zero, List.set_cons_succ, i64_w, i32_w]
     rfl
    refine take_ (i := 5) (N := some 22) (v := ?_) (a' := ?_) #[true, false, false, false, true, true, false, false, false, true, false, false, false, false, true, false, false, false, false, false, false, false, false, false, false] rfl rfl (take_ofW HT_.out HW_.out (by kernel_rfl)) (fun _ _ _ h => h) (Or.inl ⟨by rfl, ?_⟩) hHeld ?_ ?_
    rotate_left
    ·
     rintro w' ⟨s0, s1, s2, s3, s4, s5⟩
     go_simp
     with_reducible rfl
    rotate_left
    ·
     simp only [Act.put, List.setIfInBounds_toArray, List.set_cons_zero, List.set_cons_succ, i64_w, i32_w]
     rfl
    refine take_ (i := 10) (N := some 27) (v := ?_) (a' := ?_) #[true, false, false, false, true, true, false, false, false, true, true, false, false, false, true, false, false, false, false, false, false, false, false, false, false] rfl rfl (take_ofW HT_.out HW_.out (by kernel_rfl)) (fun _ _ _ h => h) (Or.inl ⟨by rfl, ?_⟩) hHeld ?_ ?_
    rotate_left
    ·
     rintro w' ⟨s0, s1, s2, s3, s4, s5⟩
     go_simp
     with_reducible rfl
    rotate_left
    ·
     simp only [Act.put, List.setIfInBounds_toArray, List.set_cons_zero, List.set_cons_succ, i64_w, i32_w]
     rfl
    refine take_ (i := 15) (N := some 32) (v := ?_) (a' := ?_) #[true, false, false, false, true, true, false, false, false, true, true, false, false, false, true, true, false, false, false, false, false, false, false, false, false] rfl rfl (take_ofW HT_.out HW_.out (by kernel_rfl)) (fun _ _ _ h => h) (Or.inl ⟨by rfl, ?_⟩) hHeld ?_ ?_
    rotate_left
    ·
     rintro w' ⟨s0, s1, s2, s3, s4, s5⟩
     go_simp
     with_reducible rfl
    rotate_left
    ·
     simp only [Act.put, List.setIfInBounds_toArray, List.set_cons_zero, List.set_cons_succ, i64_w, i32_w]
     rfl
    refine pure_ (i := 16) (N := some 33) (v := ?_) (a' := ?_) #[true, false, false, false, true, true, false, false, false, true, true, false, false, false, true, true, true, false, false, false, false, false, false, false, false] rfl rfl (any_of HT_.out (by kernel_rfl)) (fun _ _ _ h => h) (Or.inl ⟨by rfl, ?_⟩) ?_ ?_
    rotate_left
    ·
     intro w'
     go_simp
     with_reducible rfl
    rotate_left
    ·
     simp only [Act.put, List.setIfInBounds_toArray, List.set_cons_zero, List.set_cons_succ, i64_w, i32_w]
     rfl
    refine take_ (i := 20) (N := some 37) (v := ?_) (a' := ?_) #[true, false, false, false, true, true, false, false, false, true, true, false, false, false, true, true, true, false, false, false, true, false, false, false, false] rfl rfl (take_ofW HT_.out HW_.out (by kernel_rfl)) (fun _ _ _ h => h) (Or.inl ⟨by rfl, ?_⟩) hHeld ?_ ?_
    rotate_left
    ·
     rintro w' ⟨s0, s1, s2, s3, s4, s5⟩
     go_simp
     with_reducible rfl
    rotate_left
    ·
     simp only [Act.put, List.setIfInBounds_toArray, List.set_cons_zero, List.set_cons_succ, i64_w, i32_w]
     rfl
    refine one_ (i := 1) (N := some 18) #[true, true, false, false, true, true, false, false, false, true, true, false, false, false, true, true, true, false, false, false, true, false, false, false, false] rfl rfl (one_of HT_.out (by kernel_rfl)) (by decide) (fun K hK => ?_)
    refine goes_ Tryd.func51 (by kernel_rfl) rfl #[.int .i64 a0] (by rfl) rfl rfl (by (try simp only [List.map_toArray, List.map_cons, List.map_nil]); first | done | rfl | (simp only [List.length_drop, List.length_take]; rfl)) ?_
    with_reducible refine (spec_Weekday.calls a0 t122 _ A10.out).mono ?_
    rintro e w' ⟨rfl, ⟨nd, rfl⟩⟩
    refine ⟨_, rfl, ?_⟩
    refine hK.out _ _ ⟨(blk_cell BK121.out 0).trans rfl, (blk_cell BK121.out 1).trans rfl, (blk_cell BK121.out 2).trans rfl, (blk_cell BK121.out 3).trans rfl, (blk_cell BK121.out 4).trans rfl, (blk_cell BK121.out 5).trans rfl⟩ (fun hHeld => ?_)
    clear hK K
    refine norm_ (a' := ?_) ?_ ?_
    rotate_left
    ·
     show Act.put _ (some 18) _ = _
     simp only [Act.put, List.setIfInBounds_toArray, List.set_cons_zero, List.set_cons_succ, i64_w, i32_w]
     rfl
    refine one_ (i := 2) (N := some 19) #[true, true, true, false, true, true, false, false, false, true, true, false, false, false, true, true, true, false, false, false, true, false, false, false, false] rfl rfl (one_of HT_.out (by kernel_rfl)) (by decide) (fun K hK => ?_)
    refine goes_ Tryd.func50 (by kernel_rfl) rfl #[.int .i64 t122] (by rfl) rfl rfl (by (try simp only [List.map_toArray, List.map_cons, List.map_nil]); first | done | rfl | (simp only [List.length_drop, List.length_take]; rfl)) ?_
    with_reducible refine (spec_l2dayName.calls t122 t123 _ A11.out).mono ?_
    rintro e w' ⟨rfl, ⟨nd, rfl⟩⟩
    refine ⟨_, rfl, ?_⟩
    refine hK.out _ _ ⟨(blk_cell BK121.out 0).trans rfl, (blk_cell BK121.out 1).trans rfl, (blk_cell BK121.out 2).trans rfl, (blk_cell BK121.out 3).trans rfl, (blk_cell BK121.out 4).trans rfl, (blk_cell BK121.out 5).trans rfl⟩ (fun hHeld => ?_)
    clear hK K
    refine norm_ (a' := ?_) ?_ ?_
    rotate_left
    ·
     show Act.put _ (some 19) _ = _
     simp only [Act.put, List.setIfInBounds_toArray, List.set_cons_zero, List.set_cons_succ, i64_w, i32_w]
     rfl
    refine pure_ (i := 3) (N := some 20) (v := ?_) (a' := ?_) #[true, true, true, true, true, true, false, false, false, true, true, false, false, false, true, true, true, false, false, false, true, false, false, false, false] rfl rfl (any_of HT_.out (by kernel_rfl)) (fun _ _ _ h => h) (Or.inl ⟨by rfl, ?_⟩) ?_ ?_
    rotate_left
    ·
     intro w'
     go_simp
     with_reducible rfl
    rotate_left
    ·
     simp only [Act.put, List.setIfInBounds_toArray, List.set_cons_zero, List.set_cons_succ, i64_w, i32_w]
     rfl
    refine one_ (i := 6) (N := some 23) #[true, true, true, true, true, true, true, false, false, true, true, false, false, false, true, true, true, false, false, false, true, false, false, false, false] rfl rfl (one_of HT_.out (by kernel_rfl)) (by decide) (fun K hK => ?_)
    refine goes_ Tryd.func40 (by kernel_rfl) rfl #[.int .i64 t116, .int .i64 2] (by rfl) rfl rfl (by (try simp only [List.map_toArray, List.map_cons, List.map_nil]); first | done | rfl | (simp only [List.length_drop, List.length_take]; rfl)) ?_
    with_reducible refine (spec_l2pad.calls kj2 t116 2 t124 _ A13.out).mono ?_
    rintro e w26 ⟨rfl, hb⟩
    refine ⟨_, rfl, ?_⟩
    have n0_ := Aside0.mk (blk_below (g := gb121) (o := .cells #[.int .i64 t114, .int .i64 t115, .int .i64 t116, .int .i64 t117, .int .i64 t118, .int .i64 t119] 30 (0, 0)) (by (with_reducible repeat (first | refine blk_drewN ?_ _ | refine blk_drew ?_ | refine blk_alloc ?_ _)); exact BK121.out) hb)
    have n1_ := Aside0.mk (below_step (by repeat (first | (with_reducible first | exact HB.out | apply below_alloc | apply pw_below_drewN | apply below_drew1 | refine below_set ?_ GE121.out) | exact HB.out)) hb)
    clear BK121
    clear HB
    have BK121 := n0_
    have HB := n1_
    clear n0_ n1_
    (try clear hb)
    (try clear hb2)
    (try clear hk)
    (try clear hi)
    refine hK.out _ _ ⟨(blk_cell BK121.out 0).trans rfl, (blk_cell BK121.out 1).trans rfl, (blk_cell BK121.out 2).trans rfl, (blk_cell BK121.out 3).trans rfl, (blk_cell BK121.out 4).trans rfl, (blk_cell BK121.out 5).trans rfl⟩ (fun hHeld => ?_)
    clear hK K
    refine norm_ (a' := ?_) ?_ ?_
    rotate_left
    ·
     show Act.put _ (some 23) _ = _
     simp only [Act.put, List.setIfInBounds_toArray, List.set_cons_zero, List.set_cons_succ, i64_w, i32_w]
     rfl
    refine pure_ (i := 7) (N := some 24) (v := ?_) (a' := ?_) #[true, true, true, true, true, true, true, true, false, true, true, false, false, false, true, true, true, false, false, false, true, false, false, false, false] rfl rfl (any_of HT_.out (by kernel_rfl)) (fun _ _ _ h => h) (Or.inl ⟨by rfl, ?_⟩) ?_ ?_
    rotate_left
    ·
     intro w'
     go_simp
     with_reducible rfl
    rotate_left
    ·
     simp only [Act.put, List.setIfInBounds_toArray, List.set_cons_zero, List.set_cons_succ, i64_w, i32_w]
     rfl
    refine pure_ (i := 8) (N := some 25) (v := ?_) (a' := ?_) #[true, true, true, true, true, true, true, true, true, true, true, false, false, false, true, true, true, false, false, false, true, false, false, false, false] rfl rfl (any_of HT_.out (by kernel_rfl)) (fun _ _ _ h => h) (Or.inl ⟨by rfl, ?_⟩) ?_ ?_
    rotate_left
    ·
     intro w'
     go_simp
     with_reducible rfl
    rotate_left
    ·
     simp only [Act.put, List.setIfInBounds_toArray, List.set_cons_zero, List.set_cons_succ, i64_w, i32_w]
     rfl
    refine one_ (i := 11) (N := some 28) #[true, true, true, true, true, true, true, true, true, true, true, true, false, false, true, true, true, false, false, false, true, false, false, false, false] rfl rfl (one_of HT_.out (by kernel_rfl)) (by decide) (fun K hK => ?_)
    refine goes_ Tryd.func52 (by kernel_rfl) rfl #[.int .i64 t115] (by rfl) rfl rfl (by (try simp only [List.map_toArray, List.map_cons, List.map_nil]); first | done | rfl | (simp only [List.length_drop, List.length_take]; rfl)) ?_
    with_reducible refine (spec_l2monthName.calls t115 t125 _ A16.out).mono ?_
    rintro e w' ⟨rfl, ⟨nd, rfl⟩⟩
    refine ⟨_, rfl, ?_⟩
    refine hK.out _ _ ⟨(blk_cell BK121.out 0).trans rfl, (blk_cell BK121.out 1).trans rfl, (blk_cell BK121.out 2).trans rfl, (blk_cell BK121.out 3).trans rfl, (blk_cell BK121.out 4).trans rfl, (blk_cell BK121.out 5).trans rfl⟩ (fun hHeld => ?_)
    clear hK K
    refine norm_ (a' := ?_) ?_ ?_
    rotate_left
    ·
     show Act.put _ (some 28) _ = _
     simp only [Act.put, List.setIfInBounds_toArray, List.set_cons_zero, List.set_cons_succ, i64_w, i32_w]
     rfl
    refine pure_ (i := 12) (N := some 29) (v := ?_) (a' := ?_) #[true, true, true, true, true, true, true, true, true, true, true, true, true, false, true, true, true, false, false, false, true, false, false, false, false] rfl rfl (any_of HT_.out (by kernel_rfl)) (fun _ _ _ h => h) (Or.inl ⟨by rfl, ?_⟩) ?_ ?_
    rotate_left
    ·
     intro w'
     go_simp
     with_reducible rfl
    rotate_left
    ·
     simp only [Act.put, List.setIfInBounds_toArray, List.set_cons_zero, List.set_cons_succ, i64_w, i32_w]
     rfl
    refine pure_ (i := 13) (N := some 30) (v := ?_) (a' := ?_) #[true, true, true, true, true, true, true, true, true, true, true, true, true, true, true, true, true, false, false, false, true, false, false, false, false] rfl rfl (any_of HT_.out (by kernel_rfl)) (fun _ _ _ h => h) (Or.inl ⟨by rfl, ?_⟩) ?_ ?_
    rotate_left
    ·
     intro w'
     go_simp
     with_reducible rfl
    rotate_left
    ·
     simp only [Act.put, List.setIfInBounds_toArray, List.set_cons_zero, List.set_cons_succ, i64_w, i32_w]
     rfl
    refine one_ (i := 17) (N := some 34) #[true, true, true, true, true, true, true, true, true, true, true, true, true, true, true, true, true, true, false, false, true, false, false, false, false] rfl rfl (one_of HT_.out (by kernel_rfl)) (by decide) (fun K hK => ?_)
    refine goes_ Tryd.func40 (by kernel_rfl) rfl #[.int .i64 (Int.tmod t114 100), .int .i64 2] (by rfl) rfl rfl (by (try simp only [List.map_toArray, List.map_cons, List.map_nil]); first | done | rfl | (simp only [List.length_drop, List.length_take]; rfl)) ?_
    with_reducible refine (spec_l2pad.calls kj2 (Int.tmod t114 100) 2 t126 _ A19.out).mono ?_
    rintro e w27 ⟨rfl, hb⟩
    refine ⟨_, rfl, ?_⟩
    have n0_ := Aside0.mk (blk_below (g := gb121) (o := .cells #[.int .i64 t114, .int .i64 t115, .int .i64 t116, .int .i64 t117, .int .i64 t118, .int .i64 t119] 30 (0, 0)) (by (with_reducible repeat (first | refine blk_drewN ?_ _ | refine blk_drew ?_ | refine blk_alloc ?_ _)); exact BK121.out) hb)
    have n1_ := Aside0.mk (below_step (by repeat (first | (with_reducible first | exact HB.out | apply below_alloc | apply pw_below_drewN | apply below_drew1 | refine below_set ?_ GE121.out) | exact HB.out)) hb)
    clear BK121
    clear HB
    have BK121 := n0_
    have HB := n1_
    clear n0_ n1_
    (try clear hb)
    (try clear hb2)
    (try clear hk)
    (try clear hi)
    refine hK.out _ _ ⟨(blk_cell BK121.out 0).trans rfl, (blk_cell BK121.out 1).trans rfl, (blk_cell BK121.out 2).trans rfl, (blk_cell BK121.out 3).trans rfl, (blk_cell BK121.out 4).trans rfl, (blk_cell BK121.out 5).trans rfl⟩ (fun hHeld => ?_)
    clear hK K
    refine norm_ (a' := ?_) ?_ ?_
    rotate_left
    ·
     show Act.put _ (some 34) _ = _
     simp only [Act.put, List.setIfInBounds_toArray, List.set_cons_zero, List.set_cons_succ, i64_w, i32_w]
     rfl
    refine pure_ (i := 18) (N := some 35) (v := ?_) (a' := ?_) #[true, true, true, true, true, true, true, true, true, true, true, true, true, true, true, true, true, true, true, false, true, false, false, false, false] rfl rfl (any_of HT_.out (by kernel_rfl)) (fun _ _ _ h => h) (Or.inl ⟨by rfl, ?_⟩) ?_ ?_
    rotate_left
    ·
     intro w'
     go_simp
     with_reducible rfl
    rotate_left
    ·
     simp only [Act.put, List.setIfInBounds_toArray, List.set_cons_zero, List.set_cons_succ, i64_w, i32_w]
     rfl
    refine pure_ (i := 19) (N := some 36) (v := ?_) (a' := ?_) #[true, true, true, true, true, true, true, true, true, true, true, true, true, true, true, true, true, true, true, true, true, false, false, false, false] rfl rfl (any_of HT_.out (by kernel_rfl)) (fun _ _ _ h => h) (Or.inl ⟨by rfl, ?_⟩) ?_ ?_
    rotate_left
    ·
     intro w'
     go_simp
     with_reducible rfl
    rotate_left
    ·
     simp only [Act.put, List.setIfInBounds_toArray, List.set_cons_zero, List.set_cons_succ, i64_w, i32_w]
     rfl
    refine one_ (i := 21) (N := some 38) #[true, true, true, true, true, true, true, true, true, true, true, true, true, true, true, true, true, true, true, true, true, true, false, false, false] rfl rfl (one_of HT_.out (by kernel_rfl)) (by decide) (fun K hK => ?_)
    refine goes_ Tryd.func42 (by kernel_rfl) rfl #[.agg #[.int .i64 t114, .int .i64 t115, .int .i64 t116, .int .i64 t117, .int .i64 t118, .int .i64 t119]] (by rfl) rfl rfl (by (try simp only [List.map_toArray, List.map_cons, List.map_nil]); first | done | rfl | (simp only [List.length_drop, List.length_take]; rfl)) ?_
    with_reducible refine (spec_l2clock.calls kj2 t114 t115 t116 t117 t118 t119 t127 _ A22.out).mono ?_
    rintro e w28 ⟨rfl, hb⟩
    refine ⟨_, rfl, ?_⟩
    have n0_ := Aside0.mk (blk_below (g := gb121) (o := .cells #[.int .i64 t114, .int .i64 t115, .int .i64 t116, .int .i64 t117, .int .i64 t118, .int .i64 t119] 30 (0, 0)) (by (with_reducible repeat (first | refine blk_drewN ?_ _ | refine blk_drew ?_ | refine blk_alloc ?_ _)); exact BK121.out) hb)
    have n1_ := Aside0.mk (below_step (by repeat (first | (with_reducible first | exact HB.out | apply below_alloc | apply pw_below_drewN | apply below_drew1 | refine below_set ?_ GE121.out) | exact HB.out)) hb)
    clear BK121
    clear HB
    have BK121 := n0_
    have HB := n1_
    clear n0_ n1_
    (try clear hb)
    (try clear hb2)
    (try clear hk)
    (try clear hi)
    refine hK.out _ _ ⟨(blk_cell BK121.out 0).trans rfl, (blk_cell BK121.out 1).trans rfl, (blk_cell BK121.out 2).trans rfl, (blk_cell BK121.out 3).trans rfl, (blk_cell BK121.out 4).trans rfl, (blk_cell BK121.out 5).trans rfl⟩ (fun hHeld => ?_)
    clear hK K
    refine norm_ (a' := ?_) ?_ ?_
    rotate_left
    ·
     show Act.put _ (some 38) _ = _
     simp only [Act.put, List.setIfInBounds_toArray, List.set_cons_zero, List.set_cons_succ, i64_w, i32_w]
     rfl
    refine pure_ (i := 22) (N := some 39) (v := ?_) (a' := ?_) #[true, true, true, true, true, true, true, true, true, true, true, true, true, true, true, true, true, true, true, true, true, true, true, false, false] rfl rfl (any_of HT_.out (by kernel_rfl)) (fun _ _ _ h => h) (Or.inl ⟨by rfl, ?_⟩) ?_ ?_
    rotate_left
    ·
     intro w'
     go_simp
     with_reducible rfl
    rotate_left
    ·
     simp only [Act.put, List.setIfInBounds_toArray, List.set_cons_zero, List.set_cons_succ, i64_w, i32_w]
     rfl
    refine pure_ (i := 23) (N := some 40) (v := ?_) (a' := ?_) #[true, true, true, true, true, true, true, true, true, true, true, true, true, true, true, true, true, true, true, true, true, true, true, true, false] rfl rfl (any_of HT_.out (by kernel_rfl)) (fun _ _ _ h => h) (Or.inl ⟨by rfl, ?_⟩) ?_ ?_
    rotate_left
    ·
     intro w'
     go_simp
     with_reducible rfl
    rotate_left
    ·
     simp only [Act.put, List.setIfInBounds_toArray, List.set_cons_zero, List.set_cons_succ, i64_w, i32_w]
     rfl
    refine pure_ (i := 24) (N := some 2) (v := ?_) (a' := ?_) #[true, true, true, true, true, true, true, true, true, true, true, true, true, true, true, true, true, true, true, true, true, true, true, true, true] rfl rfl (any_of HT_.out (by kernel_rfl)) (fun _ _ _ h => h) (Or.inl ⟨by rfl, ?_⟩) ?_ ?_
    rotate_left
    ·
     intro w'
     go_simp
     with_reducible rfl
    rotate_left
    ·
     simp only [Act.put, List.setIfInBounds_toArray, List.set_cons_zero, List.set_cons_succ, i64_w, i32_w]
     rfl
    refine done_ (done_of HT_.out (by kernel_rfl)) ?_
    try go_wp2
    go_ret
    exact ⟨by first | rfl | (simp [errW_none, errW_some] <;> rfl) | (simp [*, errW_none, errW_some] <;> rfl), by repeat (first | (with_reducible first | exact HB.out | apply below_alloc | apply pw_below_drewN | apply below_drew1 | refine below_set ?_ GE121.out) | exact HB.out)⟩

/-! ### impl_within: function 49 -/
def impl_within.f (a0 : Int) (a1 : Int) (a2 : Int) : Option (Bool) := if a1 ≤ a0 then (some (decide (a0 ≤ a2))) else (some false)
set_option maxHeartbeats 8000000 in
set_option maxRecDepth 100000 in
theorem impl_within.calls (a0 : Int) (a1 : Int) (a2 : Int) (r : Bool) (w : World) (h : impl_within.f a0 a1 a2 = some r) :
  Calls Tryd.prog 49 #[.int .i64 a0, .int .i64 a1, .int .i64 a2] w fun e w' => e = .returned (.bool r) ∧ Drawn0 w w' := by
 have H : (if a1 ≤ a0 then (some (decide (a0 ≤ a2))) else (some false)) = some r := h
 clear h
 by_cases c4 : a1 ≤ a0
 ·
  rw [if_pos c4] at H
  have c4b0 : decide (a1 ≤ a0) = true := decide_eq_true c4
  clear c4
  obtain rfl := Option.some.inj H
  go_enter Tryd.func49, Tryd.ntmps49
  go_wp2
  go_ret
  exact ⟨by first | rfl | (simp; done) | (simp [*]; done), by repeat (first | exact Drawn0.refl _ | apply Drawn0.step)⟩
 ·
  rw [if_neg c4] at H
  have c4b0 : decide (a1 ≤ a0) = false := decide_eq_false c4
  clear c4
  obtain rfl := Option.some.inj H
  go_enter Tryd.func49, Tryd.ntmps49
  go_wp2
  go_ret
  exact ⟨by first | rfl | (simp; done) | (simp [*]; done), by repeat (first | exact Drawn0.refl _ | apply Drawn0.step)⟩

/-! ### impl_isTime: function 45 -/
def impl_isTime.f (a0 : Int) : Option (Bool) := (impl_within.f a0 0 253402300799).bind fun t128 => (some t128)
set_option maxHeartbeats 8000000 in
set_option maxRecDepth 100000 in
theorem impl_isTime.calls (a0 : Int) (r : Bool) (w : World) (h : impl_isTime.f a0 = some r) :
  Calls Tryd.prog 45 #[.int .i64 a0] w fun e w' => e = .returned (.bool r) ∧ Drawn0 w w' := by
 have H : ((impl_within.f a0 0 253402300799).bind fun t128 => (some t128)) = some r := h
 clear h
 replace H := Option.bind_eq_some_iff.mp H
 obtain ⟨t128, A20, H⟩ := H
 replace H : (some t128) = some r := H
 have A2 := Aside0.mk A20
 clear A20
 obtain rfl := Option.some.inj H
 go_enter Tryd.func45, Tryd.ntmps45
 go_wp2_with (first | ((with_reducible refine gate_callee (f := 49) rfl ?_); refine goesL_ (some 4) rfl rfl Tryd.func49 (by kernel_rfl) rfl #[.int .i64 a0, .int .i64 0, .int .i64 253402300799] rfl (by (try simp only [List.map_toArray, List.map_cons, List.map_nil]); first | done | rfl | (simp only [List.length_drop, List.length_take]; rfl)) ?_; (with_reducible refine (impl_within.calls a0 0 253402300799 t128 _ A2.out).mono ?_); rintro e w' ⟨rfl, ⟨nd, rfl⟩⟩; refine ⟨_, rfl, ?_⟩))
 go_ret
 exact ⟨by first | rfl | (simp; done) | (simp [*]; done), by repeat (first | exact Drawn0.refl _ | apply Drawn0.step)⟩

/-! ### impl_Weekday: function 23 -/
def impl_Weekday.f (a0 : Int) : Option (Int) := (impl_isTime.f a0).bind fun t129 => (if t129 = true then (some (Int.tmod (wrap64 ((wrap64 (Int.tdiv a0 86400)) + 3)) 7)) else (some (-1)))
set_option maxHeartbeats 8000000 in
set_option maxRecDepth 100000 in
theorem impl_Weekday.calls (a0 : Int) (r : Int) (w : World) (h : impl_Weekday.f a0 = some r) :
  Calls Tryd.prog 23 #[.int .i64 a0] w fun e w' => e = .returned (.int .i64 r) ∧ Drawn0 w w' := by
 have H : ((impl_isTime.f a0).bind fun t129 => (if t129 = true then (some (Int.tmod (wrap64 ((wrap64 (Int.tdiv a0 86400)) + 3)) 7)) else (some (-1)))) = some r := h
 clear h
 replace H := Option.bind_eq_some_iff.mp H
 obtain ⟨t129, A20, H⟩ := H
 replace H : (if t129 = true then (some (Int.tmod (wrap64 ((wrap64 (Int.tdiv a0 86400)) + 3)) 7)) else (some (-1))) = some r := H
 have A2 := Aside0.mk A20
 clear A20
 by_cases c3 : t129 = true
 ·
  subst c3
  have H1 : (some (Int.tmod (wrap64 ((wrap64 (Int.tdiv a0 86400)) + 3)) 7)) = some r := by rw [if_pos rfl] at H; exact H
  clear H
  have H := H1
  clear H1
  obtain rfl := Option.some.inj H
  go_enter Tryd.func23, Tryd.ntmps23
  go_wp2_with (first | ((with_reducible refine gate_callee (f := 45) rfl ?_); refine goesL_ (some 4) rfl rfl Tryd.func45 (by kernel_rfl) rfl #[.int .i64 a0] rfl (by (try simp only [List.map_toArray, List.map_cons, List.map_nil]); first | done | rfl | (simp only [List.length_drop, List.length_take]; rfl)) ?_; (with_reducible refine (impl_isTime.calls a0 true _ A2.out).mono ?_); rintro e w' ⟨rfl, ⟨nd, rfl⟩⟩; refine ⟨_, rfl, ?_⟩))
  go_ret
  exact ⟨by first | rfl | (simp; done) | (simp [*]; done), by repeat (first | exact Drawn0.refl _ | apply Drawn0.step)⟩
 ·
  replace c3 := Bool.eq_false_iff.mpr c3
  subst c3
  have H1 : (some (-1)) = some r := by rw [if_neg (show ¬ (false = true) by decide)] at H; exact H
  clear H
  have H := H1
  clear H1
  obtain rfl := Option.some.inj H
  go_enter Tryd.func23, Tryd.ntmps23
  go_wp2_with (first | ((with_reducible refine gate_callee (f := 45) rfl ?_); refine goesL_ (some 4) rfl rfl Tryd.func45 (by kernel_rfl) rfl #[.int .i64 a0] rfl (by (try simp only [List.map_toArray, List.map_cons, List.map_nil]); first | done | rfl | (simp only [List.length_drop, List.length_take]; rfl)) ?_; (with_reducible refine (impl_isTime.calls a0 false _ A2.out).mono ?_); rintro e w' ⟨rfl, ⟨nd, rfl⟩⟩; refine ⟨_, rfl, ?_⟩))
  go_ret
  exact ⟨by first | rfl | (simp; done) | (simp [*]; done), by repeat (first | exact Drawn0.refl _ | apply Drawn0.step)⟩

-- told elsewhere: function 46 (impl_civilOf)

/-! ### impl_days: function 53 -/
def impl_days.f  : Option (List ByteArray) := some (([(⟨#[77, 111, 110, 100, 97, 121]⟩ : ByteArray), (⟨#[84, 117, 101, 115, 100, 97, 121]⟩ : ByteArray), (⟨#[87, 101, 100, 110, 101, 115, 100, 97, 121]⟩ : ByteArray), (⟨#[84, 104, 117, 114, 115, 100, 97, 121]⟩ : ByteArray), (⟨#[70, 114, 105, 100, 97, 121]⟩ : ByteArray), (⟨#[83, 97, 116, 117, 114, 100, 97, 121]⟩ : ByteArray), (⟨#[83, 117, 110, 100, 97, 121]⟩ : ByteArray)] : List ByteArray))
set_option maxHeartbeats 8000000 in
set_option maxRecDepth 100000 in
theorem impl_days.calls  (r : List ByteArray) (w : World) (h : impl_days.f  = some r) :
  Calls Tryd.prog 53 #[] w fun e w' => ∃ v0_ : Value, e = .returned (v0_) ∧ Kd.R Kd.string 9 w' w.heap.size (fun _ => True) v0_ r ∧ Below w.heap.size w w' := by
 have HB := Aside0.mk (Below.refl w.heap.size w)
 have H : (some (([(⟨#[77, 111, 110, 100, 97, 121]⟩ : ByteArray), (⟨#[84, 117, 101, 115, 100, 97, 121]⟩ : ByteArray), (⟨#[87, 101, 100, 110, 101, 115, 100, 97, 121]⟩ : ByteArray), (⟨#[84, 104, 117, 114, 115, 100, 97, 121]⟩ : ByteArray), (⟨#[70, 114, 105, 100, 97, 121]⟩ : ByteArray), (⟨#[83, 97, 116, 117, 114, 100, 97, 121]⟩ : ByteArray), (⟨#[83, 117, 110, 100, 97, 121]⟩ : ByteArray)] : List ByteArray))) = some r := h
 clear h
 obtain ⟨y130, hy130⟩ : ∃ y_ : List ByteArray, y_ = (([(⟨#[77, 111, 110, 100, 97, 121]⟩ : ByteArray), (⟨#[84, 117, 101, 115, 100, 97, 121]⟩ : ByteArray), (⟨#[87, 101, 100, 110, 101, 115, 100, 97, 121]⟩ : ByteArray), (⟨#[84, 104, 117, 114, 115, 100, 97, 121]⟩ : ByteArray), (⟨#[70, 114, 105, 100, 97, 121]⟩ : ByteArray), (⟨#[83, 97, 116, 117, 114, 100, 97, 121]⟩ : ByteArray), (⟨#[83, 117, 110, 100, 97, 121]⟩ : ByteArray)] : List ByteArray)) := ⟨_, rfl⟩
 replace H : (some y130) = some r := by first | (rw [hy130]; with_reducible exact H) | (have H2_ := (Option.bind_some _ _).symm.trans H; rw [hy130]; with_reducible exact H2_) | (have H2_ := (Option.bind_some _ _).symm.trans H; with_reducible exact H2_) | with_reducible exact H | (rw [hy130]; exact H) | exact H
 have Ny130 := Aside0.mk hy130
 clear hy130
 obtain rfl := Option.some.inj H
 go_enter Tryd.func53, Tryd.ntmps53
 go_wp2_with (first | ((with_reducible refine gate_dst (N := 1) rfl ?_); refine Kd.R_lit Kd.string _ 9 ?hg (N := 1) ?hd (xs := ([(⟨#[77, 111, 110, 100, 97, 121]⟩ : ByteArray), (⟨#[84, 117, 101, 115, 100, 97, 121]⟩ : ByteArray), (⟨#[87, 101, 100, 110, 101, 115, 100, 97, 121]⟩ : ByteArray), (⟨#[84, 104, 117, 114, 115, 100, 97, 121]⟩ : ByteArray), (⟨#[70, 114, 105, 100, 97, 121]⟩ : ByteArray), (⟨#[83, 97, 116, 117, 114, 100, 97, 121]⟩ : ByteArray), (⟨#[83, 117, 110, 100, 97, 121]⟩ : ByteArray)] : List ByteArray)) (inner := [.string (⟨#[77, 111, 110, 100, 97, 121]⟩ : ByteArray), .string (⟨#[84, 117, 101, 115, 100, 97, 121]⟩ : ByteArray), .string (⟨#[87, 101, 100, 110, 101, 115, 100, 97, 121]⟩ : ByteArray), .string (⟨#[84, 104, 117, 114, 115, 100, 97, 121]⟩ : ByteArray), .string (⟨#[70, 114, 105, 100, 97, 121]⟩ : ByteArray), .string (⟨#[83, 97, 116, 117, 114, 100, 97, 121]⟩ : ByteArray), .string (⟨#[83, 117, 110, 100, 97, 121]⟩ : ByteArray)]) (ok := fun _ => True) (okp := fun _ => True) ?hr ?hp (fun _ hk => hk) trivial (Below.refl _ _) (Nat.le_refl _) (by simp) ?_; (case hd => rfl); (case hg => rfl); (case hr => first | (go_simp; done) | (go_simp; rfl)); (case hp => exact (Reps.one (show Kd.M Kd.string _ _ _ (⟨#[77, 111, 110, 100, 97, 121]⟩ : ByteArray) [.string (⟨#[77, 111, 110, 100, 97, 121]⟩ : ByteArray)] from rfl) (Reps.one (show Kd.M Kd.string _ _ _ (⟨#[84, 117, 101, 115, 100, 97, 121]⟩ : ByteArray) [.string (⟨#[84, 117, 101, 115, 100, 97, 121]⟩ : ByteArray)] from rfl) (Reps.one (show Kd.M Kd.string _ _ _ (⟨#[87, 101, 100, 110, 101, 115, 100, 97, 121]⟩ : ByteArray) [.string (⟨#[87, 101, 100, 110, 101, 115, 100, 97, 121]⟩ : ByteArray)] from rfl) (Reps.one (show Kd.M Kd.string _ _ _ (⟨#[84, 104, 117, 114, 115, 100, 97, 121]⟩ : ByteArray) [.string (⟨#[84, 104, 117, 114, 115, 100, 97, 121]⟩ : ByteArray)] from rfl) (Reps.one (show Kd.M Kd.string _ _ _ (⟨#[70, 114, 105, 100, 97, 121]⟩ : ByteArray) [.string (⟨#[70, 114, 105, 100, 97, 121]⟩ : ByteArray)] from rfl) (Reps.one (show Kd.M Kd.string _ _ _ (⟨#[83, 97, 116, 117, 114, 100, 97, 121]⟩ : ByteArray) [.string (⟨#[83, 97, 116, 117, 114, 100, 97, 121]⟩ : ByteArray)] from rfl) (Reps.one (show Kd.M Kd.string _ _ _ (⟨#[83, 117, 110, 100, 97, 121]⟩ : ByteArray) [.string (⟨#[83, 117, 110, 100, 97, 121]⟩ : ByteArray)] from rfl) (Reps.none _ _))))))))); intro v131 w1 ho2 hb hg_ hnew_; clear hg_ hnew_; (first | rw [← Ny130.out] at ho2 | (simp only [Int.reduceToNat] at ho2; rw [← Ny130.out] at ho2)); have n0_ := Aside0.mk (Kd.R_lower ho2 (below_size (by repeat (first | (with_reducible first | exact HB.out | apply below_alloc | apply pw_below_drewN | apply below_drew1) | exact HB.out)))); have n1_ := Aside0.mk (below_step (by repeat (first | (with_reducible first | exact HB.out | apply below_alloc | apply pw_below_drewN | apply below_drew1) | exact HB.out)) hb); clear HB; have HO132 := n0_; have HB := n1_; clear n0_ n1_; clear hb ho2))
 go_ret
 exact ⟨_, by first | rfl | (simp [errW_none, errW_some] <;> rfl) | (simp [*, errW_none, errW_some] <;> rfl), by (with_reducible repeat (first | apply Kd.R_alloc | apply Kd.R_drewN | apply Kd.R_drew)); exact HO132.out, by repeat (first | (with_reducible first | exact HB.out | apply below_alloc | apply pw_below_drewN | apply below_drew1) | exact HB.out)⟩

-- told elsewhere: function 54 (impl_digits)

/-! ### impl_months: function 55 -/
def impl_months.f  : Option (List ByteArray) := some (([(⟨#[74, 97, 110]⟩ : ByteArray), (⟨#[70, 101, 98]⟩ : ByteArray), (⟨#[77, 97, 114]⟩ : ByteArray), (⟨#[65, 112, 114]⟩ : ByteArray), (⟨#[77, 97, 121]⟩ : ByteArray), (⟨#[74, 117, 110]⟩ : ByteArray), (⟨#[74, 117, 108]⟩ : ByteArray), (⟨#[65, 117, 103]⟩ : ByteArray), (⟨#[83, 101, 112]⟩ : ByteArray), (⟨#[79, 99, 116]⟩ : ByteArray), (⟨#[78, 111, 118]⟩ : ByteArray), (⟨#[68, 101, 99]⟩ : ByteArray)] : List ByteArray))
set_option maxHeartbeats 8000000 in
set_option maxRecDepth 100000 in
theorem impl_months.calls  (r : List ByteArray) (w : World) (h : impl_months.f  = some r) :
  Calls Tryd.prog 55 #[] w fun e w' => ∃ v0_ : Value, e = .returned (v0_) ∧ Kd.R Kd.string 9 w' w.heap.size (fun _ => True) v0_ r ∧ Below w.heap.size w w' := by
 have HB := Aside0.mk (Below.refl w.heap.size w)
 have H : (some (([(⟨#[74, 97, 110]⟩ : ByteArray), (⟨#[70, 101, 98]⟩ : ByteArray), (⟨#[77, 97, 114]⟩ : ByteArray), (⟨#[65, 112, 114]⟩ : ByteArray), (⟨#[77, 97, 121]⟩ : ByteArray), (⟨#[74, 117, 110]⟩ : ByteArray), (⟨#[74, 117, 108]⟩ : ByteArray), (⟨#[65, 117, 103]⟩ : ByteArray), (⟨#[83, 101, 112]⟩ : ByteArray), (⟨#[79, 99, 116]⟩ : ByteArray), (⟨#[78, 111, 118]⟩ : ByteArray), (⟨#[68, 101, 99]⟩ : ByteArray)] : List ByteArray))) = some r := h
 clear h
 obtain ⟨y133, hy133⟩ : ∃ y_ : List ByteArray, y_ = (([(⟨#[74, 97, 110]⟩ : ByteArray), (⟨#[70, 101, 98]⟩ : ByteArray), (⟨#[77, 97, 114]⟩ : ByteArray), (⟨#[65, 112, 114]⟩ : ByteArray), (⟨#[77, 97, 121]⟩ : ByteArray), (⟨#[74, 117, 110]⟩ : ByteArray), (⟨#[74, 117, 108]⟩ : ByteArray), (⟨#[65, 117, 103]⟩ : ByteArray), (⟨#[83, 101, 112]⟩ : ByteArray), (⟨#[79, 99, 116]⟩ : ByteArray), (⟨#[78, 111, 118]⟩ : ByteArray), (⟨#[68, 101, 99]⟩ : ByteArray)] : List ByteArray)) := ⟨_, rfl⟩
 replace H : (some y133) = some r := by first | (rw [hy133]; with_reducible exact H) | (have H2_ := (Option.bind_some _ _).symm.trans H; rw [hy133]; with_reducible exact H2_) | (have H2_ := (Option.bind_some _ _).symm.trans H; with_reducible exact H2_) | with_reducible exact H | (rw [hy133]; exact H) | exact H
 have Ny133 := Aside0.mk hy133
 clear hy133
 obtain rfl := Option.some.inj H
 go_enter Tryd.func55, Tryd.ntmps55
 go_wp2_with (first | ((with_reducible refine gate_dst (N := 1) rfl ?_); refine Kd.R_lit Kd.string _ 9 ?hg (N := 1) ?hd (xs := ([(⟨#[74, 97, 110]⟩ : ByteArray), (⟨#[70, 101, 98]⟩ : ByteArray), (⟨#[77, 97, 114]⟩ : ByteArray), (⟨#[65, 112, 114]⟩ : ByteArray), (⟨#[77, 97, 121]⟩ : ByteArray), (⟨#[74, 117, 110]⟩ : ByteArray), (⟨#[74, 117, 108]⟩ : ByteArray), (⟨#[65, 117, 103]⟩ : ByteArray), (⟨#[83, 101, 112]⟩ : ByteArray), (⟨#[79, 99, 116]⟩ : ByteArray), (⟨#[78, 111, 118]⟩ : ByteArray), (⟨#[68, 101, 99]⟩ : ByteArray)] : List ByteArray)) (inner := [.string (⟨#[74, 97, 110]⟩ : ByteArray), .string (⟨#[70, 101, 98]⟩ : ByteArray), .string (⟨#[77, 97, 114]⟩ : ByteArray), .string (⟨#[65, 112, 114]⟩ : ByteArray), .string (⟨#[77, 97, 121]⟩ : ByteArray), .string (⟨#[74, 117, 110]⟩ : ByteArray), .string (⟨#[74, 117, 108]⟩ : ByteArray), .string (⟨#[65, 117, 103]⟩ : ByteArray), .string (⟨#[83, 101, 112]⟩ : ByteArray), .string (⟨#[79, 99, 116]⟩ : ByteArray), .string (⟨#[78, 111, 118]⟩ : ByteArray), .string (⟨#[68, 101, 99]⟩ : ByteArray)]) (ok := fun _ => True) (okp := fun _ => True) ?hr ?hp (fun _ hk => hk) trivial (Below.refl _ _) (Nat.le_refl _) (by simp) ?_; (case hd => rfl); (case hg => rfl); (case hr => first | (go_simp; done) | (go_simp; rfl)); (case hp => exact (Reps.one (show Kd.M Kd.string _ _ _ (⟨#[74, 97, 110]⟩ : ByteArray) [.string (⟨#[74, 97, 110]⟩ : ByteArray)] from rfl) (Reps.one (show Kd.M Kd.string _ _ _ (⟨#[70, 101, 98]⟩ : ByteArray) [.string (⟨#[70, 101, 98]⟩ : ByteArray)] from rfl) (Reps.one (show Kd.M Kd.string _ _ _ (⟨#[77, 97, 114]⟩ : ByteArray) [.string (⟨#[77, 97, 114]⟩ : ByteArray)] from rfl) (Reps.one (show Kd.M Kd.string _ _ _ (⟨#[65, 112, 114]⟩ : ByteArray) [.string (⟨#[65, 112, 114]⟩ : ByteArray)] from rfl) (Reps.one (show Kd.M Kd.string _ _ _ (⟨#[77, 97, 121]⟩ : ByteArray) [.string (⟨#[77, 97, 121]⟩ : ByteArray)] from rfl) (Reps.one (show Kd.M Kd.string _ _ _ (⟨#[74, 117, 110]⟩ : ByteArray) [.string (⟨#[74, 117, 110]⟩ : ByteArray)] from rfl) (Reps.one (show Kd.M Kd.string _ _ _ (⟨#[74, 117, 108]⟩ : ByteArray) [.string (⟨#[74, 117, 108]⟩ : ByteArray)] from rfl) (Reps.one (show Kd.M Kd.string _ _ _ (⟨#[65, 117, 103]⟩ : ByteArray) [.string (⟨#[65, 117, 103]⟩ : ByteArray)] from rfl) (Reps.one (show Kd.M Kd.string _ _ _ (⟨#[83, 101, 112]⟩ : ByteArray) [.string (⟨#[83, 101, 112]⟩ : ByteArray)] from rfl) (Reps.one (show Kd.M Kd.string _ _ _ (⟨#[79, 99, 116]⟩ : ByteArray) [.string (⟨#[79, 99, 116]⟩ : ByteArray)] from rfl) (Reps.one (show Kd.M Kd.string _ _ _ (⟨#[78, 111, 118]⟩ : ByteArray) [.string (⟨#[78, 111, 118]⟩ : ByteArray)] from rfl) (Reps.one (show Kd.M Kd.string _ _ _ (⟨#[68, 101, 99]⟩ : ByteArray) [.string (⟨#[68, 101, 99]⟩ : ByteArray)] from rfl) (Reps.none _ _)))))))))))))); intro v134 w1 ho2 hb hg_ hnew_; clear hg_ hnew_; (first | rw [← Ny133.out] at ho2 | (simp only [Int.reduceToNat] at ho2; rw [← Ny133.out] at ho2)); have n0_ := Aside0.mk (Kd.R_lower ho2 (below_size (by repeat (first | (with_reducible first | exact HB.out | apply below_alloc | apply pw_below_drewN | apply below_drew1) | exact HB.out)))); have n1_ := Aside0.mk (below_step (by repeat (first | (with_reducible first | exact HB.out | apply below_alloc | apply pw_below_drewN | apply below_drew1) | exact HB.out)) hb); clear HB; have HO135 := n0_; have HB := n1_; clear n0_ n1_; clear hb ho2))
 go_ret
 exact ⟨_, by first | rfl | (simp [errW_none, errW_some] <;> rfl) | (simp [*, errW_none, errW_some] <;> rfl), by (with_reducible repeat (first | apply Kd.R_alloc | apply Kd.R_drewN | apply Kd.R_drew)); exact HO135.out, by repeat (first | (with_reducible first | exact HB.out | apply below_alloc | apply pw_below_drewN | apply below_drew1) | exact HB.out)⟩

/-! ### impl_clock: function 56 -/
def impl_clock.f (a0_0 : Int) (a0_1 : Int) (a0_2 : Int) (a0_3 : Int) (a0_4 : Int) (a0_5 : Int) : Option (ByteArray) := (impl_digits.f a0_3 2).bind fun t137 => (if t137.size + 1 ≤ 9223372036854775807 then ((impl_digits.f a0_4 2).bind fun t138 => (if (t137 ++ (⟨#[58]⟩ : ByteArray)).size + t138.size ≤ 9223372036854775807 then (if ((t137 ++ (⟨#[58]⟩ : ByteArray)) ++ t138).size + 1 ≤ 9223372036854775807 then ((impl_digits.f a0_5 2).bind fun t139 => (if (((t137 ++ (⟨#[58]⟩ : ByteArray)) ++ t138) ++ (⟨#[58]⟩ : ByteArray)).size + t139.size ≤ 9223372036854775807 then (some ((((t137 ++ (⟨#[58]⟩ : ByteArray)) ++ t138) ++ (⟨#[58]⟩ : ByteArray)) ++ t139)) else (none))) else (none)) else (none))) else (none))
set_option maxHeartbeats 8000000 in
set_option maxRecDepth 100000 in
theorem impl_clock.calls (a0_0 : Int) (a0_1 : Int) (a0_2 : Int) (a0_3 : Int) (a0_4 : Int) (a0_5 : Int) (r : ByteArray) (w : World) (h : impl_clock.f a0_0 a0_1 a0_2 a0_3 a0_4 a0_5 = some r) :
  Calls Tryd.prog 56 #[.agg #[.int .i64 a0_0, .int .i64 a0_1, .int .i64 a0_2, .int .i64 a0_3, .int .i64 a0_4, .int .i64 a0_5]] w fun e w' => e = .returned (.string r) ∧ Below w.heap.size w w' := by
 have hu30 := Tryd.underlying30
 have HB := Aside0.mk (Below.refl w.heap.size w)
 have H : ((impl_digits.f a0_3 2).bind fun t137 => (if t137.size + 1 ≤ 9223372036854775807 then ((impl_digits.f a0_4 2).bind fun t138 => (if (t137 ++ (⟨#[58]⟩ : ByteArray)).size + t138.size ≤ 9223372036854775807 then (if ((t137 ++ (⟨#[58]⟩ : ByteArray)) ++ t138).size + 1 ≤ 9223372036854775807 then ((impl_digits.f a0_5 2).bind fun t139 => (if (((t137 ++ (⟨#[58]⟩ : ByteArray)) ++ t138) ++ (⟨#[58]⟩ : ByteArray)).size + t139.size ≤ 9223372036854775807 then (some ((((t137 ++ (⟨#[58]⟩ : ByteArray)) ++ t138) ++ (⟨#[58]⟩ : ByteArray)) ++ t139)) else (none))) else (none)) else (none))) else (none))) = some r := h
 clear h
 replace H := Option.bind_eq_some_iff.mp H
 obtain ⟨t137, A20, H⟩ := H
 replace H : (if t137.size + 1 ≤ 9223372036854775807 then ((impl_digits.f a0_4 2).bind fun t138 => (if (t137 ++ (⟨#[58]⟩ : ByteArray)).size + t138.size ≤ 9223372036854775807 then (if ((t137 ++ (⟨#[58]⟩ : ByteArray)) ++ t138).size + 1 ≤ 9223372036854775807 then ((impl_digits.f a0_5 2).bind fun t139 => (if (((t137 ++ (⟨#[58]⟩ : ByteArray)) ++ t138) ++ (⟨#[58]⟩ : ByteArray)).size + t139.size ≤ 9223372036854775807 then (some ((((t137 ++ (⟨#[58]⟩ : ByteArray)) ++ t138) ++ (⟨#[58]⟩ : ByteArray)) ++ t139)) else (none))) else (none)) else (none))) else (none)) = some r := H
 have A2 := Aside0.mk A20
 clear A20
 have c3 : t137.size + 1 ≤ 9223372036854775807 := Classical.byContradiction fun h_ => by rw [if_neg h_] at H; exact absurd H (by simp)
 rw [if_pos c3] at H
 have c3b0 := eq_true c3
 have c3b1 : decide (t137.size + 1 ≤ 9223372036854775807) = true := decide_eq_true c3
 try have c3b2 : (9223372036854775807 < t137.size + 1) = False := eq_false (Nat.not_lt.2 c3)
 replace H := Option.bind_eq_some_iff.mp H
 obtain ⟨t138, A40, H⟩ := H
 replace H : (if (t137 ++ (⟨#[58]⟩ : ByteArray)).size + t138.size ≤ 9223372036854775807 then (if ((t137 ++ (⟨#[58]⟩ : ByteArray)) ++ t138).size + 1 ≤ 9223372036854775807 then ((impl_digits.f a0_5 2).bind fun t139 => (if (((t137 ++ (⟨#[58]⟩ : ByteArray)) ++ t138) ++ (⟨#[58]⟩ : ByteArray)).size + t139.size ≤ 9223372036854775807 then (some ((((t137 ++ (⟨#[58]⟩ : ByteArray)) ++ t138) ++ (⟨#[58]⟩ : ByteArray)) ++ t139)) else (none))) else (none)) else (none)) = some r := H
 have A4 := Aside0.mk A40
 clear A40
 have c5 : (t137 ++ (⟨#[58]⟩ : ByteArray)).size + t138.size ≤ 9223372036854775807 := Classical.byContradiction fun h_ => by rw [if_neg h_] at H; exact absurd H (by simp)
 rw [if_pos c5] at H
 have c5b0 := eq_true c5
 have c5b1 : decide ((t137 ++ (⟨#[58]⟩ : ByteArray)).size + t138.size ≤ 9223372036854775807) = true := decide_eq_true c5
 try have c5b2 : (9223372036854775807 < (t137 ++ (⟨#[58]⟩ : ByteArray)).size + t138.size) = False := eq_false (Nat.not_lt.2 c5)
 (try (have c5v2 : (9223372036854775807 < (t137.size + 1) + t138.size) = False := eq_false (by have h_ := c5; simp only [ByteArray.size_append, show (⟨#[58]⟩ : ByteArray).size = 1 from rfl] at h_; omega)))
 (try (have c5y0 := c5b0; simp only [ByteArray.size_append] at c5y0))
 (try (have c5z0 := c5b0; simp only [ByteArray.size_append, Int.natCast_add] at c5z0))
 (try (have c5y1 := c5b1; simp only [ByteArray.size_append] at c5y1))
 (try (have c5z1 := c5b1; simp only [ByteArray.size_append, Int.natCast_add] at c5z1))
 have c6 : ((t137 ++ (⟨#[58]⟩ : ByteArray)) ++ t138).size + 1 ≤ 9223372036854775807 := Classical.byContradiction fun h_ => by rw [if_neg h_] at H; exact absurd H (by simp)
 rw [if_pos c6] at H
 have c6b0 := eq_true c6
 have c6b1 : decide (((t137 ++ (⟨#[58]⟩ : ByteArray)) ++ t138).size + 1 ≤ 9223372036854775807) = true := decide_eq_true c6
 try have c6b2 : (9223372036854775807 < ((t137 ++ (⟨#[58]⟩ : ByteArray)) ++ t138).size + 1) = False := eq_false (Nat.not_lt.2 c6)
 (try (have c6v2 : (9223372036854775807 < ((t137.size + 1) + t138.size) + 1) = False := eq_false (by have h_ := c6; simp only [ByteArray.size_append, show (⟨#[58]⟩ : ByteArray).size = 1 from rfl] at h_; omega)))
 (try (have c6y0 := c6b0; simp only [ByteArray.size_append] at c6y0))
 (try (have c6z0 := c6b0; simp only [ByteArray.size_append, Int.natCast_add] at c6z0))
 (try (have c6y1 := c6b1; simp only [ByteArray.size_append] at c6y1))
 (try (have c6z1 := c6b1; simp only [ByteArray.size_append, Int.natCast_add] at c6z1))
 replace H := Option.bind_eq_some_iff.mp H
 obtain ⟨t139, A70, H⟩ := H
 replace H : (if (((t137 ++ (⟨#[58]⟩ : ByteArray)) ++ t138) ++ (⟨#[58]⟩ : ByteArray)).size + t139.size ≤ 9223372036854775807 then (some ((((t137 ++ (⟨#[58]⟩ : ByteArray)) ++ t138) ++ (⟨#[58]⟩ : ByteArray)) ++ t139)) else (none)) = some r := H
 have A7 := Aside0.mk A70
 clear A70
 have c8 : (((t137 ++ (⟨#[58]⟩ : ByteArray)) ++ t138) ++ (⟨#[58]⟩ : ByteArray)).size + t139.size ≤ 9223372036854775807 := Classical.byContradiction fun h_ => by rw [if_neg h_] at H; exact absurd H (by simp)
 rw [if_pos c8] at H
 have c8b0 := eq_true c8
 have c8b1 : decide ((((t137 ++ (⟨#[58]⟩ : ByteArray)) ++ t138) ++ (⟨#[58]⟩ : ByteArray)).size + t139.size ≤ 9223372036854775807) = true := decide_eq_true c8
 try have c8b2 : (9223372036854775807 < (((t137 ++ (⟨#[58]⟩ : ByteArray)) ++ t138) ++ (⟨#[58]⟩ : ByteArray)).size + t139.size) = False := eq_false (Nat.not_lt.2 c8)
 (try (have c8v2 : (9223372036854775807 < (((t137.size + 1) + t138.size) + 1) + t139.size) = False := eq_false (by have h_ := c8; simp only [ByteArray.size_append, show (⟨#[58]⟩ : ByteArray).size = 1 from rfl] at h_; omega)))
 (try (have c8y0 := c8b0; simp only [ByteArray.size_append] at c8y0))
 (try (have c8z0 := c8b0; simp only [ByteArray.size_append, Int.natCast_add] at c8z0))
 (try (have c8y1 := c8b1; simp only [ByteArray.size_append] at c8y1))
 (try (have c8z1 := c8b1; simp only [ByteArray.size_append, Int.natCast_add] at c8z1))
 obtain rfl := Option.some.inj H
 go_enter Tryd.func56, Tryd.ntmps56
 go_wp2_with (first | ((with_reducible refine gate_dst (N := 1) rfl ?_); refine box_event ?hg (N := 1) ?hd (cs := #[.int .i64 a0_0, .int .i64 a0_1, .int .i64 a0_2, .int .i64 a0_3, .int .i64 a0_4, .int .i64 a0_5]) (t := 30) ?hr ?_; (case hd => rfl); (case hg => rfl); (case hr => first | (go_simp; done) | (go_simp; rfl)); intro gb136 hg w9 hbox hb; have n0_ := Aside0.mk (below_step (by repeat (first | (with_reducible first | exact HB.out | apply below_alloc | apply pw_below_drewN | apply below_drew1) | exact HB.out)) hb); have n1_ := Aside0.mk (hbox); have n2_ := Aside0.mk ((by rw [hg]; exact (below_size (by repeat (first | (with_reducible first | exact HB.out | apply below_alloc | apply pw_below_drewN | apply below_drew1) | exact HB.out))) : w.heap.size ≤ gb136)); have n3_ := Aside0.mk ((by rw [hg]; exact (below_size (by repeat (first | (with_reducible first | exact HB.out | apply below_alloc | apply pw_below_drewN | apply below_drew1) | exact HB.out))) : w.heap.size ≤ gb136)); clear HB; have HB := n0_; have BK136 := n1_; have GW136 := n2_; have GE136 := n3_; clear n0_ n1_ n2_ n3_; clear hb hbox hg; have hcz10_0 : w9.cell? ⟨gb136, 0, none⟩ = some (.int .i64 a0_0) := (blk_cell BK136.out 0).trans rfl; have hcz10_1 : w9.cell? ⟨gb136, 1, none⟩ = some (.int .i64 a0_1) := (blk_cell BK136.out 1).trans rfl; have hcz10_2 : w9.cell? ⟨gb136, 2, none⟩ = some (.int .i64 a0_2) := (blk_cell BK136.out 2).trans rfl; have hcz10_3 : w9.cell? ⟨gb136, 3, none⟩ = some (.int .i64 a0_3) := (blk_cell BK136.out 3).trans rfl; have hcz10_4 : w9.cell? ⟨gb136, 4, none⟩ = some (.int .i64 a0_4) := (blk_cell BK136.out 4).trans rfl; have hcz10_5 : w9.cell? ⟨gb136, 5, none⟩ = some (.int .i64 a0_5) := (blk_cell BK136.out 5).trans rfl; have hfz10_0 := blk_frozen BK136.out 0; have hfz10_1 := blk_frozen BK136.out 1; have hfz10_2 := blk_frozen BK136.out 2; have hfz10_3 := blk_frozen BK136.out 3; have hfz10_4 := blk_frozen BK136.out 4; have hfz10_5 := blk_frozen BK136.out 5) | (go_at_call 54; (with_reducible refine (impl_digits.calls a0_3 2 t137 _ A2.out).mono ?_); rintro e w' ⟨rfl, ⟨nd, rfl⟩⟩; (try first | exact ⟨rfl, _, World.drewN_drewN _ _ _⟩ | exact ⟨rfl, _, Eq.trans (World.drewN_drewN _ _ _) (congrArg (World.drewN _) (Nat.add_assoc _ _ _))⟩)) | (go_at_call 54; (with_reducible refine (impl_digits.calls a0_4 2 t138 _ A4.out).mono ?_); rintro e w' ⟨rfl, ⟨nd, rfl⟩⟩; (try first | exact ⟨rfl, _, World.drewN_drewN _ _ _⟩ | exact ⟨rfl, _, Eq.trans (World.drewN_drewN _ _ _) (congrArg (World.drewN _) (Nat.add_assoc _ _ _))⟩)) | (go_at_call 54; (with_reducible refine (impl_digits.calls a0_5 2 t139 _ A7.out).mono ?_); rintro e w' ⟨rfl, ⟨nd, rfl⟩⟩; (try first | exact ⟨rfl, _, World.drewN_drewN _ _ _⟩ | exact ⟨rfl, _, Eq.trans (World.drewN_drewN _ _ _) (congrArg (World.drewN _) (Nat.add_assoc _ _ _))⟩)))
 repeat (go_quiet (first | ((with_reducible refine gate_dst (N := 1) rfl ?_); refine box_event ?hg (N := 1) ?hd (cs := #[.int .i64 a0_0, .int .i64 a0_1, .int .i64 a0_2, .int .i64 a0_3, .int .i64 a0_4, .int .i64 a0_5]) (t := 30) ?hr ?_; (case hd => rfl); (case hg => rfl); (case hr => first | (go_simp; done) | (go_simp; rfl)); intro gb136 hg w9 hbox hb; have n0_ := Aside0.mk (below_step (by repeat (first | (with_reducible first | exact HB.out | apply below_alloc | apply pw_below_drewN | apply below_drew1) | exact HB.out)) hb); have n1_ := Aside0.mk (hbox); have n2_ := Aside0.mk ((by rw [hg]; exact (below_size (by repeat (first | (with_reducible first | exact HB.out | apply below_alloc | apply pw_below_drewN | apply below_drew1) | exact HB.out))) : w.heap.size ≤ gb136)); have n3_ := Aside0.mk ((by rw [hg]; exact (below_size (by repeat (first | (with_reducible first | exact HB.out | apply below_alloc | apply pw_below_drewN | apply below_drew1) | exact HB.out))) : w.heap.size ≤ gb136)); clear HB; have HB := n0_; have BK136 := n1_; have GW136 := n2_; have GE136 := n3_; clear n0_ n1_ n2_ n3_; clear hb hbox hg; have hcz10_0 : w9.cell? ⟨gb136, 0, none⟩ = some (.int .i64 a0_0) := (blk_cell BK136.out 0).trans rfl; have hcz10_1 : w9.cell? ⟨gb136, 1, none⟩ = some (.int .i64 a0_1) := (blk_cell BK136.out 1).trans rfl; have hcz10_2 : w9.cell? ⟨gb136, 2, none⟩ = some (.int .i64 a0_2) := (blk_cell BK136.out 2).trans rfl; have hcz10_3 : w9.cell? ⟨gb136, 3, none⟩ = some (.int .i64 a0_3) := (blk_cell BK136.out 3).trans rfl; have hcz10_4 : w9.cell? ⟨gb136, 4, none⟩ = some (.int .i64 a0_4) := (blk_cell BK136.out 4).trans rfl; have hcz10_5 : w9.cell? ⟨gb136, 5, none⟩ = some (.int .i64 a0_5) := (blk_cell BK136.out 5).trans rfl; have hfz10_0 := blk_frozen BK136.out 0; have hfz10_1 := blk_frozen BK136.out 1; have hfz10_2 := blk_frozen BK136.out 2; have hfz10_3 := blk_frozen BK136.out 3; have hfz10_4 := blk_frozen BK136.out 4; have hfz10_5 := blk_frozen BK136.out 5) | (go_at_call 54; (with_reducible refine (impl_digits.calls a0_3 2 t137 _ A2.out).mono ?_); rintro e w' ⟨rfl, ⟨nd, rfl⟩⟩; (try first | exact ⟨rfl, _, World.drewN_drewN _ _ _⟩ | exact ⟨rfl, _, Eq.trans (World.drewN_drewN _ _ _) (congrArg (World.drewN _) (Nat.add_assoc _ _ _))⟩)) | (go_at_call 54; (with_reducible refine (impl_digits.calls a0_4 2 t138 _ A4.out).mono ?_); rintro e w' ⟨rfl, ⟨nd, rfl⟩⟩; (try first | exact ⟨rfl, _, World.drewN_drewN _ _ _⟩ | exact ⟨rfl, _, Eq.trans (World.drewN_drewN _ _ _) (congrArg (World.drewN _) (Nat.add_assoc _ _ _))⟩)) | (go_at_call 54; (with_reducible refine (impl_digits.calls a0_5 2 t139 _ A7.out).mono ?_); rintro e w' ⟨rfl, ⟨nd, rfl⟩⟩; (try first | exact ⟨rfl, _, World.drewN_drewN _ _ _⟩ | exact ⟨rfl, _, Eq.trans (World.drewN_drewN _ _ _) (congrArg (World.drewN _) (Nat.add_assoc _ _ _))⟩))); try go_wp2_with (first | ((with_reducible refine gate_dst (N := 1) rfl ?_); refine box_event ?hg (N := 1) ?hd (cs := #[.int .i64 a0_0, .int .i64 a0_1, .int .i64 a0_2, .int .i64 a0_3, .int .i64 a0_4, .int .i64 a0_5]) (t := 30) ?hr ?_; (case hd => rfl); (case hg => rfl); (case hr => first | (go_simp; done) | (go_simp; rfl)); intro gb136 hg w9 hbox hb; have n0_ := Aside0.mk (below_step (by repeat (first | (with_reducible first | exact HB.out | apply below_alloc | apply pw_below_drewN | apply below_drew1) | exact HB.out)) hb); have n1_ := Aside0.mk (hbox); have n2_ := Aside0.mk ((by rw [hg]; exact (below_size (by repeat (first | (with_reducible first | exact HB.out | apply below_alloc | apply pw_below_drewN | apply below_drew1) | exact HB.out))) : w.heap.size ≤ gb136)); have n3_ := Aside0.mk ((by rw [hg]; exact (below_size (by repeat (first | (with_reducible first | exact HB.out | apply below_alloc | apply pw_below_drewN | apply below_drew1) | exact HB.out))) : w.heap.size ≤ gb136)); clear HB; have HB := n0_; have BK136 := n1_; have GW136 := n2_; have GE136 := n3_; clear n0_ n1_ n2_ n3_; clear hb hbox hg; have hcz10_0 : w9.cell? ⟨gb136, 0, none⟩ = some (.int .i64 a0_0) := (blk_cell BK136.out 0).trans rfl; have hcz10_1 : w9.cell? ⟨gb136, 1, none⟩ = some (.int .i64 a0_1) := (blk_cell BK136.out 1).trans rfl; have hcz10_2 : w9.cell? ⟨gb136, 2, none⟩ = some (.int .i64 a0_2) := (blk_cell BK136.out 2).trans rfl; have hcz10_3 : w9.cell? ⟨gb136, 3, none⟩ = some (.int .i64 a0_3) := (blk_cell BK136.out 3).trans rfl; have hcz10_4 : w9.cell? ⟨gb136, 4, none⟩ = some (.int .i64 a0_4) := (blk_cell BK136.out 4).trans rfl; have hcz10_5 : w9.cell? ⟨gb136, 5, none⟩ = some (.int .i64 a0_5) := (blk_cell BK136.out 5).trans rfl; have hfz10_0 := blk_frozen BK136.out 0; have hfz10_1 := blk_frozen BK136.out 1; have hfz10_2 := blk_frozen BK136.out 2; have hfz10_3 := blk_frozen BK136.out 3; have hfz10_4 := blk_frozen BK136.out 4; have hfz10_5 := blk_frozen BK136.out 5) | (go_at_call 54; (with_reducible refine (impl_digits.calls a0_3 2 t137 _ A2.out).mono ?_); rintro e w' ⟨rfl, ⟨nd, rfl⟩⟩; (try first | exact ⟨rfl, _, World.drewN_drewN _ _ _⟩ | exact ⟨rfl, _, Eq.trans (World.drewN_drewN _ _ _) (congrArg (World.drewN _) (Nat.add_assoc _ _ _))⟩)) | (go_at_call 54; (with_reducible refine (impl_digits.calls a0_4 2 t138 _ A4.out).mono ?_); rintro e w' ⟨rfl, ⟨nd, rfl⟩⟩; (try first | exact ⟨rfl, _, World.drewN_drewN _ _ _⟩ | exact ⟨rfl, _, Eq.trans (World.drewN_drewN _ _ _) (congrArg (World.drewN _) (Nat.add_assoc _ _ _))⟩)) | (go_at_call 54; (with_reducible refine (impl_digits.calls a0_5 2 t139 _ A7.out).mono ?_); rintro e w' ⟨rfl, ⟨nd, rfl⟩⟩; (try first | exact ⟨rfl, _, World.drewN_drewN _ _ _⟩ | exact ⟨rfl, _, Eq.trans (World.drewN_drewN _ _ _) (congrArg (World.drewN _) (Nat.add_assoc _ _ _))⟩))))
 go_ret
 exact ⟨by first | rfl | (simp [errW_none, errW_some] <;> rfl) | (simp [*, errW_none, errW_some] <;> rfl), by repeat (first | (with_reducible first | exact HB.out | apply below_alloc | apply pw_below_drewN | apply below_drew1 | refine below_set ?_ GE136.out) | exact HB.out)⟩

end Go.Proofs.YtgjbhdfncappdaaDoor.PFnExactLongDate
