-- Written by a program of this session.
import Derived.Test.YtgjbhdfncappdaaDoorQFnExactReadHttpDatex0
import Derived.Test.YtgjbhdfncappdaaDoorQFnExactReadHttpDatex7
namespace Go.Proofs.YtgjbhdfncappdaaDoor.PFnExactReadHttpDate
open Go.Proofs.YtgjbhdfncappdaaDoor.Foreign
open Go.RowKit Go.Proofs.YtgjbhdfncappdaaDoorV.PrintWords Go.Proofs.YtgjbhdfncappdaaDoorV.PrintLast Go.Proofs.YtgjbhdfncappdaaDoorV.PrintMore
attribute [local go_sem] max2_int min2_int max_two min_two max_three min_three max_four min_four   -- for this text's walks alone
set_option linter.unusedVariables false
set_option linter.unusedSimpArgs false

/-! ### impl_LineDate: function 31 -/
def impl_LineDate.j0 : Nat → Int → ByteArray → Int → Int → Int → Int → Int → Int → Option (ByteArray)
 | 0, _, _, _, _, _, _, _, _ => none
 | k + 1, x0, x4, x245000, x245001, x245002, x245003, x245004, x245005 => (impl_days.f).bind fun t246 => ((impl_Weekday.f x0).bind fun t249 => (if 0 ≤ t249 then (if t249 < (t246.length : Int) then (if 0 ≤ 3 then (if 3 ≤ ((rdOf ByteArray.empty t246 t249).size : Int) then (if ((rdOf ByteArray.empty t246 t249).extract 0 3).size + 1 ≤ 9223372036854775807 then ((impl_months.f).bind fun t251 => (if 0 ≤ (wrap64 (x245001 - 1)) then (if (wrap64 (x245001 - 1)) < (t251.length : Int) then (if (((rdOf ByteArray.empty t246 t249).extract 0 3) ++ (⟨#[32]⟩ : ByteArray)).size + (rdOf ByteArray.empty t251 (wrap64 (x245001 - 1))).size ≤ 9223372036854775807 then (if ((((rdOf ByteArray.empty t246 t249).extract 0 3) ++ (⟨#[32]⟩ : ByteArray)) ++ (rdOf ByteArray.empty t251 (wrap64 (x245001 - 1)))).size + 1 ≤ 9223372036854775807 then (if (((((rdOf ByteArray.empty t246 t249).extract 0 3) ++ (⟨#[32]⟩ : ByteArray)) ++ (rdOf ByteArray.empty t251 (wrap64 (x245001 - 1)))) ++ (⟨#[32]⟩ : ByteArray)).size + x4.size ≤ 9223372036854775807 then (if ((((((rdOf ByteArray.empty t246 t249).extract 0 3) ++ (⟨#[32]⟩ : ByteArray)) ++ (rdOf ByteArray.empty t251 (wrap64 (x245001 - 1)))) ++ (⟨#[32]⟩ : ByteArray)) ++ x4).size + 1 ≤ 9223372036854775807 then ((impl_clock.f x245000 x245001 x245002 x245003 x245004 x245005).bind fun t255 => (if (((((((rdOf ByteArray.empty t246 t249).extract 0 3) ++ (⟨#[32]⟩ : ByteArray)) ++ (rdOf ByteArray.empty t251 (wrap64 (x245001 - 1)))) ++ (⟨#[32]⟩ : ByteArray)) ++ x4) ++ (⟨#[32]⟩ : ByteArray)).size + t255.size ≤ 9223372036854775807 then (if ((((((((rdOf ByteArray.empty t246 t249).extract 0 3) ++ (⟨#[32]⟩ : ByteArray)) ++ (rdOf ByteArray.empty t251 (wrap64 (x245001 - 1)))) ++ (⟨#[32]⟩ : ByteArray)) ++ x4) ++ (⟨#[32]⟩ : ByteArray)) ++ t255).size + 1 ≤ 9223372036854775807 then ((impl_digits.f x245000 4).bind fun t256 => (if (((((((((rdOf ByteArray.empty t246 t249).extract 0 3) ++ (⟨#[32]⟩ : ByteArray)) ++ (rdOf ByteArray.empty t251 (wrap64 (x245001 - 1)))) ++ (⟨#[32]⟩ : ByteArray)) ++ x4) ++ (⟨#[32]⟩ : ByteArray)) ++ t255) ++ (⟨#[32]⟩ : ByteArray)).size + t256.size ≤ 9223372036854775807 then (some ((((((((((rdOf ByteArray.empty t246 t249).extract 0 3) ++ (⟨#[32]⟩ : ByteArray)) ++ (rdOf ByteArray.empty t251 (wrap64 (x245001 - 1)))) ++ (⟨#[32]⟩ : ByteArray)) ++ x4) ++ (⟨#[32]⟩ : ByteArray)) ++ t255) ++ (⟨#[32]⟩ : ByteArray)) ++ t256)) else (none))) else (none)) else (none))) else (none)) else (none)) else (none)) else (none)) else (none)) else (none))) else (none)) else (none)) else (none)) else (none)) else (none)))
def impl_LineDate.f (k : Nat) (a0 : Int) : Option (ByteArray) := (impl_isTime.f a0).bind fun t237 => (if t237 = true then ((impl_civilOf.f a0).bind fun bt238 => ((impl_digits.f bt238.2.2.1 2).bind fun t245 => (if bt238.2.2.1 < 10 then (if 1 ≤ (t245.size : Int) then (if 1 + (t245.extract 1 t245.size).size ≤ 9223372036854775807 then (impl_LineDate.j0 k a0 ((⟨#[32]⟩ : ByteArray) ++ (t245.extract 1 t245.size)) bt238.1 bt238.2.1 bt238.2.2.1 bt238.2.2.2.1 bt238.2.2.2.2.1 bt238.2.2.2.2.2) else (none)) else (none)) else (impl_LineDate.j0 k a0 t245 bt238.1 bt238.2.1 bt238.2.2.1 bt238.2.2.2.1 bt238.2.2.2.2.1 bt238.2.2.2.2.2)))) else (some (⟨#[]⟩ : ByteArray)))
theorem impl_LineDate.mono_l : ∀ k, (∀ y0 y1 y2 y3 y4 y5 y6 y7, LeO (impl_LineDate.j0 k y0 y1 y2 y3 y4 y5 y6 y7) (impl_LineDate.j0 (k + 1) y0 y1 y2 y3 y4 y5 y6 y7))
 | 0 => fun _ _ _ _ _ _ _ _ r h => by simp [impl_LineDate.j0] at h
 | k + 1 => by
  have ih0 := impl_LineDate.mono_l k
  ·
   intro y0 y1 y2 y3 y4 y5 y6 y7
   unfold impl_LineDate.j0
   repeat' first
   | (with_reducible exact ih0 _ _ _ _ _ _ _ _)
   | (with_reducible exact LeO.refl _)
   | (with_reducible exact LeO.none _)
   | (with_reducible refine LeO.ite ?_ ?_)
   | (with_reducible refine LeO.bind ?_ (fun _ => ?_))
   | exact ih0 _ _ _ _ _ _ _ _
   | exact LeO.none _
   | refine LeO.ite ?_ ?_
   | refine LeO.bind ?_ (fun _ => ?_)
theorem impl_LineDate.mono : ∀ a0 k, LeO (impl_LineDate.f k a0) (impl_LineDate.f (k + 1) a0) := by
 intro a0 k
 have ih0 := impl_LineDate.mono_l k
 unfold impl_LineDate.f
 repeat' first
   | (with_reducible exact ih0 _ _ _ _ _ _ _ _)
   | (with_reducible exact LeO.refl _)
   | (with_reducible exact LeO.none _)
   | (with_reducible refine LeO.ite ?_ ?_)
   | (with_reducible refine LeO.bind ?_ (fun _ => ?_))
   | exact ih0 _ _ _ _ _ _ _ _
   | exact LeO.none _
   | refine LeO.ite ?_ ?_
   | refine LeO.bind ?_ (fun _ => ?_)
def impl_LineDate.T7 : Bool × List (List Nat × List Nat) := (true, [([], []), ([], []), ([1, 0], [1]), ([0, 2], [0, 2]), ([3], [3]), ([4], [4]), ([5], [5]), ([2], []), ([], []), ([8], [8]), ([9], [9]), ([7, 10], [7, 10]), ([11], [11]), ([6, 12], [6, 12]), ([13], [13]), ([], []), ([14, 15], [14, 15]), ([16], [16]), ([], []), ([18, 7], [18]), ([17, 19], [17, 19]), ([20], [20]), ([], []), ([22], [22]), ([23, 19], [23]), ([21, 24], [21, 24]), ([25, 24, 0, 1, 2, 3, 4, 5, 6, 7, 8, 9, 10, 11, 12, 13, 14, 15, 16, 17, 18, 19, 20, 21, 22, 23, 24, 25], [25])])
def impl_LineDate.B7 : List Nat := [0, 0, 3, 7, 15, 31, 63, 7, 0, 256, 768, 1927, 3975, 8191, 16383, 0, 65535, 131071, 0, 262279, 1048575, 2097151, 0, 4194304, 13369479, 33554431, 67108863]
theorem impl_LineDate.tab7 : rtab .any (opsOf Tryd.f31 7) = impl_LineDate.T7 := by kernel_rfl
theorem impl_LineDate.bits7 : waitsOk impl_LineDate.T7.2 impl_LineDate.B7 = true := by kernel_rfl
set_option maxHeartbeats 8000000 in
set_option maxRecDepth 100000 in
theorem impl_LineDate.calls (k : Nat) (a0 : Int) (r : ByteArray) (w : World) (h : impl_LineDate.f k a0 = some r) :
  Calls Tryd.prog 31 #[.int .i64 a0] w fun e w' => e = .returned (.string r) ∧ Below w.heap.size w w' := by
 have hu30 := Tryd.underlying30
 have HB := Aside0.mk (Below.refl w.heap.size w)
 have H : ((impl_isTime.f a0).bind fun t237 => (if t237 = true then ((impl_civilOf.f a0).bind fun bt238 => ((impl_digits.f bt238.2.2.1 2).bind fun t245 => (if bt238.2.2.1 < 10 then (if 1 ≤ (t245.size : Int) then (if 1 + (t245.extract 1 t245.size).size ≤ 9223372036854775807 then (impl_LineDate.j0 k a0 ((⟨#[32]⟩ : ByteArray) ++ (t245.extract 1 t245.size)) bt238.1 bt238.2.1 bt238.2.2.1 bt238.2.2.2.1 bt238.2.2.2.2.1 bt238.2.2.2.2.2) else (none)) else (none)) else (impl_LineDate.j0 k a0 t245 bt238.1 bt238.2.1 bt238.2.2.1 bt238.2.2.2.1 bt238.2.2.2.2.1 bt238.2.2.2.2.2)))) else (some (⟨#[]⟩ : ByteArray)))) = some r := h
 clear h
 replace H := Option.bind_eq_some_iff.mp H
 obtain ⟨t237, A20, H⟩ := H
 replace H : (if t237 = true then ((impl_civilOf.f a0).bind fun bt238 => ((impl_digits.f bt238.2.2.1 2).bind fun t245 => (if bt238.2.2.1 < 10 then (if 1 ≤ (t245.size : Int) then (if 1 + (t245.extract 1 t245.size).size ≤ 9223372036854775807 then (impl_LineDate.j0 k a0 ((⟨#[32]⟩ : ByteArray) ++ (t245.extract 1 t245.size)) bt238.1 bt238.2.1 bt238.2.2.1 bt238.2.2.2.1 bt238.2.2.2.2.1 bt238.2.2.2.2.2) else (none)) else (none)) else (impl_LineDate.j0 k a0 t245 bt238.1 bt238.2.1 bt238.2.2.1 bt238.2.2.2.1 bt238.2.2.2.2.1 bt238.2.2.2.2.2)))) else (some (⟨#[]⟩ : ByteArray))) = some r := H
 have A2 := Aside0.mk A20
 clear A20
 by_cases c3 : t237 = true
 ·
  subst c3
  have H1 : ((impl_civilOf.f a0).bind fun bt238 => ((impl_digits.f bt238.2.2.1 2).bind fun t245 => (if bt238.2.2.1 < 10 then (if 1 ≤ (t245.size : Int) then (if 1 + (t245.extract 1 t245.size).size ≤ 9223372036854775807 then (impl_LineDate.j0 k a0 ((⟨#[32]⟩ : ByteArray) ++ (t245.extract 1 t245.size)) bt238.1 bt238.2.1 bt238.2.2.1 bt238.2.2.2.1 bt238.2.2.2.2.1 bt238.2.2.2.2.2) else (none)) else (none)) else (impl_LineDate.j0 k a0 t245 bt238.1 bt238.2.1 bt238.2.2.1 bt238.2.2.2.1 bt238.2.2.2.2.1 bt238.2.2.2.2.2)))) = some r := by rw [if_pos rfl] at H; exact H
  clear H
  have H := H1
  clear H1
  replace H := Option.bind_eq_some_iff.mp H
  obtain ⟨⟨t238, t239, t240, t241, t242, t243⟩, A40, H⟩ := H
  replace H : ((impl_digits.f t240 2).bind fun t245 => (if t240 < 10 then (if 1 ≤ (t245.size : Int) then (if 1 + (t245.extract 1 t245.size).size ≤ 9223372036854775807 then (impl_LineDate.j0 k a0 ((⟨#[32]⟩ : ByteArray) ++ (t245.extract 1 t245.size)) t238 t239 t240 t241 t242 t243) else (none)) else (none)) else (impl_LineDate.j0 k a0 t245 t238 t239 t240 t241 t242 t243))) = some r := H
  have A4 := Aside0.mk A40
  clear A40
  replace H := Option.bind_eq_some_iff.mp H
  obtain ⟨t245, A50, H⟩ := H
  replace H : (if t240 < 10 then (if 1 ≤ (t245.size : Int) then (if 1 + (t245.extract 1 t245.size).size ≤ 9223372036854775807 then (impl_LineDate.j0 k a0 ((⟨#[32]⟩ : ByteArray) ++ (t245.extract 1 t245.size)) t238 t239 t240 t241 t242 t243) else (none)) else (none)) else (impl_LineDate.j0 k a0 t245 t238 t239 t240 t241 t242 t243)) = some r := H
  have A5 := Aside0.mk A50
  clear A50
  have HC6 := Aside0.mk H
  clear H
  go_enter Tryd.func31, Tryd.ntmps31
  go_upto_if 15 with (first | ((with_reducible refine gate_callee (f := 45) rfl ?_); refine goesL_ (some 6) rfl rfl Tryd.func45 (by kernel_rfl) rfl #[.int .i64 a0] rfl (by (try simp only [List.map_toArray, List.map_cons, List.map_nil]); first | done | rfl | (simp only [List.length_drop, List.length_take]; rfl)) ?_; (with_reducible refine (impl_isTime.calls a0 true _ A2.out).mono ?_); rintro e w' ⟨rfl, ⟨nd, rfl⟩⟩; refine ⟨_, rfl, ?_⟩) | ((with_reducible refine gate_callee (f := 46) rfl ?_); refine goesL_ (some 9) rfl rfl Tryd.func46 (by kernel_rfl) rfl #[.int .i64 a0] rfl (by (try simp only [List.map_toArray, List.map_cons, List.map_nil]); first | done | rfl | (simp only [List.length_drop, List.length_take]; rfl)) ?_; (with_reducible refine (impl_civilOf.calls a0 t238 t239 t240 t241 t242 t243 _ A4.out).mono ?_); rintro e w7 ⟨rfl, hb⟩; refine ⟨_, rfl, ?_⟩; have n0_ := Aside0.mk (below_step (by repeat (first | (with_reducible first | exact HB.out | apply below_alloc | apply pw_below_drewN | apply below_drew1) | exact HB.out)) hb); clear HB; have HB := n0_; clear n0_; (try clear hb); (try clear hb2); (try clear hk); (try clear hi)) | ((with_reducible refine gate_dst (N := 3) rfl ?_); refine box_event ?hg (N := 3) ?hd (cs := #[.int .i64 0, .int .i64 0, .int .i64 0, .int .i64 0, .int .i64 0, .int .i64 0]) (t := 30) ?hr ?_; (case hd => rfl); (case hg => rfl); (case hr => first | (go_simp; done) | (go_simp; rfl)); intro gb244 hg w8 hbox hb; have n0_ := Aside0.mk (below_step (by repeat (first | (with_reducible first | exact HB.out | apply below_alloc | apply pw_below_drewN | apply below_drew1) | exact HB.out)) hb); have n1_ := Aside0.mk (hbox); have n2_ := Aside0.mk ((by rw [hg]; exact (below_size (by repeat (first | (with_reducible first | exact HB.out | apply below_alloc | apply pw_below_drewN | apply below_drew1) | exact HB.out))) : w.heap.size ≤ gb244)); have n3_ := Aside0.mk ((by rw [hg]; exact (below_size (by repeat (first | (with_reducible first | exact HB.out | apply below_alloc | apply pw_below_drewN | apply below_drew1) | exact HB.out))) : w.heap.size ≤ gb244)); clear HB; have HB := n0_; have BK244 := n1_; have GW244 := n2_; have GE244 := n3_; clear n0_ n1_ n2_ n3_; clear hb hbox hg; have hcz9_0 : w8.cell? ⟨gb244, 0, none⟩ = some (.int .i64 0) := (blk_cell BK244.out 0).trans rfl; have hcz9_1 : w8.cell? ⟨gb244, 1, none⟩ = some (.int .i64 0) := (blk_cell BK244.out 1).trans rfl; have hcz9_2 : w8.cell? ⟨gb244, 2, none⟩ = some (.int .i64 0) := (blk_cell BK244.out 2).trans rfl; have hcz9_3 : w8.cell? ⟨gb244, 3, none⟩ = some (.int .i64 0) := (blk_cell BK244.out 3).trans rfl; have hcz9_4 : w8.cell? ⟨gb244, 4, none⟩ = some (.int .i64 0) := (blk_cell BK244.out 4).trans rfl; have hcz9_5 : w8.cell? ⟨gb244, 5, none⟩ = some (.int .i64 0) := (blk_cell BK244.out 5).trans rfl; have hfz9_0 := blk_frozen BK244.out 0; have hfz9_1 := blk_frozen BK244.out 1; have hfz9_2 := blk_frozen BK244.out 2; have hfz9_3 := blk_frozen BK244.out 3; have hfz9_4 := blk_frozen BK244.out 4; have hfz9_5 := blk_frozen BK244.out 5) | ((with_reducible refine gate_callee (f := 54) rfl ?_); refine goesL_ (some 12) rfl rfl Tryd.func54 (by kernel_rfl) rfl #[.int .i64 t240, .int .i64 2] rfl (by (try simp only [List.map_toArray, List.map_cons, List.map_nil]); first | done | rfl | (simp only [List.length_drop, List.length_take]; rfl)) ?_; (with_reducible refine (impl_digits.calls t240 2 t245 _ A5.out).mono ?_); rintro e w' ⟨rfl, ⟨nd, rfl⟩⟩; refine ⟨_, rfl, ?_⟩))
  (try simp only [Act.put, List.setIfInBounds_toArray, List.set_cons_zero, List.set_cons_succ])
  go_cut [4] (fun v4 wc => ∃ (kq : Nat) (x4_5 : ByteArray), v4 = .string x4_5 ∧ Aside0 (impl_LineDate.j0 kq a0 x4_5 t238 t239 t240 t241 t242 t243 = some r) ∧ Aside0 (kq ≤ k) ∧ Aside0 (wc.heap[gb244]? = some (.cells #[.int .i64 t238, .int .i64 t239, .int .i64 t240, .int .i64 t241, .int .i64 t242, .int .i64 t243] 30 (0, 0))) ∧ Aside0 (Below w.heap.size w wc))
  case first =>
   have H := HC6.out
   clear HC6
   by_cases c10 : t240 < 10
   ·
    rw [if_pos c10] at H
    have c10b0 : decide (t240 < 10) = true := decide_eq_true c10
    clear c10
    (first | rw [c10b0] | (simp only [i64_w, i32_w]; rw [c10b0]) | skip)
    have c11 : 1 ≤ (t245.size : Int) := Classical.byContradiction fun h_ => by rw [if_neg h_] at H; exact absurd H (by simp)
    rw [if_pos c11] at H
    have c11b0 := eq_true c11
    have c11b1 : decide (1 ≤ (t245.size : Int)) = true := decide_eq_true c11
    clear c11
    have c12 : 1 + (t245.extract 1 t245.size).size ≤ 9223372036854775807 := Classical.byContradiction fun h_ => by rw [if_neg h_] at H; exact absurd H (by simp)
    rw [if_pos c12] at H
    have c12b0 := eq_true c12
    have c12b1 : decide (1 + (t245.extract 1 t245.size).size ≤ 9223372036854775807) = true := decide_eq_true c12
    try have c12b2 : (9223372036854775807 < 1 + (t245.extract 1 t245.size).size) = False := eq_false (Nat.not_lt.2 c12)
    (try (have c12v2 : (9223372036854775807 < 1 + (t245.size - 1)) = False := eq_false (by have h_ := c12; simp only [ByteArray.size_append, ByteArray.size_extract] at h_; omega)))
    have H' := Aside0.mk H
    clear H
    go_wp2
    go_meet
    case rel => exact ⟨_, ((⟨#[32]⟩ : ByteArray) ++ (t245.extract 1 t245.size)), (by first | rfl | (simp; done) | (simp [*]; done)), H', ⟨by first | omega | exact Nat.le_refl _⟩, ⟨by (with_reducible repeat (first | refine blk_drewN ?_ _ | refine blk_drew ?_ | refine blk_alloc ?_ _)); refine blk_put (cs := #[.int .i64 t238, .int .i64 t239, .int .i64 t240, .int .i64 t241, .int .i64 t242, .int .i64 0]) ?_ 5 _ rfl; (with_reducible repeat (first | refine blk_drewN ?_ _ | refine blk_drew ?_ | refine blk_alloc ?_ _)); refine blk_put (cs := #[.int .i64 t238, .int .i64 t239, .int .i64 t240, .int .i64 t241, .int .i64 0, .int .i64 0]) ?_ 4 _ rfl; (with_reducible repeat (first | refine blk_drewN ?_ _ | refine blk_drew ?_ | refine blk_alloc ?_ _)); refine blk_put (cs := #[.int .i64 t238, .int .i64 t239, .int .i64 t240, .int .i64 0, .int .i64 0, .int .i64 0]) ?_ 3 _ rfl; (with_reducible repeat (first | refine blk_drewN ?_ _ | refine blk_drew ?_ | refine blk_alloc ?_ _)); refine blk_put (cs := #[.int .i64 t238, .int .i64 t239, .int .i64 0, .int .i64 0, .int .i64 0, .int .i64 0]) ?_ 2 _ rfl; (with_reducible repeat (first | refine blk_drewN ?_ _ | refine blk_drew ?_ | refine blk_alloc ?_ _)); refine blk_put (cs := #[.int .i64 t238, .int .i64 0, .int .i64 0, .int .i64 0, .int .i64 0, .int .i64 0]) ?_ 1 _ rfl; (with_reducible repeat (first | refine blk_drewN ?_ _ | refine blk_drew ?_ | refine blk_alloc ?_ _)); refine blk_put (cs := #[.int .i64 0, .int .i64 0, .int .i64 0, .int .i64 0, .int .i64 0, .int .i64 0]) ?_ 0 _ rfl; (with_reducible repeat (first | refine blk_drewN ?_ _ | refine blk_drew ?_ | refine blk_alloc ?_ _)); exact BK244.out⟩, ⟨by repeat (first | (with_reducible first | exact HB.out | apply below_alloc | apply pw_below_drewN | apply below_drew1 | refine below_set ?_ GE244.out) | exact HB.out)⟩⟩
   ·
    rw [if_neg c10] at H
    have c10b0 : decide (t240 < 10) = false := decide_eq_false c10
    clear c10
    (first | rw [c10b0] | (simp only [i64_w, i32_w]; rw [c10b0]) | skip)
    have H' := Aside0.mk H
    clear H
    go_wp2
    go_meet
    case rel => exact ⟨_, (t245), (by first | rfl | (simp; done) | (simp [*]; done)), H', ⟨by first | omega | exact Nat.le_refl _⟩, ⟨by (with_reducible repeat (first | refine blk_drewN ?_ _ | refine blk_drew ?_ | refine blk_alloc ?_ _)); refine blk_put (cs := #[.int .i64 t238, .int .i64 t239, .int .i64 t240, .int .i64 t241, .int .i64 t242, .int .i64 0]) ?_ 5 _ rfl; (with_reducible repeat (first | refine blk_drewN ?_ _ | refine blk_drew ?_ | refine blk_alloc ?_ _)); refine blk_put (cs := #[.int .i64 t238, .int .i64 t239, .int .i64 t240, .int .i64 t241, .int .i64 0, .int .i64 0]) ?_ 4 _ rfl; (with_reducible repeat (first | refine blk_drewN ?_ _ | refine blk_drew ?_ | refine blk_alloc ?_ _)); refine blk_put (cs := #[.int .i64 t238, .int .i64 t239, .int .i64 t240, .int .i64 0, .int .i64 0, .int .i64 0]) ?_ 3 _ rfl; (with_reducible repeat (first | refine blk_drewN ?_ _ | refine blk_drew ?_ | refine blk_alloc ?_ _)); refine blk_put (cs := #[.int .i64 t238, .int .i64 t239, .int .i64 0, .int .i64 0, .int .i64 0, .int .i64 0]) ?_ 2 _ rfl; (with_reducible repeat (first | refine blk_drewN ?_ _ | refine blk_drew ?_ | refine blk_alloc ?_ _)); refine blk_put (cs := #[.int .i64 t238, .int .i64 0, .int .i64 0, .int .i64 0, .int .i64 0, .int .i64 0]) ?_ 1 _ rfl; (with_reducible repeat (first | refine blk_drewN ?_ _ | refine blk_drew ?_ | refine blk_alloc ?_ _)); refine blk_put (cs := #[.int .i64 0, .int .i64 0, .int .i64 0, .int .i64 0, .int .i64 0, .int .i64 0]) ?_ 0 _ rfl; (with_reducible repeat (first | refine blk_drewN ?_ _ | refine blk_drew ?_ | refine blk_alloc ?_ _)); exact BK244.out⟩, ⟨by repeat (first | (with_reducible first | exact HB.out | apply below_alloc | apply pw_below_drewN | apply below_drew1 | refine below_set ?_ GE244.out) | exact HB.out)⟩⟩
  case rest =>
   clear HC6
   try clear c1
   try clear p2
   try clear c3
   try clear c4
   try clear c5
   try clear c10
   try clear c10b0
   try clear c11
   try clear c11b0
   try clear c11b1
   try clear c12
   try clear c12b0
   try clear c12b1
   try clear c12b2
   try clear hcz9_0
   try clear hcz9_1
   try clear hcz9_2
   try clear hcz9_3
   try clear hcz9_4
   try clear hcz9_5
   try clear hfz9_0
   try clear hfz9_1
   try clear hfz9_2
   try clear hfz9_3
   try clear hfz9_4
   try clear hfz9_5
   obtain ⟨kq, x4_5, rfl, HA, HJ5, BK244, HB⟩ := hcut
   cases kq with
   | zero => exact absurd HA.out (by simp [impl_LineDate.j0])
   | succ kj5 =>
    have H := HA.out
    clear HA
    simp only [impl_LineDate.j0] at H
    replace H := Option.bind_eq_some_iff.mp H
    obtain ⟨t246, A130, H⟩ := H
    replace H : ((impl_Weekday.f a0).bind fun t249 => (if 0 ≤ t249 then (if t249 < (t246.length : Int) then (if 0 ≤ 3 then (if 3 ≤ ((rdOf ByteArray.empty t246 t249).size : Int) then (if ((rdOf ByteArray.empty t246 t249).extract 0 3).size + 1 ≤ 9223372036854775807 then ((impl_months.f).bind fun t251 => (if 0 ≤ (wrap64 (t239 - 1)) then (if (wrap64 (t239 - 1)) < (t251.length : Int) then (if (((rdOf ByteArray.empty t246 t249).extract 0 3) ++ (⟨#[32]⟩ : ByteArray)).size + (rdOf ByteArray.empty t251 (wrap64 (t239 - 1))).size ≤ 9223372036854775807 then (if ((((rdOf ByteArray.empty t246 t249).extract 0 3) ++ (⟨#[32]⟩ : ByteArray)) ++ (rdOf ByteArray.empty t251 (wrap64 (t239 - 1)))).size + 1 ≤ 9223372036854775807 then (if (((((rdOf ByteArray.empty t246 t249).extract 0 3) ++ (⟨#[32]⟩ : ByteArray)) ++ (rdOf ByteArray.empty t251 (wrap64 (t239 - 1)))) ++ (⟨#[32]⟩ : ByteArray)).size + x4_5.size ≤ 9223372036854775807 then (if ((((((rdOf ByteArray.empty t246 t249).extract 0 3) ++ (⟨#[32]⟩ : ByteArray)) ++ (rdOf ByteArray.empty t251 (wrap64 (t239 - 1)))) ++ (⟨#[32]⟩ : ByteArray)) ++ x4_5).size + 1 ≤ 9223372036854775807 then ((impl_clock.f t238 t239 t240 t241 t242 t243).bind fun t255 => (if (((((((rdOf ByteArray.empty t246 t249).extract 0 3) ++ (⟨#[32]⟩ : ByteArray)) ++ (rdOf ByteArray.empty t251 (wrap64 (t239 - 1)))) ++ (⟨#[32]⟩ : ByteArray)) ++ x4_5) ++ (⟨#[32]⟩ : ByteArray)).size + t255.size ≤ 9223372036854775807 then (if ((((((((rdOf ByteArray.empty t246 t249).extract 0 3) ++ (⟨#[32]⟩ : ByteArray)) ++ (rdOf ByteArray.empty t251 (wrap64 (t239 - 1)))) ++ (⟨#[32]⟩ : ByteArray)) ++ x4_5) ++ (⟨#[32]⟩ : ByteArray)) ++ t255).size + 1 ≤ 9223372036854775807 then ((impl_digits.f t238 4).bind fun t256 => (if (((((((((rdOf ByteArray.empty t246 t249).extract 0 3) ++ (⟨#[32]⟩ : ByteArray)) ++ (rdOf ByteArray.empty t251 (wrap64 (t239 - 1)))) ++ (⟨#[32]⟩ : ByteArray)) ++ x4_5) ++ (⟨#[32]⟩ : ByteArray)) ++ t255) ++ (⟨#[32]⟩ : ByteArray)).size + t256.size ≤ 9223372036854775807 then (some ((((((((((rdOf ByteArray.empty t246 t249).extract 0 3) ++ (⟨#[32]⟩ : ByteArray)) ++ (rdOf ByteArray.empty t251 (wrap64 (t239 - 1)))) ++ (⟨#[32]⟩ : ByteArray)) ++ x4_5) ++ (⟨#[32]⟩ : ByteArray)) ++ t255) ++ (⟨#[32]⟩ : ByteArray)) ++ t256)) else (none))) else (none)) else (none))) else (none)) else (none)) else (none)) else (none)) else (none)) else (none))) else (none)) else (none)) else (none)) else (none)) else (none))) = some r := H
    have A13 := Aside0.mk A130
    clear A130
    replace H := Option.bind_eq_some_iff.mp H
    obtain ⟨t249, A140, H⟩ := H
    replace H : (if 0 ≤ t249 then (if t249 < (t246.length : Int) then (if 0 ≤ 3 then (if 3 ≤ ((rdOf ByteArray.empty t246 t249).size : Int) then (if ((rdOf ByteArray.empty t246 t249).extract 0 3).size + 1 ≤ 9223372036854775807 then ((impl_months.f).bind fun t251 => (if 0 ≤ (wrap64 (t239 - 1)) then (if (wrap64 (t239 - 1)) < (t251.length : Int) then (if (((rdOf ByteArray.empty t246 t249).extract 0 3) ++ (⟨#[32]⟩ : ByteArray)).size + (rdOf ByteArray.empty t251 (wrap64 (t239 - 1))).size ≤ 9223372036854775807 then (if ((((rdOf ByteArray.empty t246 t249).extract 0 3) ++ (⟨#[32]⟩ : ByteArray)) ++ (rdOf ByteArray.empty t251 (wrap64 (t239 - 1)))).size + 1 ≤ 9223372036854775807 then (if (((((rdOf ByteArray.empty t246 t249).extract 0 3) ++ (⟨#[32]⟩ : ByteArray)) ++ (rdOf ByteArray.empty t251 (wrap64 (t239 - 1)))) ++ (⟨#[32]⟩ : ByteArray)).size + x4_5.size ≤ 9223372036854775807 then (if ((((((rdOf ByteArray.empty t246 t249).extract 0 3) ++ (⟨#[32]⟩ : ByteArray)) ++ (rdOf ByteArray.empty t251 (wrap64 (t239 - 1)))) ++ (⟨#[32]⟩ : ByteArray)) ++ x4_5).size + 1 ≤ 9223372036854775807 then ((impl_clock.f t238 t239 t240 t241 t242 t243).bind fun t255 => (if (((((((rdOf ByteArray.empty t246 t249).extract 0 3) ++ (⟨#[32]⟩ : ByteArray)) ++ (rdOf ByteArray.empty t251 (wrap64 (t239 - 1)))) ++ (⟨#[32]⟩ : ByteArray)) ++ x4_5) ++ (⟨#[32]⟩ : ByteArray)).size + t255.size ≤ 9223372036854775807 then (if ((((((((rdOf ByteArray.empty t246 t249).extract 0 3) ++ (⟨#[32]⟩ : ByteArray)) ++ (rdOf ByteArray.empty t251 (wrap64 (t239 - 1)))) ++ (⟨#[32]⟩ : ByteArray)) ++ x4_5) ++ (⟨#[32]⟩ : ByteArray)) ++ t255).size + 1 ≤ 9223372036854775807 then ((impl_digits.f t238 4).bind fun t256 => (if (((((((((rdOf ByteArray.empty t246 t249).extract 0 3) ++ (⟨#[32]⟩ : ByteArray)) ++ (rdOf ByteArray.empty t251 (wrap64 (t239 - 1)))) ++ (⟨#[32]⟩ : ByteArray)) ++ x4_5) ++ (⟨#[32]⟩ : ByteArray)) ++ t255) ++ (⟨#[32]⟩ : ByteArray)).size + t256.size ≤ 9223372036854775807 then (some ((((((((((rdOf ByteArray.empty t246 t249).extract 0 3) ++ (⟨#[32]⟩ : ByteArray)) ++ (rdOf ByteArray.empty t251 (wrap64 (t239 - 1)))) ++ (⟨#[32]⟩ : ByteArray)) ++ x4_5) ++ (⟨#[32]⟩ : ByteArray)) ++ t255) ++ (⟨#[32]⟩ : ByteArray)) ++ t256)) else (none))) else (none)) else (none))) else (none)) else (none)) else (none)) else (none)) else (none)) else (none))) else (none)) else (none)) else (none)) else (none)) else (none)) = some r := H
    have A14 := Aside0.mk A140
    clear A140
    have c15 : 0 ≤ t249 := Classical.byContradiction fun h_ => by rw [if_neg h_] at H; exact absurd H (by simp)
    rw [if_pos c15] at H
    have c15b0 : decide (0 ≤ t249) = true := decide_eq_true c15
    clear c15
    have c16 : t249 < (t246.length : Int) := Classical.byContradiction fun h_ => by rw [if_neg h_] at H; exact absurd H (by simp)
    rw [if_pos c16] at H
    have c16b0 : decide (t249 < (t246.length : Int)) = true := decide_eq_true c16
    clear c16
    have c17 : 0 ≤ 3 := Classical.byContradiction fun h_ => by rw [if_neg h_] at H; exact absurd H (by simp)
    rw [if_pos c17] at H
    have c17b0 := eq_true c17
    have c17b1 : decide (0 ≤ 3) = true := decide_eq_true c17
    clear c17
    have c18 : 3 ≤ ((rdOf ByteArray.empty t246 t249).size : Int) := Classical.byContradiction fun h_ => by rw [if_neg h_] at H; exact absurd H (by simp)
    rw [if_pos c18] at H
    have c18b0 := eq_true c18
    have c18b1 : decide (3 ≤ ((rdOf ByteArray.empty t246 t249).size : Int)) = true := decide_eq_true c18
    clear c18
    have c19 : ((rdOf ByteArray.empty t246 t249).extract 0 3).size + 1 ≤ 9223372036854775807 := Classical.byContradiction fun h_ => by rw [if_neg h_] at H; exact absurd H (by simp)
    rw [if_pos c19] at H
    have c19b0 := eq_true c19
    have c19b1 : decide (((rdOf ByteArray.empty t246 t249).extract 0 3).size + 1 ≤ 9223372036854775807) = true := decide_eq_true c19
    try have c19b2 : (9223372036854775807 < ((rdOf ByteArray.empty t246 t249).extract 0 3).size + 1) = False := eq_false (Nat.not_lt.2 c19)
    (try (have c19v2 : (9223372036854775807 < min 3 (rdOf ByteArray.empty t246 t249).size + 1) = False := eq_false (by have h_ := c19; simp only [ByteArray.size_append, ByteArray.size_extract] at h_; omega)))
    replace H := Option.bind_eq_some_iff.mp H
    obtain ⟨t251, A200, H⟩ := H
    replace H : (if 0 ≤ (wrap64 (t239 - 1)) then (if (wrap64 (t239 - 1)) < (t251.length : Int) then (if (((rdOf ByteArray.empty t246 t249).extract 0 3) ++ (⟨#[32]⟩ : ByteArray)).size + (rdOf ByteArray.empty t251 (wrap64 (t239 - 1))).size ≤ 9223372036854775807 then (if ((((rdOf ByteArray.empty t246 t249).extract 0 3) ++ (⟨#[32]⟩ : ByteArray)) ++ (rdOf ByteArray.empty t251 (wrap64 (t239 - 1)))).size + 1 ≤ 9223372036854775807 then (if (((((rdOf ByteArray.empty t246 t249).extract 0 3) ++ (⟨#[32]⟩ : ByteArray)) ++ (rdOf ByteArray.empty t251 (wrap64 (t239 - 1)))) ++ (⟨#[32]⟩ : ByteArray)).size + x4_5.size ≤ 9223372036854775807 then (if ((((((rdOf ByteArray.empty t246 t249).extract 0 3) ++ (⟨#[32]⟩ : ByteArray)) ++ (rdOf ByteArray.empty t251 (wrap64 (t239 - 1)))) ++ (⟨#[32]⟩ : ByteArray)) ++ x4_5).size + 1 ≤ 9223372036854775807 then ((impl_clock.f t238 t239 t240 t241 t242 t243).bind fun t255 => (if (((((((rdOf ByteArray.empty t246 t249).extract 0 3) ++ (⟨#[32]⟩ : ByteArray)) ++ (rdOf ByteArray.empty t251 (wrap64 (t239 - 1)))) ++ (⟨#[32]⟩ : ByteArray)) ++ x4_5) ++ (⟨#[32]⟩ : ByteArray)).size + t255.size ≤ 9223372036854775807 then (if ((((((((rdOf ByteArray.empty t246 t249).extract 0 3) ++ (⟨#[32]⟩ : ByteArray)) ++ (rdOf ByteArray.empty t251 (wrap64 (t239 - 1)))) ++ (⟨#[32]⟩ : ByteArray)) ++ x4_5) ++ (⟨#[32]⟩ : ByteArray)) ++ t255).size + 1 ≤ 9223372036854775807 then ((impl_digits.f t238 4).bind fun t256 => (if (((((((((rdOf ByteArray.empty t246 t249).extract 0 3) ++ (⟨#[32]⟩ : ByteArray)) ++ (rdOf ByteArray.empty t251 (wrap64 (t239 - 1)))) ++ (⟨#[32]⟩ : ByteArray)) ++ x4_5) ++ (⟨#[32]⟩ : ByteArray)) ++ t255) ++ (⟨#[32]⟩ : ByteArray)).size + t256.size ≤ 9223372036854775807 then (some ((((((((((rdOf ByteArray.empty t246 t249).extract 0 3) ++ (⟨#[32]⟩ : ByteArray)) ++ (rdOf ByteArray.empty t251 (wrap64 (t239 - 1)))) ++ (⟨#[32]⟩ : ByteArray)) ++ x4_5) ++ (⟨#[32]⟩ : ByteArray)) ++ t255) ++ (⟨#[32]⟩ : ByteArray)) ++ t256)) else (none))) else (none)) else (none))) else (none)) else (none)) else (none)) else (none)) else (none)) else (none)) = some r := H
    have A20 := Aside0.mk A200
    clear A200
    obtain ⟨ji21, hji21⟩ : ∃ j_ : Int, (wrap64 (t239 - 1)) = j_ := ⟨_, rfl⟩
    replace H : (if 0 ≤ (ji21) then (if (ji21) < (t251.length : Int) then (if (((rdOf ByteArray.empty t246 t249).extract 0 3) ++ (⟨#[32]⟩ : ByteArray)).size + (rdOf ByteArray.empty t251 (ji21)).size ≤ 9223372036854775807 then (if ((((rdOf ByteArray.empty t246 t249).extract 0 3) ++ (⟨#[32]⟩ : ByteArray)) ++ (rdOf ByteArray.empty t251 (ji21))).size + 1 ≤ 9223372036854775807 then (if (((((rdOf ByteArray.empty t246 t249).extract 0 3) ++ (⟨#[32]⟩ : ByteArray)) ++ (rdOf ByteArray.empty t251 (ji21))) ++ (⟨#[32]⟩ : ByteArray)).size + x4_5.size ≤ 9223372036854775807 then (if ((((((rdOf ByteArray.empty t246 t249).extract 0 3) ++ (⟨#[32]⟩ : ByteArray)) ++ (rdOf ByteArray.empty t251 (ji21))) ++ (⟨#[32]⟩ : ByteArray)) ++ x4_5).size + 1 ≤ 9223372036854775807 then ((impl_clock.f t238 t239 t240 t241 t242 t243).bind fun t255 => (if (((((((rdOf ByteArray.empty t246 t249).extract 0 3) ++ (⟨#[32]⟩ : ByteArray)) ++ (rdOf ByteArray.empty t251 (ji21))) ++ (⟨#[32]⟩ : ByteArray)) ++ x4_5) ++ (⟨#[32]⟩ : ByteArray)).size + t255.size ≤ 9223372036854775807 then (if ((((((((rdOf ByteArray.empty t246 t249).extract 0 3) ++ (⟨#[32]⟩ : ByteArray)) ++ (rdOf ByteArray.empty t251 (ji21))) ++ (⟨#[32]⟩ : ByteArray)) ++ x4_5) ++ (⟨#[32]⟩ : ByteArray)) ++ t255).size + 1 ≤ 9223372036854775807 then ((impl_digits.f t238 4).bind fun t256 => (if (((((((((rdOf ByteArray.empty t246 t249).extract 0 3) ++ (⟨#[32]⟩ : ByteArray)) ++ (rdOf ByteArray.empty t251 (ji21))) ++ (⟨#[32]⟩ : ByteArray)) ++ x4_5) ++ (⟨#[32]⟩ : ByteArray)) ++ t255) ++ (⟨#[32]⟩ : ByteArray)).size + t256.size ≤ 9223372036854775807 then (some ((((((((((rdOf ByteArray.empty t246 t249).extract 0 3) ++ (⟨#[32]⟩ : ByteArray)) ++ (rdOf ByteArray.empty t251 (ji21))) ++ (⟨#[32]⟩ : ByteArray)) ++ x4_5) ++ (⟨#[32]⟩ : ByteArray)) ++ t255) ++ (⟨#[32]⟩ : ByteArray)) ++ t256)) else (none))) else (none)) else (none))) else (none)) else (none)) else (none)) else (none)) else (none)) else (none)) = some r := by first | (rw [hji21] at H; exact H) | (simp only [hji21] at H ⊢; exact H)
    (try rw [hji21] at A13)
    (try rw [hji21] at A14)
    (try rw [hji21] at A20)
    have hji21w : (IntKind.i64.wrap (t239 - 1)) = ji21 := (i64_w _).trans hji21
    have c22 : 0 ≤ (ji21) := Classical.byContradiction fun h_ => by rw [if_neg h_] at H; exact absurd H (by simp)
    rw [if_pos c22] at H
    have c22b0 : decide (0 ≤ (ji21)) = true := decide_eq_true c22
    clear c22
    have c23 : (ji21) < (t251.length : Int) := Classical.byContradiction fun h_ => by rw [if_neg h_] at H; exact absurd H (by simp)
    rw [if_pos c23] at H
    have c23b0 : decide ((ji21) < (t251.length : Int)) = true := decide_eq_true c23
    clear c23
    have c24 : (((rdOf ByteArray.empty t246 t249).extract 0 3) ++ (⟨#[32]⟩ : ByteArray)).size + (rdOf ByteArray.empty t251 (ji21)).size ≤ 9223372036854775807 := Classical.byContradiction fun h_ => by rw [if_neg h_] at H; exact absurd H (by simp)
    rw [if_pos c24] at H
    have c24b0 := eq_true c24
    have c24b1 : decide ((((rdOf ByteArray.empty t246 t249).extract 0 3) ++ (⟨#[32]⟩ : ByteArray)).size + (rdOf ByteArray.empty t251 (ji21)).size ≤ 9223372036854775807) = true := decide_eq_true c24
    try have c24b2 : (9223372036854775807 < (((rdOf ByteArray.empty t246 t249).extract 0 3) ++ (⟨#[32]⟩ : ByteArray)).size + (rdOf ByteArray.empty t251 (ji21)).size) = False := eq_false (Nat.not_lt.2 c24)
    (try (have c24v2 : (9223372036854775807 < (min 3 (rdOf ByteArray.empty t246 t249).size + 1) + (rdOf ByteArray.empty t251 (ji21)).size) = False := eq_false (by have h_ := c24; simp only [ByteArray.size_append, ByteArray.size_extract, show (⟨#[32]⟩ : ByteArray).size = 1 from rfl] at h_; omega)))
    (try (have c24y0 := c24b0; simp only [ByteArray.size_append] at c24y0))
    (try (have c24z0 := c24b0; simp only [ByteArray.size_append, Int.natCast_add] at c24z0))
    (try (have c24y1 := c24b1; simp only [ByteArray.size_append] at c24y1))
    (try (have c24z1 := c24b1; simp only [ByteArray.size_append, Int.natCast_add] at c24z1))
    have c25 : ((((rdOf ByteArray.empty t246 t249).extract 0 3) ++ (⟨#[32]⟩ : ByteArray)) ++ (rdOf ByteArray.empty t251 (ji21))).size + 1 ≤ 9223372036854775807 := Classical.byContradiction fun h_ => by rw [if_neg h_] at H; exact absurd H (by simp)
    rw [if_pos c25] at H
    have c25b0 := eq_true c25
    have c25b1 : decide (((((rdOf ByteArray.empty t246 t249).extract 0 3) ++ (⟨#[32]⟩ : ByteArray)) ++ (rdOf ByteArray.empty t251 (ji21))).size + 1 ≤ 9223372036854775807) = true := decide_eq_true c25
    try have c25b2 : (9223372036854775807 < ((((rdOf ByteArray.empty t246 t249).extract 0 3) ++ (⟨#[32]⟩ : ByteArray)) ++ (rdOf ByteArray.empty t251 (ji21))).size + 1) = False := eq_false (Nat.not_lt.2 c25)
    (try (have c25v2 : (9223372036854775807 < ((min 3 (rdOf ByteArray.empty t246 t249).size + 1) + (rdOf ByteArray.empty t251 (ji21)).size) + 1) = False := eq_false (by have h_ := c25; simp only [ByteArray.size_append, ByteArray.size_extract, show (⟨#[32]⟩ : ByteArray).size = 1 from rfl] at h_; omega)))
    (try (have c25y0 := c25b0; simp only [ByteArray.size_append] at c25y0))
    (try (have c25z0 := c25b0; simp only [ByteArray.size_append, Int.natCast_add] at c25z0))
    (try (have c25y1 := c25b1; simp only [ByteArray.size_append] at c25y1))
    (try (have c25z1 := c25b1; simp only [ByteArray.size_append, Int.natCast_add] at c25z1))
    have c26 : (((((rdOf ByteArray.empty t246 t249).extract 0 3) ++ (⟨#[32]⟩ : ByteArray)) ++ (rdOf ByteArray.empty t251 (ji21))) ++ (⟨#[32]⟩ : ByteArray)).size + x4_5.size ≤ 9223372036854775807 := Classical.byContradiction fun h_ => by rw [if_neg h_] at H; exact absurd H (by simp)
    rw [if_pos c26] at H
    have c26b0 := eq_true c26
    have c26b1 : decide ((((((rdOf ByteArray.empty t246 t249).extract 0 3) ++ (⟨#[32]⟩ : ByteArray)) ++ (rdOf ByteArray.empty t251 (ji21))) ++ (⟨#[32]⟩ : ByteArray)).size + x4_5.size ≤ 9223372036854775807) = true := decide_eq_true c26
    try have c26b2 : (9223372036854775807 < (((((rdOf ByteArray.empty t246 t249).extract 0 3) ++ (⟨#[32]⟩ : ByteArray)) ++ (rdOf ByteArray.empty t251 (ji21))) ++ (⟨#[32]⟩ : ByteArray)).size + x4_5.size) = False := eq_false (Nat.not_lt.2 c26)
    (try (have c26v2 : (9223372036854775807 < (((min 3 (rdOf ByteArray.empty t246 t249).size + 1) + (rdOf ByteArray.empty t251 (ji21)).size) + 1) + x4_5.size) = False := eq_false (by have h_ := c26; simp only [ByteArray.size_append, ByteArray.size_extract, show (⟨#[32]⟩ : ByteArray).size = 1 from rfl] at h_; omega)))
    (try (have c26y0 := c26b0; simp only [ByteArray.size_append] at c26y0))
    (try (have c26z0 := c26b0; simp only [ByteArray.size_append, Int.natCast_add] at c26z0))
    (try (have c26y1 := c26b1; simp only [ByteArray.size_append] at c26y1))
    (try (have c26z1 := c26b1; simp only [ByteArray.size_append, Int.natCast_add] at c26z1))
    have c27 : ((((((rdOf ByteArray.empty t246 t249).extract 0 3) ++ (⟨#[32]⟩ : ByteArray)) ++ (rdOf ByteArray.empty t251 (ji21))) ++ (⟨#[32]⟩ : ByteArray)) ++ x4_5).size + 1 ≤ 9223372036854775807 := Classical.byContradiction fun h_ => by rw [if_neg h_] at H; exact absurd H (by simp)
    rw [if_pos c27] at H
    have c27b0 := eq_true c27
    have c27b1 : decide (((((((rdOf ByteArray.empty t246 t249).extract 0 3) ++ (⟨#[32]⟩ : ByteArray)) ++ (rdOf ByteArray.empty t251 (ji21))) ++ (⟨#[32]⟩ : ByteArray)) ++ x4_5).size + 1 ≤ 9223372036854775807) = true := decide_eq_true c27
    try have c27b2 : (9223372036854775807 < ((((((rdOf ByteArray.empty t246 t249).extract 0 3) ++ (⟨#[32]⟩ : ByteArray)) ++ (rdOf ByteArray.empty t251 (ji21))) ++ (⟨#[32]⟩ : ByteArray)) ++ x4_5).size + 1) = False := eq_false (Nat.not_lt.2 c27)
    (try (have c27v2 : (9223372036854775807 < ((((min 3 (rdOf ByteArray.empty t246 t249).size + 1) + (rdOf ByteArray.empty t251 (ji21)).size) + 1) + x4_5.size) + 1) = False := eq_false (by have h_ := c27; simp only [ByteArray.size_append, ByteArray.size_extract, show (⟨#[32]⟩ : ByteArray).size = 1 from rfl] at h_; omega)))
    (try (have c27y0 := c27b0; simp only [ByteArray.size_append] at c27y0))
    (try (have c27z0 := c27b0; simp only [ByteArray.size_append, Int.natCast_add] at c27z0))
    (try (have c27y1 := c27b1; simp only [ByteArray.size_append] at c27y1))
    (try (have c27z1 := c27b1; simp only [ByteArray.size_append, Int.natCast_add] at c27z1))
    replace H := Option.bind_eq_some_iff.mp H
    obtain ⟨t255, A280, H⟩ := H
    replace H : (if (((((((rdOf ByteArray.empty t246 t249).extract 0 3) ++ (⟨#[32]⟩ : ByteArray)) ++ (rdOf ByteArray.empty t251 (ji21))) ++ (⟨#[32]⟩ : ByteArray)) ++ x4_5) ++ (⟨#[32]⟩ : ByteArray)).size + t255.size ≤ 9223372036854775807 then (if ((((((((rdOf ByteArray.empty t246 t249).extract 0 3) ++ (⟨#[32]⟩ : ByteArray)) ++ (rdOf ByteArray.empty t251 (ji21))) ++ (⟨#[32]⟩ : ByteArray)) ++ x4_5) ++ (⟨#[32]⟩ : ByteArray)) ++ t255).size + 1 ≤ 9223372036854775807 then ((impl_digits.f t238 4).bind fun t256 => (if (((((((((rdOf ByteArray.empty t246 t249).extract 0 3) ++ (⟨#[32]⟩ : ByteArray)) ++ (rdOf ByteArray.empty t251 (ji21))) ++ (⟨#[32]⟩ : ByteArray)) ++ x4_5) ++ (⟨#[32]⟩ : ByteArray)) ++ t255) ++ (⟨#[32]⟩ : ByteArray)).size + t256.size ≤ 9223372036854775807 then (some ((((((((((rdOf ByteArray.empty t246 t249).extract 0 3) ++ (⟨#[32]⟩ : ByteArray)) ++ (rdOf ByteArray.empty t251 (ji21))) ++ (⟨#[32]⟩ : ByteArray)) ++ x4_5) ++ (⟨#[32]⟩ : ByteArray)) ++ t255) ++ (⟨#[32]⟩ : ByteArray)) ++ t256)) else (none))) else (none)) else (none)) = some r := H
    have A28 := Aside0.mk A280
    clear A280
    have c29 : (((((((rdOf ByteArray.empty t246 t249).extract 0 3) ++ (⟨#[32]⟩ : ByteArray)) ++ (rdOf ByteArray.empty t251 (ji21))) ++ (⟨#[32]⟩ : ByteArray)) ++ x4_5) ++ (⟨#[32]⟩ : ByteArray)).size + t255.size ≤ 9223372036854775807 := Classical.byContradiction fun h_ => by rw [if_neg h_] at H; exact absurd H (by simp)
    rw [if_pos c29] at H
    have c29b0 := eq_true c29
    have c29b1 : decide ((((((((rdOf ByteArray.empty t246 t249).extract 0 3) ++ (⟨#[32]⟩ : ByteArray)) ++ (rdOf ByteArray.empty t251 (ji21))) ++ (⟨#[32]⟩ : ByteArray)) ++ x4_5) ++ (⟨#[32]⟩ : ByteArray)).size + t255.size ≤ 9223372036854775807) = true := decide_eq_true c29
    try have c29b2 : (9223372036854775807 < (((((((rdOf ByteArray.empty t246 t249).extract 0 3) ++ (⟨#[32]⟩ : ByteArray)) ++ (rdOf ByteArray.empty t251 (ji21))) ++ (⟨#[32]⟩ : ByteArray)) ++ x4_5) ++ (⟨#[32]⟩ : ByteArray)).size + t255.size) = False := eq_false (Nat.not_lt.2 c29)
    (try (have c29v2 : (9223372036854775807 < (((((min 3 (rdOf ByteArray.empty t246 t249).size + 1) + (rdOf ByteArray.empty t251 (ji21)).size) + 1) + x4_5.size) + 1) + t255.size) = False := eq_false (by have h_ := c29; simp only [ByteArray.size_append, ByteArray.size_extract, show (⟨#[32]⟩ : ByteArray).size = 1 from rfl] at h_; omega)))
    (try (have c29y0 := c29b0; simp only [ByteArray.size_append] at c29y0))
    (try (have c29z0 := c29b0; simp only [ByteArray.size_append, Int.natCast_add] at c29z0))
    (try (have c29y1 := c29b1; simp only [ByteArray.size_append] at c29y1))
    (try (have c29z1 := c29b1; simp only [ByteArray.size_append, Int.natCast_add] at c29z1))
    have c30 : ((((((((rdOf ByteArray.empty t246 t249).extract 0 3) ++ (⟨#[32]⟩ : ByteArray)) ++ (rdOf ByteArray.empty t251 (ji21))) ++ (⟨#[32]⟩ : ByteArray)) ++ x4_5) ++ (⟨#[32]⟩ : ByteArray)) ++ t255).size + 1 ≤ 9223372036854775807 := Classical.byContradiction fun h_ => by rw [if_neg h_] at H; exact absurd H (by simp)
    rw [if_pos c30] at H
    have c30b0 := eq_true c30
    have c30b1 : decide (((((((((rdOf ByteArray.empty t246 t249).extract 0 3) ++ (⟨#[32]⟩ : ByteArray)) ++ (rdOf ByteArray.empty t251 (ji21))) ++ (⟨#[32]⟩ : ByteArray)) ++ x4_5) ++ (⟨#[32]⟩ : ByteArray)) ++ t255).size + 1 ≤ 9223372036854775807) = true := decide_eq_true c30
    try have c30b2 : (9223372036854775807 < ((((((((rdOf ByteArray.empty t246 t249).extract 0 3) ++ (⟨#[32]⟩ : ByteArray)) ++ (rdOf ByteArray.empty t251 (ji21))) ++ (⟨#[32]⟩ : ByteArray)) ++ x4_5) ++ (⟨#[32]⟩ : ByteArray)) ++ t255).size + 1) = False := eq_false (Nat.not_lt.2 c30)
    (try (have c30v2 : (9223372036854775807 < ((((((min 3 (rdOf ByteArray.empty t246 t249).size + 1) + (rdOf ByteArray.empty t251 (ji21)).size) + 1) + x4_5.size) + 1) + t255.size) + 1) = False := eq_false (by have h_ := c30; simp only [ByteArray.size_append, ByteArray.size_extract, show (⟨#[32]⟩ : ByteArray).size = 1 from rfl] at h_; omega)))
    (try (have c30y0 := c30b0; simp only [ByteArray.size_append] at c30y0))
    (try (have c30z0 := c30b0; simp only [ByteArray.size_append, Int.natCast_add] at c30z0))
    (try (have c30y1 := c30b1; simp only [ByteArray.size_append] at c30y1))
    (try (have c30z1 := c30b1; simp only [ByteArray.size_append, Int.natCast_add] at c30z1))
    replace H := Option.bind_eq_some_iff.mp H
    obtain ⟨t256, A310, H⟩ := H
    replace H : (if (((((((((rdOf ByteArray.empty t246 t249).extract 0 3) ++ (⟨#[32]⟩ : ByteArray)) ++ (rdOf ByteArray.empty t251 (ji21))) ++ (⟨#[32]⟩ : ByteArray)) ++ x4_5) ++ (⟨#[32]⟩ : ByteArray)) ++ t255) ++ (⟨#[32]⟩ : ByteArray)).size + t256.size ≤ 9223372036854775807 then (some ((((((((((rdOf ByteArray.empty t246 t249).extract 0 3) ++ (⟨#[32]⟩ : ByteArray)) ++ (rdOf ByteArray.empty t251 (ji21))) ++ (⟨#[32]⟩ : ByteArray)) ++ x4_5) ++ (⟨#[32]⟩ : ByteArray)) ++ t255) ++ (⟨#[32]⟩ : ByteArray)) ++ t256)) else (none)) = some r := H
    have A31 := Aside0.mk A310
    clear A310
    have c32 : (((((((((rdOf ByteArray.empty t246 t249).extract 0 3) ++ (⟨#[32]⟩ : ByteArray)) ++ (rdOf ByteArray.empty t251 (ji21))) ++ (⟨#[32]⟩ : ByteArray)) ++ x4_5) ++ (⟨#[32]⟩ : ByteArray)) ++ t255) ++ (⟨#[32]⟩ : ByteArray)).size + t256.size ≤ 9223372036854775807 := Classical.byContradiction fun h_ => by rw [if_neg h_] at H; exact absurd H (by simp)
    rw [if_pos c32] at H
    have c32b0 := eq_true c32
    have c32b1 : decide ((((((((((rdOf ByteArray.empty t246 t249).extract 0 3) ++ (⟨#[32]⟩ : ByteArray)) ++ (rdOf ByteArray.empty t251 (ji21))) ++ (⟨#[32]⟩ : ByteArray)) ++ x4_5) ++ (⟨#[32]⟩ : ByteArray)) ++ t255) ++ (⟨#[32]⟩ : ByteArray)).size + t256.size ≤ 9223372036854775807) = true := decide_eq_true c32
    try have c32b2 : (9223372036854775807 < (((((((((rdOf ByteArray.empty t246 t249).extract 0 3) ++ (⟨#[32]⟩ : ByteArray)) ++ (rdOf ByteArray.empty t251 (ji21))) ++ (⟨#[32]⟩ : ByteArray)) ++ x4_5) ++ (⟨#[32]⟩ : ByteArray)) ++ t255) ++ (⟨#[32]⟩ : ByteArray)).size + t256.size) = False := eq_false (Nat.not_lt.2 c32)
    (try (have c32v2 : (9223372036854775807 < (((((((min 3 (rdOf ByteArray.empty t246 t249).size + 1) + (rdOf ByteArray.empty t251 (ji21)).size) + 1) + x4_5.size) + 1) + t255.size) + 1) + t256.size) = False := eq_false (by have h_ := c32; simp only [ByteArray.size_append, ByteArray.size_extract, show (⟨#[32]⟩ : ByteArray).size = 1 from rfl] at h_; omega)))
    (try (have c32y0 := c32b0; simp only [ByteArray.size_append] at c32y0))
    (try (have c32z0 := c32b0; simp only [ByteArray.size_append, Int.natCast_add] at c32z0))
    (try (have c32y1 := c32b1; simp only [ByteArray.size_append] at c32y1))
    (try (have c32z1 := c32b1; simp only [ByteArray.size_append, Int.natCast_add] at c32z1))
    obtain rfl := Option.some.inj H
    try go_wp2
    have n0_ := Aside0.mk (blk_drew BK244.out)
    have n1_ := Aside0.mk (below_drew1 HB.out)
    clear BK244
    clear HB
    have BK244 := n0_
    have HB := n1_
    clear n0_ n1_
    refine start_ (n := 27) (S := fun w' => w'.cell? ⟨gb244, 0, none⟩ = some (.int .i64 t238) ∧ w'.cell? ⟨gb244, 1, none⟩ = some (.int .i64 t239) ∧ w'.cell? ⟨gb244, 2, none⟩ = some (.int .i64 t240) ∧ w'.cell? ⟨gb244, 3, none⟩ = some (.int .i64 t241) ∧ w'.cell? ⟨gb244, 4, none⟩ = some (.int .i64 t242) ∧ w'.cell? ⟨gb244, 5, none⟩ = some (.int .i64 t243) ∧ True ∧ True) (ds := []) #[false, false, false, false, false, false, false, false, false, false, false, false, false, false, false, false, false, false, false, false, false, false, false, false, false, false, false] (by kernel_rfl) rfl rfl ⟨(blk_cell BK244.out 0).trans rfl, (blk_cell BK244.out 1).trans rfl, (blk_cell BK244.out 2).trans rfl, (blk_cell BK244.out 3).trans rfl, (blk_cell BK244.out 4).trans rfl, (blk_cell BK244.out 5).trans rfl, trivial, trivial⟩ (fun hHeld => ?_); refine with_tabW impl_LineDate.tab7 impl_LineDate.bits7 (fun HT_ HW_ => ?_)
    generalize wc.drew = w33 at BK244 HB hHeld ⊢
    refine pure_ (i := 1) (N := some 20) (v := ?_) (a' := ?_) #[false, true, false, false, false, false, false, false, false, false, false, false, false, false, false, false, false, false, false, false, false, false, false, false, false, false, false] rfl rfl (any_of HT_.out (by kernel_rfl)) (fun _ _ _ h => h) (Or.inl ⟨by rfl, ?_⟩) ?_ ?_
    rotate_left
    ·
     intro w'
     go_simp
     with_reducible rfl
    rotate_left
    ·
     simp only [Act.put, List.setIfInBounds_toArray, List.set_cons_zero, List.set_cons_succ, i64_w, i32_w]
     rfl
    refine pure_ (i := 8) (N := some 27) (v := ?_) (a' := ?_) #[false, true, false, false, false, false, false, false, true, false, false, false, false, false, false, false, false, false, false, false, false, false, false, false, false, false, false] rfl rfl (any_of HT_.out (by kernel_rfl)) (fun _ _ _ h => h) (Or.inl ⟨by rfl, ?_⟩) ?_ ?_
    rotate_left
    ·
     intro w'
     go_simp
     with_reducible rfl
    rotate_left
    ·
     simp only [Act.put, List.setIfInBounds_toArray, List.set_cons_zero, List.set_cons_succ, i64_w, i32_w]
     rfl
    refine pure_ (i := 15) (N := some 34) (v := ?_) (a' := ?_) #[false, true, false, false, false, false, false, false, true, false, false, false, false, false, false, true, false, false, false, false, false, false, false, false, false, false, false] rfl rfl (any_of HT_.out (by kernel_rfl)) (fun _ _ _ h => h) (Or.inl ⟨by rfl, ?_⟩) ?_ ?_
    rotate_left
    ·
     intro w'
     go_simp
     with_reducible rfl
    rotate_left
    ·
     simp only [Act.put, List.setIfInBounds_toArray, List.set_cons_zero, List.set_cons_succ, i64_w, i32_w]
     rfl
    refine pure_ (i := 22) (N := some 41) (v := ?_) (a' := ?_) #[false, true, false, false, false, false, false, false, true, false, false, false, false, false, false, true, false, false, false, false, false, false, true, false, false, false, false] rfl rfl (any_of HT_.out (by kernel_rfl)) (fun _ _ _ h => h) (Or.inl ⟨by rfl, ?_⟩) ?_ ?_
    rotate_left
    ·
     intro w'
     go_simp
     with_reducible rfl
    rotate_left
    ·
     simp only [Act.put, List.setIfInBounds_toArray, List.set_cons_zero, List.set_cons_succ, i64_w, i32_w]
     rfl
    refine take_ (i := 9) (N := some 28) (v := ?_) (a' := ?_) #[false, true, false, false, false, false, false, false, true, true, false, false, false, false, false, true, false, false, false, false, false, false, true, false, false, false, false] rfl rfl (take_ofW HT_.out HW_.out (by kernel_rfl)) (fun _ _ _ h => h) (Or.inl ⟨by rfl, ?_⟩) hHeld ?_ ?_
    rotate_left
    ·
     rintro w' ⟨s0, s1, s2, s3, s4, s5, s6, s7⟩
     go_simp
     with_reducible rfl
    rotate_left
    ·
     simp only [Act.put, List.setIfInBounds_toArray, List.set_cons_zero, List.set_cons_succ, i64_w, i32_w]
     rfl
    refine pure_ (i := 10) (N := some 29) (v := ?_) (a' := ?_) #[false, true, false, false, false, false, false, false, true, true, true, false, false, false, false, true, false, false, false, false, false, false, true, false, false, false, false] rfl rfl (any_of HT_.out (by kernel_rfl)) (fun _ _ _ h => h) (Or.inl ⟨by rfl, ?_⟩) ?_ ?_
    rotate_left
    ·
     intro w'
     go_simp
     with_reducible rfl
    rotate_left
    ·
     simp only [Act.put, List.setIfInBounds_toArray, List.set_cons_zero, List.set_cons_succ, i64_w, i32_w]
     rfl
    refine take_ (i := 18) (N := some 37) (v := ?_) (a' := ?_) #[false, true, false, false, false, false, false, false, true, true, true, false, false, false, false, true, false, false, true, false, false, false, true, false, false, false, false] rfl rfl (take_ofW HT_.out HW_.out (by kernel_rfl)) (fun _ _ _ h => h) (Or.inl ⟨by rfl, ?_⟩) hHeld ?_ ?_
    rotate_left
    ·
     rintro w' ⟨s0, s1, s2, s3, s4, s5, s6, s7⟩
     go_simp
     with_reducible rfl
    rotate_left
    ·
     simp only [Act.put, List.setIfInBounds_toArray, List.set_cons_zero, List.set_cons_succ, i64_w, i32_w]
     rfl
    refine take_ (i := 23) (N := some 42) (v := ?_) (a' := ?_) #[false, true, false, false, false, false, false, false, true, true, true, false, false, false, false, true, false, false, true, false, false, false, true, true, false, false, false] rfl rfl (take_ofW HT_.out HW_.out (by kernel_rfl)) (fun _ _ _ h => h) (Or.inl ⟨by rfl, ?_⟩) hHeld ?_ ?_
    rotate_left
    ·
     rintro w' ⟨s0, s1, s2, s3, s4, s5, s6, s7⟩
     go_simp
     with_reducible rfl
    rotate_left
    ·
     simp only [Act.put, List.setIfInBounds_toArray, List.set_cons_zero, List.set_cons_succ, i64_w, i32_w]
     rfl
    refine one_ (i := 0) (N := some 19) #[true, true, false, false, false, false, false, false, true, true, true, false, false, false, false, true, false, false, true, false, false, false, true, true, false, false, false] rfl rfl (one_of HT_.out (by kernel_rfl)) (by decide) (fun K hK => ?_)
    refine goes_ Tryd.func53 (by kernel_rfl) rfl #[] (by rfl) rfl rfl (by (try simp only [List.map_toArray, List.map_cons, List.map_nil]); first | done | rfl | (simp only [List.length_drop, List.length_take]; rfl)) ?_
    with_reducible refine (impl_days.calls  t246 _ A13.out).mono ?_
    rintro e w34 ⟨v247, rfl, ho0, hb⟩
    refine ⟨_, rfl, ?_⟩
    have n0_ := Aside0.mk (Kd.R_lower ho0 (below_size (by repeat (first | (with_reducible first | exact HB.out | apply below_alloc | apply pw_below_drewN | apply below_drew1 | refine below_set ?_ GE244.out) | exact HB.out))))
    have n1_ := Aside0.mk (blk_below (g := gb244) (o := .cells #[.int .i64 t238, .int .i64 t239, .int .i64 t240, .int .i64 t241, .int .i64 t242, .int .i64 t243] 30 (0, 0)) (by (with_reducible repeat (first | refine blk_drewN ?_ _ | refine blk_drew ?_ | refine blk_alloc ?_ _)); exact BK244.out) hb)
    have n2_ := Aside0.mk (below_step (by repeat (first | (with_reducible first | exact HB.out | apply below_alloc | apply pw_below_drewN | apply below_drew1 | refine below_set ?_ GE244.out) | exact HB.out)) hb)
    clear BK244
    clear HB
    have HO248 := n0_
    have BK244 := n1_
    have HB := n2_
    clear n0_ n1_ n2_
    (try clear hb)
    (try clear hb2)
    (try clear hk)
    (try clear hi)
    (try clear ho0)
    refine hK.out _ _ ⟨(blk_cell BK244.out 0).trans rfl, (blk_cell BK244.out 1).trans rfl, (blk_cell BK244.out 2).trans rfl, (blk_cell BK244.out 3).trans rfl, (blk_cell BK244.out 4).trans rfl, (blk_cell BK244.out 5).trans rfl, trivial, trivial⟩ (fun hHeld => ?_)
    clear hK K
    refine norm_ (a' := ?_) ?_ ?_
    rotate_left
    ·
     show Act.put _ (some 19) _ = _
     simp only [Act.put, List.setIfInBounds_toArray, List.set_cons_zero, List.set_cons_succ, i64_w, i32_w]
     rfl
    refine one_ (i := 2) (N := some 21) #[true, true, true, false, false, false, false, false, true, true, true, false, false, false, false, true, false, false, true, false, false, false, true, true, false, false, false] rfl rfl (one_of HT_.out (by kernel_rfl)) (by decide) (fun K hK => ?_)
    refine goes_ Tryd.func23 (by kernel_rfl) rfl #[.int .i64 a0] (by rfl) rfl rfl (by (try simp only [List.map_toArray, List.map_cons, List.map_nil]); first | done | rfl | (simp only [List.length_drop, List.length_take]; rfl)) ?_
    with_reducible refine (impl_Weekday.calls a0 t249 _ A14.out).mono ?_
    rintro e w' ⟨rfl, ⟨nd, rfl⟩⟩
    refine ⟨_, rfl, ?_⟩
    obtain ⟨Ao35, co35, eo35⟩ := Kd.R_slice HO248.out
    (first | subst eo35 | (injection eo35 with f1_ f2_ f3_; have f4_ := f1_.symm; have f5_ := f3_.symm; clear f1_ f2_ f3_; subst f4_; subst f5_))
    have p250 : 0 ≤ (t249 : Int) := of_decide_eq_true (by first | (with_reducible assumption) | assumption)
    have q250 : t249 < (t246.length : Int) := of_decide_eq_true (by first | (with_reducible assumption) | assumption)
    obtain ⟨ad250, e250, hx250_0⟩ := Kd.at_string (Kd.R_reads' HO248.out).2.2 t249 p250 q250
    cases e250
    replace p250 := eq_true p250
    replace q250 := eq_true q250
    refine hK.out _ _ ⟨(blk_cell BK244.out 0).trans rfl, (blk_cell BK244.out 1).trans rfl, (blk_cell BK244.out 2).trans rfl, (blk_cell BK244.out 3).trans rfl, (blk_cell BK244.out 4).trans rfl, (blk_cell BK244.out 5).trans rfl, trivial, trivial⟩ (fun hHeld => ?_)
    clear hK K
    refine norm_ (a' := ?_) ?_ ?_
    rotate_left
    ·
     show Act.put _ (some 21) _ = _
     simp only [Act.put, List.setIfInBounds_toArray, List.set_cons_zero, List.set_cons_succ, i64_w, i32_w]
     rfl
    refine grow_ (S' := fun w' => w'.cell? ⟨gb244, 0, none⟩ = some (.int .i64 t238) ∧ w'.cell? ⟨gb244, 1, none⟩ = some (.int .i64 t239) ∧ w'.cell? ⟨gb244, 2, none⟩ = some (.int .i64 t240) ∧ w'.cell? ⟨gb244, 3, none⟩ = some (.int .i64 t241) ∧ w'.cell? ⟨gb244, 4, none⟩ = some (.int .i64 t242) ∧ w'.cell? ⟨gb244, 5, none⟩ = some (.int .i64 t243) ∧ w'.cell? (ad250.add (t249).toNat) = some (.string (rdOf ByteArray.empty t246 t249)) ∧ True) (fun w' h_ => ⟨h_.1, h_.2.1, h_.2.2.1, h_.2.2.2.1, h_.2.2.2.2.1, h_.2.2.2.2.2.1, trivial, trivial⟩) ⟨hHeld.1, hHeld.2.1, hHeld.2.2.1, hHeld.2.2.2.1, hHeld.2.2.2.2.1, hHeld.2.2.2.2.2.1, hx250_0, trivial⟩ (fun hHeld => ?_)
    refine pure_ (i := 3) (N := some 22) (v := ?_) (a' := ?_) #[true, true, true, true, false, false, false, false, true, true, true, false, false, false, false, true, false, false, true, false, false, false, true, true, false, false, false] rfl rfl (any_of HT_.out (by kernel_rfl)) (fun _ _ _ h => h) (Or.inl ⟨by rfl, ?_⟩) ?_ ?_
    rotate_left
    ·
     intro w'
     go_simp
     with_reducible rfl
    rotate_left
    ·
     simp only [Act.put, List.setIfInBounds_toArray, List.set_cons_zero, List.set_cons_succ, i64_w, i32_w]
     rfl
    refine take_ (i := 4) (N := some 23) (v := ?_) (a' := ?_) #[true, true, true, true, true, false, false, false, true, true, true, false, false, false, false, true, false, false, true, false, false, false, true, true, false, false, false] rfl rfl (take_ofW HT_.out HW_.out (by kernel_rfl)) (fun _ _ _ h => h) (Or.inl ⟨by rfl, ?_⟩) hHeld ?_ ?_
    rotate_left
    ·
     rintro w' ⟨s0, s1, s2, s3, s4, s5, s6, s7⟩
     go_simp
     with_reducible rfl
    rotate_left
    ·
     simp only [Act.put, List.setIfInBounds_toArray, List.set_cons_zero, List.set_cons_succ, i64_w, i32_w]
     rfl
    refine pure_ (i := 5) (N := some 24) (v := ?_) (a' := ?_) #[true, true, true, true, true, true, false, false, true, true, true, false, false, false, false, true, false, false, true, false, false, false, true, true, false, false, false] rfl rfl (any_of HT_.out (by kernel_rfl)) (fun _ _ _ h => h) (Or.inl ⟨by rfl, ?_⟩) ?_ ?_
    rotate_left
    ·
     intro w'
     go_simp
     with_reducible rfl
    rotate_left
    ·
     simp only [Act.put, List.setIfInBounds_toArray, List.set_cons_zero, List.set_cons_succ, i64_w, i32_w]
     rfl
    refine pure_ (i := 6) (N := some 25) (v := ?_) (a' := ?_) #[true, true, true, true, true, true, true, false, true, true, true, false, false, false, false, true, false, false, true, false, false, false, true, true, false, false, false] rfl rfl (any_of HT_.out (by kernel_rfl)) (fun _ _ _ h => h) (Or.inl ⟨by rfl, ?_⟩) ?_ ?_
    rotate_left
    ·
     intro w'
     go_simp
     with_reducible rfl
    rotate_left
    ·
     simp only [Act.put, List.setIfInBounds_toArray, List.set_cons_zero, List.set_cons_succ, i64_w, i32_w]
     rfl
    refine one_ (i := 7) (N := some 26) #[true, true, true, true, true, true, true, true, true, true, true, false, false, false, false, true, false, false, true, false, false, false, true, true, false, false, false] rfl rfl (one_of HT_.out (by kernel_rfl)) (by decide) (fun K hK => ?_)
    refine goes_ Tryd.func55 (by kernel_rfl) rfl #[] (by rfl) rfl rfl (by (try simp only [List.map_toArray, List.map_cons, List.map_nil]); first | done | rfl | (simp only [List.length_drop, List.length_take]; rfl)) ?_
    with_reducible refine (impl_months.calls  t251 _ A20.out).mono ?_
    rintro e w36 ⟨v252, rfl, ho0, hb⟩
    have HS6_ := (hb.cell (World.block_lt_of_cell? _ _ (hHeld.2.2.2.2.2.2.1))).trans (hHeld.2.2.2.2.2.2.1)
    refine ⟨_, rfl, ?_⟩
    have n0_ := Aside0.mk (Kd.R_elder' (by (with_reducible repeat (first | apply Kd.R_alloc | apply Kd.R_drewN | apply Kd.R_drew)); exact HO248.out) (Kd.R_base ho0) hb)
    have n1_ := Aside0.mk (Kd.R_lower (Kd.R_new' ho0 (Kd.R_lt (by (with_reducible repeat (first | apply Kd.R_alloc | apply Kd.R_drewN | apply Kd.R_drew)); exact HO248.out))) (below_size (by repeat (first | (with_reducible first | exact HB.out | apply below_alloc | apply pw_below_drewN | apply below_drew1 | refine below_set ?_ GE244.out) | exact HB.out))))
    have n2_ := Aside0.mk (blk_below (g := gb244) (o := .cells #[.int .i64 t238, .int .i64 t239, .int .i64 t240, .int .i64 t241, .int .i64 t242, .int .i64 t243] 30 (0, 0)) (by (with_reducible repeat (first | refine blk_drewN ?_ _ | refine blk_drew ?_ | refine blk_alloc ?_ _)); exact BK244.out) hb)
    have n3_ := Aside0.mk (below_step (by repeat (first | (with_reducible first | exact HB.out | apply below_alloc | apply pw_below_drewN | apply below_drew1 | refine below_set ?_ GE244.out) | exact HB.out)) hb)
    clear HO248
    clear BK244
    clear HB
    have HO248 := n0_
    have HO253 := n1_
    have BK244 := n2_
    have HB := n3_
    clear n0_ n1_ n2_ n3_
    (try clear hb)
    (try clear hb2)
    (try clear hk)
    (try clear hi)
    (try clear ho0)
    obtain ⟨Ao37, co37, eo37⟩ := Kd.R_slice HO253.out
    (first | subst eo37 | (injection eo37 with f1_ f2_ f3_; have f4_ := f1_.symm; have f5_ := f3_.symm; clear f1_ f2_ f3_; subst f4_; subst f5_))
    have p254 : 0 ≤ ((ji21) : Int) := of_decide_eq_true (by first | (with_reducible assumption) | assumption)
    have q254 : (ji21) < (t251.length : Int) := of_decide_eq_true (by first | (with_reducible assumption) | assumption)
    obtain ⟨ad254, e254, hx254_0⟩ := Kd.at_string (Kd.R_reads' HO253.out).2.2 (ji21) p254 q254
    cases e254
    replace p254 := eq_true p254
    replace q254 := eq_true q254
    refine hK.out _ _ ⟨(blk_cell BK244.out 0).trans rfl, (blk_cell BK244.out 1).trans rfl, (blk_cell BK244.out 2).trans rfl, (blk_cell BK244.out 3).trans rfl, (blk_cell BK244.out 4).trans rfl, (blk_cell BK244.out 5).trans rfl, HS6_, trivial⟩ (fun hHeld => ?_)
    clear hK K
    refine norm_ (a' := ?_) ?_ ?_
    rotate_left
    ·
     show Act.put _ (some 26) _ = _
     simp only [Act.put, List.setIfInBounds_toArray, List.set_cons_zero, List.set_cons_succ, i64_w, i32_w]
     rfl
    refine grow_ (S' := fun w' => w'.cell? ⟨gb244, 0, none⟩ = some (.int .i64 t238) ∧ w'.cell? ⟨gb244, 1, none⟩ = some (.int .i64 t239) ∧ w'.cell? ⟨gb244, 2, none⟩ = some (.int .i64 t240) ∧ w'.cell? ⟨gb244, 3, none⟩ = some (.int .i64 t241) ∧ w'.cell? ⟨gb244, 4, none⟩ = some (.int .i64 t242) ∧ w'.cell? ⟨gb244, 5, none⟩ = some (.int .i64 t243) ∧ w'.cell? (ad250.add (t249).toNat) = some (.string (rdOf ByteArray.empty t246 t249)) ∧ w'.cell? (ad254.add ((ji21)).toNat) = some (.string (rdOf ByteArray.empty t251 (ji21)))) (fun w' h_ => ⟨h_.1, h_.2.1, h_.2.2.1, h_.2.2.2.1, h_.2.2.2.2.1, h_.2.2.2.2.2.1, h_.2.2.2.2.2.2.1, trivial⟩) ⟨hHeld.1, hHeld.2.1, hHeld.2.2.1, hHeld.2.2.2.1, hHeld.2.2.2.2.1, hHeld.2.2.2.2.2.1, hHeld.2.2.2.2.2.2.1, hx254_0⟩ (fun hHeld => ?_)
    refine pure_ (i := 11) (N := some 30) (v := ?_) (a' := ?_) #[true, true, true, true, true, true, true, true, true, true, true, true, false, false, false, true, false, false, true, false, false, false, true, true, false, false, false] rfl rfl (any_of HT_.out (by kernel_rfl)) (fun _ _ _ h => h) (Or.inl ⟨by rfl, ?_⟩) ?_ ?_
    rotate_left
    ·
     intro w'
     go_simp
     with_reducible rfl
    rotate_left
    ·
     simp only [Act.put, List.setIfInBounds_toArray, List.set_cons_zero, List.set_cons_succ, i64_w, i32_w]
     rfl
    refine take_ (i := 12) (N := some 31) (v := ?_) (a' := ?_) #[true, true, true, true, true, true, true, true, true, true, true, true, true, false, false, true, false, false, true, false, false, false, true, true, false, false, false] rfl rfl (take_ofW HT_.out HW_.out (by kernel_rfl)) (fun _ _ _ h => h) (Or.inl ⟨by rfl, ?_⟩) hHeld ?_ ?_
    rotate_left
    ·
     rintro w' ⟨s0, s1, s2, s3, s4, s5, s6, s7⟩
     go_simp
     with_reducible rfl
    rotate_left
    ·
     simp only [Act.put, List.setIfInBounds_toArray, List.set_cons_zero, List.set_cons_succ, i64_w, i32_w]
     rfl
    refine pure_ (i := 13) (N := some 32) (v := ?_) (a' := ?_) #[true, true, true, true, true, true, true, true, true, true, true, true, true, true, false, true, false, false, true, false, false, false, true, true, false, false, false] rfl rfl (any_of HT_.out (by kernel_rfl)) (fun _ _ _ h => h) (Or.inl ⟨by rfl, ?_⟩) ?_ ?_
    rotate_left
    ·
     intro w'
     go_simp
     with_reducible rfl
    rotate_left
    ·
     simp only [Act.put, List.setIfInBounds_toArray, List.set_cons_zero, List.set_cons_succ, i64_w, i32_w]
     rfl
    refine pure_ (i := 14) (N := some 33) (v := ?_) (a' := ?_) #[true, true, true, true, true, true, true, true, true, true, true, true, true, true, true, true, false, false, true, false, false, false, true, true, false, false, false] rfl rfl (any_of HT_.out (by kernel_rfl)) (fun _ _ _ h => h) (Or.inl ⟨by rfl, ?_⟩) ?_ ?_
    rotate_left
    ·
     intro w'
     go_simp
     with_reducible rfl
    rotate_left
    ·
     simp only [Act.put, List.setIfInBounds_toArray, List.set_cons_zero, List.set_cons_succ, i64_w, i32_w]
     rfl
    refine pure_ (i := 16) (N := some 35) (v := ?_) (a' := ?_) #[true, true, true, true, true, true, true, true, true, true, true, true, true, true, true, true, true, false, true, false, false, false, true, true, false, false, false] rfl rfl (any_of HT_.out (by kernel_rfl)) (fun _ _ _ h => h) (Or.inl ⟨by rfl, ?_⟩) ?_ ?_
    rotate_left
    ·
     intro w'
     go_simp
     with_reducible rfl
    rotate_left
    ·
     simp only [Act.put, List.setIfInBounds_toArray, List.set_cons_zero, List.set_cons_succ, i64_w, i32_w]
     rfl
    refine pure_ (i := 17) (N := some 36) (v := ?_) (a' := ?_) #[true, true, true, true, true, true, true, true, true, true, true, true, true, true, true, true, true, true, true, false, false, false, true, true, false, false, false] rfl rfl (any_of HT_.out (by kernel_rfl)) (fun _ _ _ h => h) (Or.inl ⟨by rfl, ?_⟩) ?_ ?_
    rotate_left
    ·
     intro w'
     go_simp
     with_reducible rfl
    rotate_left
    ·
     simp only [Act.put, List.setIfInBounds_toArray, List.set_cons_zero, List.set_cons_succ, i64_w, i32_w]
     rfl
    refine one_ (i := 19) (N := some 38) #[true, true, true, true, true, true, true, true, true, true, true, true, true, true, true, true, true, true, true, true, false, false, true, true, false, false, false] rfl rfl (one_of HT_.out (by kernel_rfl)) (by decide) (fun K hK => ?_)
    refine goes_ Tryd.func56 (by kernel_rfl) rfl #[.agg #[.int .i64 t238, .int .i64 t239, .int .i64 t240, .int .i64 t241, .int .i64 t242, .int .i64 t243]] (by rfl) rfl rfl (by (try simp only [List.map_toArray, List.map_cons, List.map_nil]); first | done | rfl | (simp only [List.length_drop, List.length_take]; rfl)) ?_
    with_reducible refine (impl_clock.calls t238 t239 t240 t241 t242 t243 t255 _ A28.out).mono ?_
    rintro e w38 ⟨rfl, hb⟩
    have HS6_ := (hb.cell (World.block_lt_of_cell? _ _ (hHeld.2.2.2.2.2.2.1))).trans (hHeld.2.2.2.2.2.2.1)
    have HS7_ := (hb.cell (World.block_lt_of_cell? _ _ (hHeld.2.2.2.2.2.2.2))).trans (hHeld.2.2.2.2.2.2.2)
    refine ⟨_, rfl, ?_⟩
    have n0_ := Aside0.mk (Kd.R_below (by (with_reducible repeat (first | apply Kd.R_alloc | apply Kd.R_drewN | apply Kd.R_drew)); exact HO248.out) hb)
    have n1_ := Aside0.mk (Kd.R_below (by (with_reducible repeat (first | apply Kd.R_alloc | apply Kd.R_drewN | apply Kd.R_drew)); exact HO253.out) hb)
    have n2_ := Aside0.mk (blk_below (g := gb244) (o := .cells #[.int .i64 t238, .int .i64 t239, .int .i64 t240, .int .i64 t241, .int .i64 t242, .int .i64 t243] 30 (0, 0)) (by (with_reducible repeat (first | refine blk_drewN ?_ _ | refine blk_drew ?_ | refine blk_alloc ?_ _)); exact BK244.out) hb)
    have n3_ := Aside0.mk (below_step (by repeat (first | (with_reducible first | exact HB.out | apply below_alloc | apply pw_below_drewN | apply below_drew1 | refine below_set ?_ GE244.out) | exact HB.out)) hb)
    clear HO248
    clear HO253
    clear BK244
    clear HB
    have HO248 := n0_
    have HO253 := n1_
    have BK244 := n2_
    have HB := n3_
    clear n0_ n1_ n2_ n3_
    (try clear hb)
    (try clear hb2)
    (try clear hk)
    (try clear hi)
    refine hK.out _ _ ⟨(blk_cell BK244.out 0).trans rfl, (blk_cell BK244.out 1).trans rfl, (blk_cell BK244.out 2).trans rfl, (blk_cell BK244.out 3).trans rfl, (blk_cell BK244.out 4).trans rfl, (blk_cell BK244.out 5).trans rfl, HS6_, HS7_⟩ (fun hHeld => ?_)
    clear hK K
    refine norm_ (a' := ?_) ?_ ?_
    rotate_left
    ·
     show Act.put _ (some 38) _ = _
     simp only [Act.put, List.setIfInBounds_toArray, List.set_cons_zero, List.set_cons_succ, i64_w, i32_w]
     rfl
    refine pure_ (i := 20) (N := some 39) (v := ?_) (a' := ?_) #[true, true, true, true, true, true, true, true, true, true, true, true, true, true, true, true, true, true, true, true, true, false, true, true, false, false, false] rfl rfl (any_of HT_.out (by kernel_rfl)) (fun _ _ _ h => h) (Or.inl ⟨by rfl, ?_⟩) ?_ ?_
    rotate_left
    ·
     intro w'
     go_simp
     with_reducible rfl
    rotate_left
    ·
     simp only [Act.put, List.setIfInBounds_toArray, List.set_cons_zero, List.set_cons_succ, i64_w, i32_w]
     rfl
    refine pure_ (i := 21) (N := some 40) (v := ?_) (a' := ?_) #[true, true, true, true, true, true, true, true, true, true, true, true, true, true, true, true, true, true, true, true, true, true, true, true, false, false, false] rfl rfl (any_of HT_.out (by kernel_rfl)) (fun _ _ _ h => h) (Or.inl ⟨by rfl, ?_⟩) ?_ ?_
    rotate_left
    ·
     intro w'
     go_simp
     with_reducible rfl
    rotate_left
    ·
     simp only [Act.put, List.setIfInBounds_toArray, List.set_cons_zero, List.set_cons_succ, i64_w, i32_w]
     rfl
    refine one_ (i := 24) (N := some 43) #[true, true, true, true, true, true, true, true, true, true, true, true, true, true, true, true, true, true, true, true, true, true, true, true, true, false, false] rfl rfl (one_of HT_.out (by kernel_rfl)) (by decide) (fun K hK => ?_)
    refine goes_ Tryd.func54 (by kernel_rfl) rfl #[.int .i64 t238, .int .i64 4] (by rfl) rfl rfl (by (try simp only [List.map_toArray, List.map_cons, List.map_nil]); first | done | rfl | (simp only [List.length_drop, List.length_take]; rfl)) ?_
    with_reducible refine (impl_digits.calls t238 4 t256 _ A31.out).mono ?_
    rintro e w' ⟨rfl, ⟨nd, rfl⟩⟩
    refine ⟨_, rfl, ?_⟩
    refine hK.out _ _ ⟨(blk_cell BK244.out 0).trans rfl, (blk_cell BK244.out 1).trans rfl, (blk_cell BK244.out 2).trans rfl, (blk_cell BK244.out 3).trans rfl, (blk_cell BK244.out 4).trans rfl, (blk_cell BK244.out 5).trans rfl, hHeld.2.2.2.2.2.2.1, hHeld.2.2.2.2.2.2.2⟩ (fun hHeld => ?_)
    clear hK K
    refine norm_ (a' := ?_) ?_ ?_
    rotate_left
    ·
     show Act.put _ (some 43) _ = _
     simp only [Act.put, List.setIfInBounds_toArray, List.set_cons_zero, List.set_cons_succ, i64_w, i32_w]
     rfl
    refine pure_ (i := 25) (N := some 44) (v := ?_) (a' := ?_) #[true, true, true, true, true, true, true, true, true, true, true, true, true, true, true, true, true, true, true, true, true, true, true, true, true, true, false] rfl rfl (any_of HT_.out (by kernel_rfl)) (fun _ _ _ h => h) (Or.inl ⟨by rfl, ?_⟩) ?_ ?_
    rotate_left
    ·
     intro w'
     go_simp
     with_reducible rfl
    rotate_left
    ·
     simp only [Act.put, List.setIfInBounds_toArray, List.set_cons_zero, List.set_cons_succ, i64_w, i32_w]
     rfl
    refine pure_ (i := 26) (N := some 2) (v := ?_) (a' := ?_) #[true, true, true, true, true, true, true, true, true, true, true, true, true, true, true, true, true, true, true, true, true, true, true, true, true, true, true] rfl rfl (any_of HT_.out (by kernel_rfl)) (fun _ _ _ h => h) (Or.inl ⟨by rfl, ?_⟩) ?_ ?_
    rotate_left
    ·
     intro w'
     go_simp
     with_reducible rfl
    rotate_left
    ·
     simp only [Act.put, List.setIfInBounds_toArray, List.set_cons_zero, List.set_cons_succ, i64_w, i32_w]
     rfl
    refine done_ (done_of HT_.out (by kernel_rfl)) ?_
    try go_wp2
    go_ret
    exact ⟨by first | rfl | (simp [errW_none, errW_some] <;> rfl) | (simp only [← hji21]; first | rfl | (simp [errW_none, errW_some] <;> rfl)) | (simp [*, errW_none, errW_some] <;> rfl), by repeat (first | (with_reducible first | exact HB.out | apply below_alloc | apply pw_below_drewN | apply below_drew1 | refine below_set ?_ GE244.out) | exact HB.out)⟩
 ·
  replace c3 := Bool.eq_false_iff.mpr c3
  subst c3
  have H1 : (some (⟨#[]⟩ : ByteArray)) = some r := by rw [if_neg (show ¬ (false = true) by decide)] at H; exact H
  clear H
  have H := H1
  clear H1
  obtain rfl := Option.some.inj H
  go_enter Tryd.func31, Tryd.ntmps31
  go_wp2_with (first | ((with_reducible refine gate_callee (f := 45) rfl ?_); refine goesL_ (some 6) rfl rfl Tryd.func45 (by kernel_rfl) rfl #[.int .i64 a0] rfl (by (try simp only [List.map_toArray, List.map_cons, List.map_nil]); first | done | rfl | (simp only [List.length_drop, List.length_take]; rfl)) ?_; (with_reducible refine (impl_isTime.calls a0 false _ A2.out).mono ?_); rintro e w' ⟨rfl, ⟨nd, rfl⟩⟩; refine ⟨_, rfl, ?_⟩))
  go_ret
  exact ⟨by first | rfl | (simp [errW_none, errW_some] <;> rfl) | (simp [*, errW_none, errW_some] <;> rfl), by repeat (first | (with_reducible first | exact HB.out | apply below_alloc | apply pw_below_drewN | apply below_drew1) | exact HB.out)⟩

/-! ### impl_isDigit: function 61 -/
def impl_isDigit.f (a0 : Int) : Option (Bool) := if a0 ≥ 48 then (some (decide (a0 ≤ 57))) else (some false)
set_option maxHeartbeats 8000000 in
set_option maxRecDepth 100000 in
theorem impl_isDigit.calls (a0 : Int) (r : Bool) (w : World) (h : impl_isDigit.f a0 = some r) :
  Calls Tryd.prog 61 #[.int .u8 a0] w fun e w' => e = .returned (.bool r) ∧ Drawn0 w w' := by
 have H : (if a0 ≥ 48 then (some (decide (a0 ≤ 57))) else (some false)) = some r := h
 clear h
 by_cases c2 : a0 ≥ 48
 ·
  rw [if_pos c2] at H
  have c2b0 : decide (48 ≤ a0) = true := decide_eq_true c2
  clear c2
  obtain rfl := Option.some.inj H
  go_enter Tryd.func61, Tryd.ntmps61
  go_wp2
  go_ret
  exact ⟨by first | rfl | (simp; done) | (simp [*]; done), by repeat (first | exact Drawn0.refl _ | apply Drawn0.step)⟩
 ·
  rw [if_neg c2] at H
  have c2b0 : decide (48 ≤ a0) = false := decide_eq_false c2
  clear c2
  obtain rfl := Option.some.inj H
  go_enter Tryd.func61, Tryd.ntmps61
  go_wp2
  go_ret
  exact ⟨by first | rfl | (simp; done) | (simp [*]; done), by repeat (first | exact Drawn0.refl _ | apply Drawn0.step)⟩

/-! ### impl_numbersIn: function 65 -/
mutual
def impl_numbersIn.l0 : Nat → ByteArray → List Int → Int → Option (List Int)
 | 0, _, _, _ => none
 | k + 1, x0, x3, x4 => if x4 < (x0.size : Int) then (impl_numbersIn.l1 k x0 x3 x4 x4 0) else (some x3)
def impl_numbersIn.l1 : Nat → ByteArray → List Int → Int → Int → Int → Option (List Int)
 | 0, _, _, _, _, _ => none
 | k + 1, x0, x3, x4, x5, x6 => if x5 < (x0.size : Int) then (if 0 ≤ x5 then ((impl_isDigit.f (bt x0 x5)).bind fun t257 => (if t257 = true then (if (wrap64 (x5 - x4)) < 9 then (impl_numbersIn.l1 k x0 x3 x4 (wrap64 (x5 + 1)) (wrap64 ((wrap64 (10 * x6)) + (((bt x0 x5) - 48) % 256)))) else (if x5 > x4 then (if x3.length < 17592186044416 then (impl_numbersIn.l0 k x0 (x3 ++ [x6]) (wrap64 ((wrap64 (x5 - 1)) + 1))) else (none)) else (impl_numbersIn.l0 k x0 x3 (wrap64 (x4 + 1))))) else (if x5 > x4 then (if x3.length < 17592186044416 then (impl_numbersIn.l0 k x0 (x3 ++ [x6]) (wrap64 ((wrap64 (x5 - 1)) + 1))) else (none)) else (impl_numbersIn.l0 k x0 x3 (wrap64 (x4 + 1)))))) else (none)) else (if x5 > x4 then (if x3.length < 17592186044416 then (impl_numbersIn.l0 k x0 (x3 ++ [x6]) (wrap64 ((wrap64 (x5 - 1)) + 1))) else (none)) else (impl_numbersIn.l0 k x0 x3 (wrap64 (x4 + 1))))
end
def impl_numbersIn.f (k : Nat) (a0 : ByteArray) : Option (List Int) := impl_numbersIn.l0 k a0 ([] : List Int) 0
theorem impl_numbersIn.mono_l : ∀ k, (∀ y0 y1 y2, LeO (impl_numbersIn.l0 k y0 y1 y2) (impl_numbersIn.l0 (k + 1) y0 y1 y2)) ∧ (∀ y0 y1 y2 y3 y4, LeO (impl_numbersIn.l1 k y0 y1 y2 y3 y4) (impl_numbersIn.l1 (k + 1) y0 y1 y2 y3 y4))
 | 0 => ⟨fun _ _ _ r h => by simp [impl_numbersIn.l0] at h, fun _ _ _ _ _ r h => by simp [impl_numbersIn.l1] at h⟩
 | k + 1 => by
  obtain ⟨ih0, ih1⟩ := impl_numbersIn.mono_l k
  refine ⟨?_, ?_⟩
  ·
   intro y0 y1 y2
   unfold impl_numbersIn.l0
   repeat' first
   | (with_reducible exact ih0 _ _ _)
   | (with_reducible exact ih1 _ _ _ _ _)
   | (with_reducible exact LeO.refl _)
   | (with_reducible exact LeO.none _)
   | (with_reducible refine LeO.ite ?_ ?_)
   | (with_reducible refine LeO.bind ?_ (fun _ => ?_))
   | exact ih0 _ _ _
   | exact ih1 _ _ _ _ _
   | exact LeO.none _
   | refine LeO.ite ?_ ?_
   | refine LeO.bind ?_ (fun _ => ?_)
  ·
   intro y0 y1 y2 y3 y4
   unfold impl_numbersIn.l1
   repeat' first
   | (with_reducible exact ih0 _ _ _)
   | (with_reducible exact ih1 _ _ _ _ _)
   | (with_reducible exact LeO.refl _)
   | (with_reducible exact LeO.none _)
   | (with_reducible refine LeO.ite ?_ ?_)
   | (with_reducible refine LeO.bind ?_ (fun _ => ?_))
   | exact ih0 _ _ _
   | exact ih1 _ _ _ _ _
   | exact LeO.none _
   | refine LeO.ite ?_ ?_
   | refine LeO.bind ?_ (fun _ => ?_)
theorem impl_numbersIn.mono : ∀ a0 k, LeO (impl_numbersIn.f k a0) (impl_numbersIn.f (k + 1) a0) := by
 intro a0 k
 obtain ⟨ih0, ih1⟩ := impl_numbersIn.mono_l k
 unfold impl_numbersIn.f
 repeat' first
   | (with_reducible exact ih0 _ _ _)
   | (with_reducible exact ih1 _ _ _ _ _)
   | (with_reducible exact LeO.refl _)
   | (with_reducible exact LeO.none _)
   | (with_reducible refine LeO.ite ?_ ?_)
   | (with_reducible refine LeO.bind ?_ (fun _ => ?_))
   | exact ih0 _ _ _
   | exact ih1 _ _ _ _ _
   | exact LeO.none _
   | refine LeO.ite ?_ ?_
   | refine LeO.bind ?_ (fun _ => ?_)
set_option maxHeartbeats 8000000 in
set_option maxRecDepth 100000 in
theorem impl_numbersIn.calls (k : Nat) (a0 : ByteArray) (r : List Int) (w : World) (h : impl_numbersIn.f k a0 = some r) :
  Calls Tryd.prog 65 #[.string a0] w fun e w' => ∃ v0_ : Value, e = .returned (v0_) ∧ Kd.R (Kd.int .i64) 3 w' w.heap.size (fun _ => True) v0_ r ∧ Below w.heap.size w w' := by
 have HB := Aside0.mk (Below.refl w.heap.size w)
 have H : (impl_numbersIn.l0 k a0 ([] : List Int) 0) = some r := h
 clear h
 have H' := Aside0.mk H
 clear H
 go_enter Tryd.func65, Tryd.ntmps65
 go_wp2
 go_loopg [3, 4] k (fun kq v3 v4 w' => ∃ (x3_1 : List Int) (x4_1 : Int), v4 = .int .i64 x4_1 ∧ Aside0 (impl_numbersIn.l0 kq a0 x3_1 x4_1 = some r) ∧ Aside0 (kq ≤ k) ∧ Aside0 (Kd.R (Kd.int .i64) 3 w' w.heap.size (fun _ => True) v3 x3_1) ∧ Aside0 (Below w.heap.size w w'))
 case atStart => exact ⟨(([] : List Int)), (0), (by first | rfl | (simp; done) | (simp [*]; done)), H', ⟨Nat.le_refl _⟩, ⟨by first | exact Kd.R_nil _ _ _ _ _ | exact Kd.N_nil _ _ _ _ _ | exact Kd.V_nil _ _ _ _ _ | exact Kd.Q_nil _ _ _ _ _ | exact Kd.S_nil _ _ _ _ _⟩, ⟨by repeat (first | (with_reducible first | exact HB.out | apply below_alloc | apply pw_below_drewN | apply below_drew1) | exact HB.out)⟩⟩
 case round =>
  clear H'
  obtain ⟨x3_1, x4_1, rfl, HA, HK1, HO_3, HB⟩ := hrel
  cases gk with
  | zero => exact absurd HA.out (by simp [impl_numbersIn.l0])
  | succ k1 =>
   have H := HA.out
   clear HA
   simp only [impl_numbersIn.l0] at H
   by_cases c2 : x4_1 < (a0.size : Int)
   ·
    rw [if_pos c2] at H
    have c2b0 : decide (x4_1 < (a0.size : Int)) = true := decide_eq_true c2
    clear c2
    have H' := Aside0.mk H
    clear H
    go_wp2
    go_loopg [5, 6] k1 (fun kq v5 v6 w' => ∃ (x5_2 : Int) (x6_2 : Int), v5 = .int .i64 x5_2 ∧ v6 = .int .i64 x6_2 ∧ Aside0 (impl_numbersIn.l1 kq a0 x3_1 x4_1 x5_2 x6_2 = some r) ∧ Aside0 (kq ≤ k1) ∧ Aside0 (Kd.R (Kd.int .i64) 3 w' w.heap.size (fun _ => True) u3 x3_1) ∧ Aside0 (Below w.heap.size w w'))
    case atStart => exact ⟨(x4_1), (0), (by first | rfl | (simp; done) | (simp [*]; done)), (by first | rfl | (simp; done) | (simp [*]; done)), H', ⟨Nat.le_refl _⟩, ⟨by (with_reducible repeat (first | apply Kd.R_alloc | apply Kd.R_drewN | apply Kd.R_drew)); exact HO_3.out⟩, ⟨by repeat (first | (with_reducible first | exact HB.out | apply below_alloc | apply pw_below_drewN | apply below_drew1) | exact HB.out)⟩⟩
    case round =>
     clear H'
     try clear c2
     try clear c2b0
     try clear p2
     obtain ⟨x5_2, x6_2, rfl, rfl, HA, HK2, HO_3, HB⟩ := hrel
     cases gk with
     | zero => exact absurd HA.out (by simp [impl_numbersIn.l1])
     | succ k2 =>
      have H := HA.out
      clear HA
      simp only [impl_numbersIn.l1] at H
      by_cases c3 : x5_2 < (a0.size : Int)
      ·
       rw [if_pos c3] at H
       have c3b0 : decide (x5_2 < (a0.size : Int)) = true := decide_eq_true c3
       clear c3
       have c4 : 0 ≤ x5_2 := Classical.byContradiction fun h_ => by rw [if_neg h_] at H; exact absurd H (by simp)
       rw [if_pos c4] at H
       have c4b0 : decide (0 ≤ x5_2) = true := decide_eq_true c4
       clear c4
       replace H := Option.bind_eq_some_iff.mp H
       obtain ⟨t257, A60, H⟩ := H
       replace H : (if t257 = true then (if (wrap64 (x5_2 - x4_1)) < 9 then (impl_numbersIn.l1 k2 a0 x3_1 x4_1 (wrap64 (x5_2 + 1)) (wrap64 ((wrap64 (10 * x6_2)) + (((bt a0 x5_2) - 48) % 256)))) else (if x5_2 > x4_1 then (if x3_1.length < 17592186044416 then (impl_numbersIn.l0 k2 a0 (x3_1 ++ [x6_2]) (wrap64 ((wrap64 (x5_2 - 1)) + 1))) else (none)) else (impl_numbersIn.l0 k2 a0 x3_1 (wrap64 (x4_1 + 1))))) else (if x5_2 > x4_1 then (if x3_1.length < 17592186044416 then (impl_numbersIn.l0 k2 a0 (x3_1 ++ [x6_2]) (wrap64 ((wrap64 (x5_2 - 1)) + 1))) else (none)) else (impl_numbersIn.l0 k2 a0 x3_1 (wrap64 (x4_1 + 1))))) = some r := H
       have A6 := Aside0.mk A60
       clear A60
       by_cases c7 : t257 = true
       ·
        subst c7
        have H1 : (if (wrap64 (x5_2 - x4_1)) < 9 then (impl_numbersIn.l1 k2 a0 x3_1 x4_1 (wrap64 (x5_2 + 1)) (wrap64 ((wrap64 (10 * x6_2)) + (((bt a0 x5_2) - 48) % 256)))) else (if x5_2 > x4_1 then (if x3_1.length < 17592186044416 then (impl_numbersIn.l0 k2 a0 (x3_1 ++ [x6_2]) (wrap64 ((wrap64 (x5_2 - 1)) + 1))) else (none)) else (impl_numbersIn.l0 k2 a0 x3_1 (wrap64 (x4_1 + 1))))) = some r := by rw [if_pos rfl] at H; exact H
        clear H
        have H := H1
        clear H1
        by_cases c8 : (wrap64 (x5_2 - x4_1)) < 9
        ·
         rw [if_pos c8] at H
         have c8b0 : decide ((wrap64 (x5_2 - x4_1)) < 9) = true := decide_eq_true c8
         clear c8
         have H' := Aside0.mk H
         clear H
         have p5 : 0 ≤ (x5_2 : Int) := of_decide_eq_true (by first | (with_reducible assumption) | assumption)
         have q5 : x5_2 < (a0.size : Int) := of_decide_eq_true (by first | (with_reducible assumption) | assumption)
         have hx5 := bt_at a0 x5_2
         replace p5 := eq_true p5
         replace q5 := eq_true q5
         go_wp2_with (first | (go_at_call 61; (with_reducible refine (impl_isDigit.calls (bt a0 x5_2) true _ A6.out).mono ?_); rintro e w' ⟨rfl, ⟨nd, rfl⟩⟩; have p9 : 0 ≤ (x5_2 : Int) := of_decide_eq_true (by first | (with_reducible assumption) | assumption); have q9 : x5_2 < (a0.size : Int) := of_decide_eq_true (by first | (with_reducible assumption) | assumption); have hx9 := bt_at a0 x5_2; replace p9 := eq_true p9; replace q9 := eq_true q9))
         go_roundg k2
         case measure => have := HK1.out; have := HK2.out; omega
         case rel => exact ⟨(wrap64 (x5_2 + 1)), (wrap64 ((wrap64 (10 * x6_2)) + (((bt a0 x5_2) - 48) % 256))), (by first | rfl | (simp; done) | (simp [*]; done)), (by first | rfl | (simp; done) | (simp [*]; done)), H', ⟨by have := HK1.out; have := HK2.out; omega⟩, ⟨by (with_reducible repeat (first | apply Kd.R_alloc | apply Kd.R_drewN | apply Kd.R_drew)); exact HO_3.out⟩, ⟨by repeat (first | (with_reducible first | exact HB.out | apply below_alloc | apply pw_below_drewN | apply below_drew1) | exact HB.out)⟩⟩
        ·
         rw [if_neg c8] at H
         have c8b0 : decide ((wrap64 (x5_2 - x4_1)) < 9) = false := decide_eq_false c8
         clear c8
         by_cases c10 : x5_2 > x4_1
         ·
          rw [if_pos c10] at H
          have c10b0 : decide (x4_1 < x5_2) = true := decide_eq_true c10
          clear c10
          have c11 : x3_1.length < 17592186044416 := Classical.byContradiction fun h_ => by rw [if_neg h_] at H; exact absurd H (by simp)
          rw [if_pos c11] at H
          have LMc11 := Aside0.mk c11
          clear c11
          obtain ⟨y258, hy258⟩ : ∃ y_ : List Int, y_ = (x3_1 ++ [x6_2]) := ⟨_, rfl⟩
          replace H : (impl_numbersIn.l0 k2 a0 y258 (wrap64 ((wrap64 (x5_2 - 1)) + 1))) = some r := by first | (rw [hy258]; with_reducible exact H) | (have H2_ := (Option.bind_some _ _).symm.trans H; rw [hy258]; with_reducible exact H2_) | (have H2_ := (Option.bind_some _ _).symm.trans H; with_reducible exact H2_) | with_reducible exact H | (rw [hy258]; exact H) | exact H
          have Ny258 := Aside0.mk hy258
          clear hy258
          have H' := Aside0.mk H
          clear H
          have p5 : 0 ≤ (x5_2 : Int) := of_decide_eq_true (by first | (with_reducible assumption) | assumption)
          have q5 : x5_2 < (a0.size : Int) := of_decide_eq_true (by first | (with_reducible assumption) | assumption)
          have hx5 := bt_at a0 x5_2
          replace p5 := eq_true p5
          replace q5 := eq_true q5
          go_wp2_with (first | (go_at_call 61; (with_reducible refine (impl_isDigit.calls (bt a0 x5_2) true _ A6.out).mono ?_); rintro e w' ⟨rfl, ⟨nd, rfl⟩⟩) | ((with_reducible refine gate_builtin (b := .append) (xs := #[.tmp 43, .tmp 45]) rfl ?_); at_builtin; refine Kd.R_append (Kd.int .i64) (w0 := w) w.heap.size rfl (.tmp 43) (.tmp 45) 59 3 (.int .i64 0) 8 rfl Tryd.underlying59 info3 rfl (by decide) (by omega) u3 x3_1 x6_2 [.int .i64 x6_2] (fun _ => True) (fun _ => False) rfl rfl ?aP (fun _ hk => hk.elim) ?aF ?aO ?aB ?aS ?aL ?_; (case aP => exact rfl); (case aB => exact (by repeat (first | (with_reducible first | exact HB.out | apply below_alloc | apply pw_below_drewN | apply below_drew1) | exact HB.out))); (case aF => exact (fun _ _ => trivial)); (case aO => exact (by (with_reducible repeat (first | apply Kd.R_alloc | apply Kd.R_drewN | apply Kd.R_drew)); exact HO_3.out)); (case aS => exact (below_size (by repeat (first | (with_reducible first | exact HB.out | apply below_alloc | apply pw_below_drewN | apply below_drew1) | exact HB.out)))); (case aL => have := LMc11.out; omega); intro v259 w12 ho hb hg hat; rw [← Ny258.out] at ho; have n0_ := Aside0.mk (hb); have n1_ := Aside0.mk (ho); clear HB; clear HO_3; have HB := n0_; have HO260 := n1_; clear n0_ n1_; clear ho hb hg hat))
          go_roundg k2
          case measure => have := HK1.out; have := HK2.out; omega
          case rel => exact ⟨(y258), (wrap64 ((wrap64 (x5_2 - 1)) + 1)), (by first | rfl | (simp; done) | (simp [*]; done)), H', ⟨by have := HK1.out; have := HK2.out; omega⟩, ⟨by (with_reducible repeat (first | apply Kd.R_alloc | apply Kd.R_drewN | apply Kd.R_drew)); exact HO260.out⟩, ⟨by repeat (first | (with_reducible first | exact HB.out | apply below_alloc | apply pw_below_drewN | apply below_drew1) | exact HB.out)⟩⟩
         ·
          rw [if_neg c10] at H
          have c10b0 : decide (x4_1 < x5_2) = false := decide_eq_false c10
          clear c10
          have H' := Aside0.mk H
          clear H
          have p5 : 0 ≤ (x5_2 : Int) := of_decide_eq_true (by first | (with_reducible assumption) | assumption)
          have q5 : x5_2 < (a0.size : Int) := of_decide_eq_true (by first | (with_reducible assumption) | assumption)
          have hx5 := bt_at a0 x5_2
          replace p5 := eq_true p5
          replace q5 := eq_true q5
          go_wp2_with (first | (go_at_call 61; (with_reducible refine (impl_isDigit.calls (bt a0 x5_2) true _ A6.out).mono ?_); rintro e w' ⟨rfl, ⟨nd, rfl⟩⟩))
          go_roundg k2
          case measure => have := HK1.out; have := HK2.out; omega
          case rel => exact ⟨(x3_1), (wrap64 (x4_1 + 1)), (by first | rfl | (simp; done) | (simp [*]; done)), H', ⟨by have := HK1.out; have := HK2.out; omega⟩, ⟨by (with_reducible repeat (first | apply Kd.R_alloc | apply Kd.R_drewN | apply Kd.R_drew)); exact HO_3.out⟩, ⟨by repeat (first | (with_reducible first | exact HB.out | apply below_alloc | apply pw_below_drewN | apply below_drew1) | exact HB.out)⟩⟩
       ·
        replace c7 := Bool.eq_false_iff.mpr c7
        subst c7
        have H1 : (if x5_2 > x4_1 then (if x3_1.length < 17592186044416 then (impl_numbersIn.l0 k2 a0 (x3_1 ++ [x6_2]) (wrap64 ((wrap64 (x5_2 - 1)) + 1))) else (none)) else (impl_numbersIn.l0 k2 a0 x3_1 (wrap64 (x4_1 + 1)))) = some r := by rw [if_neg (show ¬ (false = true) by decide)] at H; exact H
        clear H
        have H := H1
        clear H1
        by_cases c13 : x5_2 > x4_1
        ·
         rw [if_pos c13] at H
         have c13b0 : decide (x4_1 < x5_2) = true := decide_eq_true c13
         clear c13
         have c14 : x3_1.length < 17592186044416 := Classical.byContradiction fun h_ => by rw [if_neg h_] at H; exact absurd H (by simp)
         rw [if_pos c14] at H
         have LMc14 := Aside0.mk c14
         clear c14
         obtain ⟨y261, hy261⟩ : ∃ y_ : List Int, y_ = (x3_1 ++ [x6_2]) := ⟨_, rfl⟩
         replace H : (impl_numbersIn.l0 k2 a0 y261 (wrap64 ((wrap64 (x5_2 - 1)) + 1))) = some r := by first | (rw [hy261]; with_reducible exact H) | (have H2_ := (Option.bind_some _ _).symm.trans H; rw [hy261]; with_reducible exact H2_) | (have H2_ := (Option.bind_some _ _).symm.trans H; with_reducible exact H2_) | with_reducible exact H | (rw [hy261]; exact H) | exact H
         have Ny261 := Aside0.mk hy261
         clear hy261
         have H' := Aside0.mk H
         clear H
         have p5 : 0 ≤ (x5_2 : Int) := of_decide_eq_true (by first | (with_reducible assumption) | assumption)
         have q5 : x5_2 < (a0.size : Int) := of_decide_eq_true (by first | (with_reducible assumption) | assumption)
         have hx5 := bt_at a0 x5_2
         replace p5 := eq_true p5
         replace q5 := eq_true q5
         go_wp2_with (first | (go_at_call 61; (with_reducible refine (impl_isDigit.calls (bt a0 x5_2) false _ A6.out).mono ?_); rintro e w' ⟨rfl, ⟨nd, rfl⟩⟩) | ((with_reducible refine gate_builtin (b := .append) (xs := #[.tmp 43, .tmp 45]) rfl ?_); at_builtin; refine Kd.R_append (Kd.int .i64) (w0 := w) w.heap.size rfl (.tmp 43) (.tmp 45) 59 3 (.int .i64 0) 8 rfl Tryd.underlying59 info3 rfl (by decide) (by omega) u3 x3_1 x6_2 [.int .i64 x6_2] (fun _ => True) (fun _ => False) rfl rfl ?aP (fun _ hk => hk.elim) ?aF ?aO ?aB ?aS ?aL ?_; (case aP => exact rfl); (case aB => exact (by repeat (first | (with_reducible first | exact HB.out | apply below_alloc | apply pw_below_drewN | apply below_drew1) | exact HB.out))); (case aF => exact (fun _ _ => trivial)); (case aO => exact (by (with_reducible repeat (first | apply Kd.R_alloc | apply Kd.R_drewN | apply Kd.R_drew)); exact HO_3.out)); (case aS => exact (below_size (by repeat (first | (with_reducible first | exact HB.out | apply below_alloc | apply pw_below_drewN | apply below_drew1) | exact HB.out)))); (case aL => have := LMc14.out; omega); intro v262 w15 ho hb hg hat; rw [← Ny261.out] at ho; have n0_ := Aside0.mk (hb); have n1_ := Aside0.mk (ho); clear HB; clear HO_3; have HB := n0_; have HO263 := n1_; clear n0_ n1_; clear ho hb hg hat))
         go_roundg k2
         case measure => have := HK1.out; have := HK2.out; omega
         case rel => exact ⟨(y261), (wrap64 ((wrap64 (x5_2 - 1)) + 1)), (by first | rfl | (simp; done) | (simp [*]; done)), H', ⟨by have := HK1.out; have := HK2.out; omega⟩, ⟨by (with_reducible repeat (first | apply Kd.R_alloc | apply Kd.R_drewN | apply Kd.R_drew)); exact HO263.out⟩, ⟨by repeat (first | (with_reducible first | exact HB.out | apply below_alloc | apply pw_below_drewN | apply below_drew1) | exact HB.out)⟩⟩
        ·
         rw [if_neg c13] at H
         have c13b0 : decide (x4_1 < x5_2) = false := decide_eq_false c13
         clear c13
         have H' := Aside0.mk H
         clear H
         have p5 : 0 ≤ (x5_2 : Int) := of_decide_eq_true (by first | (with_reducible assumption) | assumption)
         have q5 : x5_2 < (a0.size : Int) := of_decide_eq_true (by first | (with_reducible assumption) | assumption)
         have hx5 := bt_at a0 x5_2
         replace p5 := eq_true p5
         replace q5 := eq_true q5
         go_wp2_with (first | (go_at_call 61; (with_reducible refine (impl_isDigit.calls (bt a0 x5_2) false _ A6.out).mono ?_); rintro e w' ⟨rfl, ⟨nd, rfl⟩⟩))
         go_roundg k2
         case measure => have := HK1.out; have := HK2.out; omega
         case rel => exact ⟨(x3_1), (wrap64 (x4_1 + 1)), (by first | rfl | (simp; done) | (simp [*]; done)), H', ⟨by have := HK1.out; have := HK2.out; omega⟩, ⟨by (with_reducible repeat (first | apply Kd.R_alloc | apply Kd.R_drewN | apply Kd.R_drew)); exact HO_3.out⟩, ⟨by repeat (first | (with_reducible first | exact HB.out | apply below_alloc | apply pw_below_drewN | apply below_drew1) | exact HB.out)⟩⟩
      ·
       rw [if_neg c3] at H
       have c3b0 : decide (x5_2 < (a0.size : Int)) = false := decide_eq_false c3
       clear c3
       by_cases c16 : x5_2 > x4_1
       ·
        rw [if_pos c16] at H
        have c16b0 : decide (x4_1 < x5_2) = true := decide_eq_true c16
        clear c16
        have c17 : x3_1.length < 17592186044416 := Classical.byContradiction fun h_ => by rw [if_neg h_] at H; exact absurd H (by simp)
        rw [if_pos c17] at H
        have LMc17 := Aside0.mk c17
        clear c17
        obtain ⟨y264, hy264⟩ : ∃ y_ : List Int, y_ = (x3_1 ++ [x6_2]) := ⟨_, rfl⟩
        replace H : (impl_numbersIn.l0 k2 a0 y264 (wrap64 ((wrap64 (x5_2 - 1)) + 1))) = some r := by first | (rw [hy264]; with_reducible exact H) | (have H2_ := (Option.bind_some _ _).symm.trans H; rw [hy264]; with_reducible exact H2_) | (have H2_ := (Option.bind_some _ _).symm.trans H; with_reducible exact H2_) | with_reducible exact H | (rw [hy264]; exact H) | exact H
        have Ny264 := Aside0.mk hy264
        clear hy264
        have H' := Aside0.mk H
        clear H
        go_wp2_with (first | ((with_reducible refine gate_builtin (b := .append) (xs := #[.tmp 43, .tmp 45]) rfl ?_); at_builtin; refine Kd.R_append (Kd.int .i64) (w0 := w) w.heap.size rfl (.tmp 43) (.tmp 45) 59 3 (.int .i64 0) 8 rfl Tryd.underlying59 info3 rfl (by decide) (by omega) u3 x3_1 x6_2 [.int .i64 x6_2] (fun _ => True) (fun _ => False) rfl rfl ?aP (fun _ hk => hk.elim) ?aF ?aO ?aB ?aS ?aL ?_; (case aP => exact rfl); (case aB => exact (by repeat (first | (with_reducible first | exact HB.out | apply below_alloc | apply pw_below_drewN | apply below_drew1) | exact HB.out))); (case aF => exact (fun _ _ => trivial)); (case aO => exact (by (with_reducible repeat (first | apply Kd.R_alloc | apply Kd.R_drewN | apply Kd.R_drew)); exact HO_3.out)); (case aS => exact (below_size (by repeat (first | (with_reducible first | exact HB.out | apply below_alloc | apply pw_below_drewN | apply below_drew1) | exact HB.out)))); (case aL => have := LMc17.out; omega); intro v265 w18 ho hb hg hat; rw [← Ny264.out] at ho; have n0_ := Aside0.mk (hb); have n1_ := Aside0.mk (ho); clear HB; clear HO_3; have HB := n0_; have HO266 := n1_; clear n0_ n1_; clear ho hb hg hat))
        go_roundg k2
        case measure => have := HK1.out; have := HK2.out; omega
        case rel => exact ⟨(y264), (wrap64 ((wrap64 (x5_2 - 1)) + 1)), (by first | rfl | (simp; done) | (simp [*]; done)), H', ⟨by have := HK1.out; have := HK2.out; omega⟩, ⟨by (with_reducible repeat (first | apply Kd.R_alloc | apply Kd.R_drewN | apply Kd.R_drew)); exact HO266.out⟩, ⟨by repeat (first | (with_reducible first | exact HB.out | apply below_alloc | apply pw_below_drewN | apply below_drew1) | exact HB.out)⟩⟩
       ·
        rw [if_neg c16] at H
        have c16b0 : decide (x4_1 < x5_2) = false := decide_eq_false c16
        clear c16
        have H' := Aside0.mk H
        clear H
        go_wp2
        go_roundg k2
        case measure => have := HK1.out; have := HK2.out; omega
        case rel => exact ⟨(x3_1), (wrap64 (x4_1 + 1)), (by first | rfl | (simp; done) | (simp [*]; done)), H', ⟨by have := HK1.out; have := HK2.out; omega⟩, ⟨by (with_reducible repeat (first | apply Kd.R_alloc | apply Kd.R_drewN | apply Kd.R_drew)); exact HO_3.out⟩, ⟨by repeat (first | (with_reducible first | exact HB.out | apply below_alloc | apply pw_below_drewN | apply below_drew1) | exact HB.out)⟩⟩
   ·
    rw [if_neg c2] at H
    have c2b0 : decide (x4_1 < (a0.size : Int)) = false := decide_eq_false c2
    clear c2
    obtain rfl := Option.some.inj H
    go_wp2
    go_ret
    exact ⟨_, by first | rfl | (simp [errW_none, errW_some] <;> rfl) | (simp [*, errW_none, errW_some] <;> rfl), by (with_reducible repeat (first | apply Kd.R_alloc | apply Kd.R_drewN | apply Kd.R_drew)); exact HO_3.out, by repeat (first | (with_reducible first | exact HB.out | apply below_alloc | apply pw_below_drewN | apply below_drew1) | exact HB.out)⟩

-- told elsewhere: function 78 (strings_Contains)

end Go.Proofs.YtgjbhdfncappdaaDoor.PFnExactReadHttpDate
namespace Go.Proofs.YtgjbhdfncappdaaDoor.PFnExactReadHttpDate
open Go.Proofs.YtgjbhdfncappdaaDoor.Foreign
open Go.RowKit Go.Proofs.YtgjbhdfncappdaaDoorV.PrintWords Go.Proofs.YtgjbhdfncappdaaDoorV.PrintLast Go.Proofs.YtgjbhdfncappdaaDoorV.PrintMore
attribute [local go_sem] max2_int min2_int max_two min_two max_three min_three max_four min_four   -- for this text's walks alone
set_option linter.unusedVariables false
set_option linter.unusedSimpArgs false

/-! ### impl_monthIn: function 66 -/
def impl_monthIn.l0 : Nat → ByteArray → List ByteArray → Int → Int → Option (Int)
 | 0, _, _, _, _ => none
 | k + 1, x0, x5, x6, x7 => if x7 < x6 then (if 0 ≤ x7 then (if x7 < (x5.length : Int) then ((strings_Contains.f x0 (rdOf ByteArray.empty x5 x7)).bind fun t271 => (if t271 = true then (some (wrap64 (x7 + 1))) else (impl_monthIn.l0 k x0 x5 x6 (wrap64 (x7 + 1))))) else (none)) else (none)) else (some 0)
def impl_monthIn.f (k : Nat) (a0 : ByteArray) : Option (Int) := (impl_months.f).bind fun t267 => (impl_monthIn.l0 k a0 t267 (t267.length : Int) 0)
theorem impl_monthIn.mono_l : ∀ k, (∀ y0 y1 y2 y3, LeO (impl_monthIn.l0 k y0 y1 y2 y3) (impl_monthIn.l0 (k + 1) y0 y1 y2 y3))
 | 0 => fun _ _ _ _ r h => by simp [impl_monthIn.l0] at h
 | k + 1 => by
  have ih0 := impl_monthIn.mono_l k
  ·
   intro y0 y1 y2 y3
   unfold impl_monthIn.l0
   repeat' first
   | (with_reducible exact ih0 _ _ _ _)
   | (with_reducible exact LeO.refl _)
   | (with_reducible exact LeO.none _)
   | (with_reducible refine LeO.ite ?_ ?_)
   | (with_reducible refine LeO.bind ?_ (fun _ => ?_))
   | exact ih0 _ _ _ _
   | exact LeO.none _
   | refine LeO.ite ?_ ?_
   | refine LeO.bind ?_ (fun _ => ?_)
theorem impl_monthIn.mono : ∀ a0 k, LeO (impl_monthIn.f k a0) (impl_monthIn.f (k + 1) a0) := by
 intro a0 k
 have ih0 := impl_monthIn.mono_l k
 unfold impl_monthIn.f
 repeat' first
   | (with_reducible exact ih0 _ _ _ _)
   | (with_reducible exact LeO.refl _)
   | (with_reducible exact LeO.none _)
   | (with_reducible refine LeO.ite ?_ ?_)
   | (with_reducible refine LeO.bind ?_ (fun _ => ?_))
   | exact ih0 _ _ _ _
   | exact LeO.none _
   | refine LeO.ite ?_ ?_
   | refine LeO.bind ?_ (fun _ => ?_)
set_option maxHeartbeats 8000000 in
set_option maxRecDepth 100000 in
theorem impl_monthIn.calls (k : Nat) (a0 : ByteArray) (r : Int) (w : World) (ht : Tab w) (h : impl_monthIn.f k a0 = some r) :
  Calls Tryd.prog 66 #[.string a0] w fun e w' => e = .returned (.int .i64 r) ∧ Below w.heap.size w w' := by
 have HB := Aside0.mk (Below.refl w.heap.size w)
 have HT := Aside0.mk ht
 clear ht
 have H : ((impl_months.f).bind fun t267 => (impl_monthIn.l0 k a0 t267 (t267.length : Int) 0)) = some r := h
 clear h
 replace H := Option.bind_eq_some_iff.mp H
 obtain ⟨t267, A20, H⟩ := H
 replace H : (impl_monthIn.l0 k a0 t267 (t267.length : Int) 0) = some r := H
 have A2 := Aside0.mk A20
 clear A20
 have H' := Aside0.mk H
 clear H
 go_enter Tryd.func66, Tryd.ntmps66
 go_wp2_with (first | ((with_reducible refine gate_callee (f := 55) rfl ?_); refine goesL_ (some 5) rfl rfl Tryd.func55 (by kernel_rfl) rfl #[] rfl (by (try simp only [List.map_toArray, List.map_cons, List.map_nil]); first | done | rfl | (simp only [List.length_drop, List.length_take]; rfl)) ?_; (with_reducible refine (impl_months.calls  t267 _ A2.out).mono ?_); rintro e w3 ⟨v268, rfl, ho0, hb⟩; refine ⟨_, rfl, ?_⟩; have n0_ := Aside0.mk (Kd.R_lower ho0 (below_size (by repeat (first | (with_reducible first | exact HB.out | apply below_alloc | apply pw_below_drewN | apply below_drew1) | exact HB.out)))); have n1_ := Aside0.mk (below_step (by repeat (first | (with_reducible first | exact HB.out | apply below_alloc | apply pw_below_drewN | apply below_drew1) | exact HB.out)) hb); clear HB; have HO269 := n0_; have HB := n1_; clear n0_ n1_; (try clear hb); (try clear hb2); (try clear hk); (try clear hi); (try clear ho0); obtain ⟨Ao4, co4, eo4⟩ := Kd.R_slice HO269.out; subst eo4))
 go_loopg [7] k (fun kq v7 w' => ∃ (x7_1 : Int), v7 = .int .i64 x7_1 ∧ Aside0 (impl_monthIn.l0 kq a0 t267 (t267.length : Int) x7_1 = some r) ∧ Aside0 (kq ≤ k) ∧ Aside0 (Kd.R Kd.string 9 w' w.heap.size (fun _ => True) (.slice Ao4 t267.length co4) t267) ∧ Aside0 (Below w.heap.size w w'))
 case atStart => exact ⟨(0), (by first | rfl | (simp; done) | (simp [*]; done)), H', ⟨Nat.le_refl _⟩, ⟨by (with_reducible repeat (first | apply Kd.R_alloc | apply Kd.R_drewN | apply Kd.R_drew)); exact HO269.out⟩, ⟨by repeat (first | (with_reducible first | exact HB.out | apply below_alloc | apply pw_below_drewN | apply below_drew1) | exact HB.out)⟩⟩
 case round =>
  clear H'
  try clear p2
  obtain ⟨x7_1, rfl, HA, HK1, HO_5, HB⟩ := hrel
  cases gk with
  | zero => exact absurd HA.out (by simp [impl_monthIn.l0])
  | succ k1 =>
   have H := HA.out
   clear HA
   simp only [impl_monthIn.l0] at H
   by_cases c5 : x7_1 < (t267.length : Int)
   ·
    rw [if_pos c5] at H
    have c5b0 : decide (x7_1 < (t267.length : Int)) = true := decide_eq_true c5
    clear c5
    have c6 : 0 ≤ x7_1 := Classical.byContradiction fun h_ => by rw [if_neg h_] at H; exact absurd H (by simp)
    rw [if_pos c6] at H
    have c6b0 : decide (0 ≤ x7_1) = true := decide_eq_true c6
    clear c6
    have c7 : x7_1 < (t267.length : Int) := Classical.byContradiction fun h_ => by rw [if_neg h_] at H; exact absurd H (by simp)
    rw [if_pos c7] at H
    have c7b0 : decide (x7_1 < (t267.length : Int)) = true := decide_eq_true c7
    clear c7
    replace H := Option.bind_eq_some_iff.mp H
    obtain ⟨t271, A80, H⟩ := H
    replace H : (if t271 = true then (some (wrap64 (x7_1 + 1))) else (impl_monthIn.l0 k1 a0 t267 (t267.length : Int) (wrap64 (x7_1 + 1)))) = some r := H
    have A8 := Aside0.mk A80
    clear A80
    by_cases c9 : t271 = true
    ·
     subst c9
     have H1 : (some (wrap64 (x7_1 + 1))) = some r := by rw [if_pos rfl] at H; exact H
     clear H
     have H := H1
     clear H1
     obtain rfl := Option.some.inj H
     have p270 : 0 ≤ (x7_1 : Int) := of_decide_eq_true (by first | (with_reducible assumption) | assumption)
     have q270 : x7_1 < (t267.length : Int) := of_decide_eq_true (by first | (with_reducible assumption) | assumption)
     obtain ⟨ad270, e270, hx270_0⟩ := Kd.at_string (Kd.R_reads' HO_5.out).2.2 x7_1 p270 q270
     cases e270
     replace p270 := eq_true p270
     replace q270 := eq_true q270
     go_wp2_with (first | ((with_reducible refine gate_callee (f := 78) rfl ?_); refine goesL_ (some 14) rfl rfl Tryd.func78 (by kernel_rfl) rfl #[.string a0, .string (rdOf ByteArray.empty t267 x7_1)] rfl (by (try simp only [List.map_toArray, List.map_cons, List.map_nil]); first | done | rfl | (simp only [List.length_drop, List.length_take]; rfl)) ?_; (with_reducible refine (strings_Contains.calls a0 (rdOf ByteArray.empty t267 x7_1) true _ ?side1 A8.out).mono ?_); (case side1 => exact Tab.below HT.out (by repeat (first | (with_reducible first | exact HB.out | apply below_alloc | apply pw_below_drewN | apply below_drew1) | exact HB.out))); rintro e w' ⟨rfl, ⟨nd, rfl⟩⟩; refine ⟨_, rfl, ?_⟩))
     go_ret
     exact ⟨by first | rfl | (simp [errW_none, errW_some] <;> rfl) | (simp [*, errW_none, errW_some] <;> rfl), by repeat (first | (with_reducible first | exact HB.out | apply below_alloc | apply pw_below_drewN | apply below_drew1) | exact HB.out)⟩
    ·
     replace c9 := Bool.eq_false_iff.mpr c9
     subst c9
     have H1 : (impl_monthIn.l0 k1 a0 t267 (t267.length : Int) (wrap64 (x7_1 + 1))) = some r := by rw [if_neg (show ¬ (false = true) by decide)] at H; exact H
     clear H
     have H := H1
     clear H1
     have H' := Aside0.mk H
     clear H
     have p270 : 0 ≤ (x7_1 : Int) := of_decide_eq_true (by first | (with_reducible assumption) | assumption)
     have q270 : x7_1 < (t267.length : Int) := of_decide_eq_true (by first | (with_reducible assumption) | assumption)
     obtain ⟨ad270, e270, hx270_0⟩ := Kd.at_string (Kd.R_reads' HO_5.out).2.2 x7_1 p270 q270
     cases e270
     replace p270 := eq_true p270
     replace q270 := eq_true q270
     go_wp2_with (first | ((with_reducible refine gate_callee (f := 78) rfl ?_); refine goesL_ (some 14) rfl rfl Tryd.func78 (by kernel_rfl) rfl #[.string a0, .string (rdOf ByteArray.empty t267 x7_1)] rfl (by (try simp only [List.map_toArray, List.map_cons, List.map_nil]); first | done | rfl | (simp only [List.length_drop, List.length_take]; rfl)) ?_; (with_reducible refine (strings_Contains.calls a0 (rdOf ByteArray.empty t267 x7_1) false _ ?side1 A8.out).mono ?_); (case side1 => exact Tab.below HT.out (by repeat (first | (with_reducible first | exact HB.out | apply below_alloc | apply pw_below_drewN | apply below_drew1) | exact HB.out))); rintro e w' ⟨rfl, ⟨nd, rfl⟩⟩; refine ⟨_, rfl, ?_⟩))
     go_roundg k1
     case measure => have := HK1.out; omega
     case rel => exact ⟨(wrap64 (x7_1 + 1)), (by first | rfl | (simp; done) | (simp [*]; done)), H', ⟨by have := HK1.out; omega⟩, ⟨by (with_reducible repeat (first | apply Kd.R_alloc | apply Kd.R_drewN | apply Kd.R_drew)); exact HO_5.out⟩, ⟨by repeat (first | (with_reducible first | exact HB.out | apply below_alloc | apply pw_below_drewN | apply below_drew1) | exact HB.out)⟩⟩
   ·
    rw [if_neg c5] at H
    have c5b0 : decide (x7_1 < (t267.length : Int)) = false := decide_eq_false c5
    clear c5
    obtain rfl := Option.some.inj H
    go_wp2
    go_ret
    exact ⟨by first | rfl | (simp [errW_none, errW_some] <;> rfl) | (simp [*, errW_none, errW_some] <;> rfl), by repeat (first | (with_reducible first | exact HB.out | apply below_alloc | apply pw_below_drewN | apply below_drew1) | exact HB.out)⟩

-- told elsewhere: function 67 (strings_IndexByte)

end Go.Proofs.YtgjbhdfncappdaaDoor.PFnExactReadHttpDate
