-- Written by a program of this session.
import Derived.Test.YtgjbhdfncappdaaDoorQFnExactReadHttpDatex0
namespace Go.Proofs.YtgjbhdfncappdaaDoor.PFnExactReadHttpDate
open Go.Proofs.YtgjbhdfncappdaaDoor.Foreign
open Go.RowKit Go.Proofs.YtgjbhdfncappdaaDoorV.PrintWords Go.Proofs.YtgjbhdfncappdaaDoorV.PrintLast Go.Proofs.YtgjbhdfncappdaaDoorV.PrintMore
attribute [local go_sem] max2_int min2_int max_two min_two max_three min_three max_four min_four   -- for this text's walks alone
set_option linter.unusedVariables false
set_option linter.unusedSimpArgs false

/-! ### impl_within: function 49 -/
def impl_within.f (a0 : Int) (a1 : Int) (a2 : Int) : Option (Bool) := if a1 ≤ a0 then (some (decide (a0 ≤ a2))) else (some false)
set_option maxHeartbeats 8000000 in
set_option maxRecDepth 100000 in
theorem impl_within.calls (a0 : Int) (a1 : Int) (a2 : Int) (r : Bool) (w : World) (h : impl_within.f a0 a1 a2 = some r) :
  Calls Tryd.prog 49 #[.int .i64 a0, .int .i64 a1, .int .i64 a2] w fun e w' => e = .returned (.bool r) ∧ Drawn0 w w' := by
 have H : (if a1 ≤ a0 then (some (decide (a0 ≤ a2))) else (some false)) = some r := h
 clear h
 by_cases c4 : a1 ≤ a0
 ·
  rw [if_pos c4] at H
  have c4b0 : decide (a1 ≤ a0) = true := decide_eq_true c4
  clear c4
  obtain rfl := Option.some.inj H
  go_enter Tryd.func49, Tryd.ntmps49
  go_wp2
  go_ret
  exact ⟨by first | rfl | (simp; done) | (simp [*]; done), by repeat (first | exact Drawn0.refl _ | apply Drawn0.step)⟩
 ·
  rw [if_neg c4] at H
  have c4b0 : decide (a1 ≤ a0) = false := decide_eq_false c4
  clear c4
  obtain rfl := Option.some.inj H
  go_enter Tryd.func49, Tryd.ntmps49
  go_wp2
  go_ret
  exact ⟨by first | rfl | (simp; done) | (simp [*]; done), by repeat (first | exact Drawn0.refl _ | apply Drawn0.step)⟩

-- told elsewhere: function 24 (impl_SecondsOf)

/-! ### impl_isTime: function 45 -/
def impl_isTime.f (a0 : Int) : Option (Bool) := (impl_within.f a0 0 253402300799).bind fun t179 => (some t179)
set_option maxHeartbeats 8000000 in
set_option maxRecDepth 100000 in
theorem impl_isTime.calls (a0 : Int) (r : Bool) (w : World) (h : impl_isTime.f a0 = some r) :
  Calls Tryd.prog 45 #[.int .i64 a0] w fun e w' => e = .returned (.bool r) ∧ Drawn0 w w' := by
 have H : ((impl_within.f a0 0 253402300799).bind fun t179 => (some t179)) = some r := h
 clear h
 replace H := Option.bind_eq_some_iff.mp H
 obtain ⟨t179, A20, H⟩ := H
 replace H : (some t179) = some r := H
 have A2 := Aside0.mk A20
 clear A20
 obtain rfl := Option.some.inj H
 go_enter Tryd.func45, Tryd.ntmps45
 go_wp2_with (first | ((with_reducible refine gate_callee (f := 49) rfl ?_); refine goesL_ (some 4) rfl rfl Tryd.func49 (by kernel_rfl) rfl #[.int .i64 a0, .int .i64 0, .int .i64 253402300799] rfl (by (try simp only [List.map_toArray, List.map_cons, List.map_nil]); first | done | rfl | (simp only [List.length_drop, List.length_take]; rfl)) ?_; (with_reducible refine (impl_within.calls a0 0 253402300799 t179 _ A2.out).mono ?_); rintro e w' ⟨rfl, ⟨nd, rfl⟩⟩; refine ⟨_, rfl, ?_⟩))
 go_ret
 exact ⟨by first | rfl | (simp; done) | (simp [*]; done), by repeat (first | exact Drawn0.refl _ | apply Drawn0.step)⟩

/-! ### impl_Weekday: function 23 -/
def impl_Weekday.f (a0 : Int) : Option (Int) := (impl_isTime.f a0).bind fun t180 => (if t180 = true then (some (Int.tmod (wrap64 ((wrap64 (Int.tdiv a0 86400)) + 3)) 7)) else (some (-1)))
set_option maxHeartbeats 8000000 in
set_option maxRecDepth 100000 in
theorem impl_Weekday.calls (a0 : Int) (r : Int) (w : World) (h : impl_Weekday.f a0 = some r) :
  Calls Tryd.prog 23 #[.int .i64 a0] w fun e w' => e = .returned (.int .i64 r) ∧ Drawn0 w w' := by
 have H : ((impl_isTime.f a0).bind fun t180 => (if t180 = true then (some (Int.tmod (wrap64 ((wrap64 (Int.tdiv a0 86400)) + 3)) 7)) else (some (-1)))) = some r := h
 clear h
 replace H := Option.bind_eq_some_iff.mp H
 obtain ⟨t180, A20, H⟩ := H
 replace H : (if t180 = true then (some (Int.tmod (wrap64 ((wrap64 (Int.tdiv a0 86400)) + 3)) 7)) else (some (-1))) = some r := H
 have A2 := Aside0.mk A20
 clear A20
 by_cases c3 : t180 = true
 ·
  subst c3
  have H1 : (some (Int.tmod (wrap64 ((wrap64 (Int.tdiv a0 86400)) + 3)) 7)) = some r := by rw [if_pos rfl] at H; exact H
  clear H
  have H := H1
  clear H1
  obtain rfl := Option.some.inj H
  go_enter Tryd.func23, Tryd.ntmps23
  go_wp2_with (first | ((with_reducible refine gate_callee (f := 45) rfl ?_); refine goesL_ (some 4) rfl rfl Tryd.func45 (by kernel_rfl) rfl #[.int .i64 a0] rfl (by (try simp only [List.map_toArray, List.map_cons, List.map_nil]); first | done | rfl | (simp only [List.length_drop, List.length_take]; rfl)) ?_; (with_reducible refine (impl_isTime.calls a0 true _ A2.out).mono ?_); rintro e w' ⟨rfl, ⟨nd, rfl⟩⟩; refine ⟨_, rfl, ?_⟩))
  go_ret
  exact ⟨by first | rfl | (simp; done) | (simp [*]; done), by repeat (first | exact Drawn0.refl _ | apply Drawn0.step)⟩
 ·
  replace c3 := Bool.eq_false_iff.mpr c3
  subst c3
  have H1 : (some (-1)) = some r := by rw [if_neg (show ¬ (false = true) by decide)] at H; exact H
  clear H
  have H := H1
  clear H1
  obtain rfl := Option.some.inj H
  go_enter Tryd.func23, Tryd.ntmps23
  go_wp2_with (first | ((with_reducible refine gate_callee (f := 45) rfl ?_); refine goesL_ (some 4) rfl rfl Tryd.func45 (by kernel_rfl) rfl #[.int .i64 a0] rfl (by (try simp only [List.map_toArray, List.map_cons, List.map_nil]); first | done | rfl | (simp only [List.length_drop, List.length_take]; rfl)) ?_; (with_reducible refine (impl_isTime.calls a0 false _ A2.out).mono ?_); rintro e w' ⟨rfl, ⟨nd, rfl⟩⟩; refine ⟨_, rfl, ?_⟩))
  go_ret
  exact ⟨by first | rfl | (simp; done) | (simp [*]; done), by repeat (first | exact Drawn0.refl _ | apply Drawn0.step)⟩

-- told elsewhere: function 46 (impl_civilOf)

/-! ### impl_days: function 53 -/
def impl_days.f  : Option (List ByteArray) := some (([(⟨#[77, 111, 110, 100, 97, 121]⟩ : ByteArray), (⟨#[84, 117, 101, 115, 100, 97, 121]⟩ : ByteArray), (⟨#[87, 101, 100, 110, 101, 115, 100, 97, 121]⟩ : ByteArray), (⟨#[84, 104, 117, 114, 115, 100, 97, 121]⟩ : ByteArray), (⟨#[70, 114, 105, 100, 97, 121]⟩ : ByteArray), (⟨#[83, 97, 116, 117, 114, 100, 97, 121]⟩ : ByteArray), (⟨#[83, 117, 110, 100, 97, 121]⟩ : ByteArray)] : List ByteArray))
set_option maxHeartbeats 8000000 in
set_option maxRecDepth 100000 in
theorem impl_days.calls  (r : List ByteArray) (w : World) (h : impl_days.f  = some r) :
  Calls Tryd.prog 53 #[] w fun e w' => ∃ v0_ : Value, e = .returned (v0_) ∧ Kd.R Kd.string 9 w' w.heap.size (fun _ => True) v0_ r ∧ Below w.heap.size w w' := by
 have HB := Aside0.mk (Below.refl w.heap.size w)
 have H : (some (([(⟨#[77, 111, 110, 100, 97, 121]⟩ : ByteArray), (⟨#[84, 117, 101, 115, 100, 97, 121]⟩ : ByteArray), (⟨#[87, 101, 100, 110, 101, 115, 100, 97, 121]⟩ : ByteArray), (⟨#[84, 104, 117, 114, 115, 100, 97, 121]⟩ : ByteArray), (⟨#[70, 114, 105, 100, 97, 121]⟩ : ByteArray), (⟨#[83, 97, 116, 117, 114, 100, 97, 121]⟩ : ByteArray), (⟨#[83, 117, 110, 100, 97, 121]⟩ : ByteArray)] : List ByteArray))) = some r := h
 clear h
 obtain ⟨y181, hy181⟩ : ∃ y_ : List ByteArray, y_ = (([(⟨#[77, 111, 110, 100, 97, 121]⟩ : ByteArray), (⟨#[84, 117, 101, 115, 100, 97, 121]⟩ : ByteArray), (⟨#[87, 101, 100, 110, 101, 115, 100, 97, 121]⟩ : ByteArray), (⟨#[84, 104, 117, 114, 115, 100, 97, 121]⟩ : ByteArray), (⟨#[70, 114, 105, 100, 97, 121]⟩ : ByteArray), (⟨#[83, 97, 116, 117, 114, 100, 97, 121]⟩ : ByteArray), (⟨#[83, 117, 110, 100, 97, 121]⟩ : ByteArray)] : List ByteArray)) := ⟨_, rfl⟩
 replace H : (some y181) = some r := by first | (rw [hy181]; with_reducible exact H) | (have H2_ := (Option.bind_some _ _).symm.trans H; rw [hy181]; with_reducible exact H2_) | (have H2_ := (Option.bind_some _ _).symm.trans H; with_reducible exact H2_) | with_reducible exact H | (rw [hy181]; exact H) | exact H
 have Ny181 := Aside0.mk hy181
 clear hy181
 obtain rfl := Option.some.inj H
 go_enter Tryd.func53, Tryd.ntmps53
 go_wp2_with (first | ((with_reducible refine gate_dst (N := 1) rfl ?_); refine Kd.R_lit Kd.string _ 9 ?hg (N := 1) ?hd (xs := ([(⟨#[77, 111, 110, 100, 97, 121]⟩ : ByteArray), (⟨#[84, 117, 101, 115, 100, 97, 121]⟩ : ByteArray), (⟨#[87, 101, 100, 110, 101, 115, 100, 97, 121]⟩ : ByteArray), (⟨#[84, 104, 117, 114, 115, 100, 97, 121]⟩ : ByteArray), (⟨#[70, 114, 105, 100, 97, 121]⟩ : ByteArray), (⟨#[83, 97, 116, 117, 114, 100, 97, 121]⟩ : ByteArray), (⟨#[83, 117, 110, 100, 97, 121]⟩ : ByteArray)] : List ByteArray)) (inner := [.string (⟨#[77, 111, 110, 100, 97, 121]⟩ : ByteArray), .string (⟨#[84, 117, 101, 115, 100, 97, 121]⟩ : ByteArray), .string (⟨#[87, 101, 100, 110, 101, 115, 100, 97, 121]⟩ : ByteArray), .string (⟨#[84, 104, 117, 114, 115, 100, 97, 121]⟩ : ByteArray), .string (⟨#[70, 114, 105, 100, 97, 121]⟩ : ByteArray), .string (⟨#[83, 97, 116, 117, 114, 100, 97, 121]⟩ : ByteArray), .string (⟨#[83, 117, 110, 100, 97, 121]⟩ : ByteArray)]) (ok := fun _ => True) (okp := fun _ => True) ?hr ?hp (fun _ hk => hk) trivial (Below.refl _ _) (Nat.le_refl _) (by simp) ?_; (case hd => rfl); (case hg => rfl); (case hr => first | (go_simp; done) | (go_simp; rfl)); (case hp => exact (Reps.one (show Kd.M Kd.string _ _ _ (⟨#[77, 111, 110, 100, 97, 121]⟩ : ByteArray) [.string (⟨#[77, 111, 110, 100, 97, 121]⟩ : ByteArray)] from rfl) (Reps.one (show Kd.M Kd.string _ _ _ (⟨#[84, 117, 101, 115, 100, 97, 121]⟩ : ByteArray) [.string (⟨#[84, 117, 101, 115, 100, 97, 121]⟩ : ByteArray)] from rfl) (Reps.one (show Kd.M Kd.string _ _ _ (⟨#[87, 101, 100, 110, 101, 115, 100, 97, 121]⟩ : ByteArray) [.string (⟨#[87, 101, 100, 110, 101, 115, 100, 97, 121]⟩ : ByteArray)] from rfl) (Reps.one (show Kd.M Kd.string _ _ _ (⟨#[84, 104, 117, 114, 115, 100, 97, 121]⟩ : ByteArray) [.string (⟨#[84, 104, 117, 114, 115, 100, 97, 121]⟩ : ByteArray)] from rfl) (Reps.one (show Kd.M Kd.string _ _ _ (⟨#[70, 114, 105, 100, 97, 121]⟩ : ByteArray) [.string (⟨#[70, 114, 105, 100, 97, 121]⟩ : ByteArray)] from rfl) (Reps.one (show Kd.M Kd.string _ _ _ (⟨#[83, 97, 116, 117, 114, 100, 97, 121]⟩ : ByteArray) [.string (⟨#[83, 97, 116, 117, 114, 100, 97, 121]⟩ : ByteArray)] from rfl) (Reps.one (show Kd.M Kd.string _ _ _ (⟨#[83, 117, 110, 100, 97, 121]⟩ : ByteArray) [.string (⟨#[83, 117, 110, 100, 97, 121]⟩ : ByteArray)] from rfl) (Reps.none _ _))))))))); intro v182 w1 ho2 hb hg_ hnew_; clear hg_ hnew_; (first | rw [← Ny181.out] at ho2 | (simp only [Int.reduceToNat] at ho2; rw [← Ny181.out] at ho2)); have n0_ := Aside0.mk (Kd.R_lower ho2 (below_size (by repeat (first | (with_reducible first | exact HB.out | apply below_alloc | apply pw_below_drewN | apply below_drew1) | exact HB.out)))); have n1_ := Aside0.mk (below_step (by repeat (first | (with_reducible first | exact HB.out | apply below_alloc | apply pw_below_drewN | apply below_drew1) | exact HB.out)) hb); clear HB; have HO183 := n0_; have HB := n1_; clear n0_ n1_; clear hb ho2))
 go_ret
 exact ⟨_, by first | rfl | (simp [errW_none, errW_some] <;> rfl) | (simp [*, errW_none, errW_some] <;> rfl), by (with_reducible repeat (first | apply Kd.R_alloc | apply Kd.R_drewN | apply Kd.R_drew)); exact HO183.out, by repeat (first | (with_reducible first | exact HB.out | apply below_alloc | apply pw_below_drewN | apply below_drew1) | exact HB.out)⟩

-- told elsewhere: function 54 (impl_digits)

/-! ### impl_months: function 55 -/
def impl_months.f  : Option (List ByteArray) := some (([(⟨#[74, 97, 110]⟩ : ByteArray), (⟨#[70, 101, 98]⟩ : ByteArray), (⟨#[77, 97, 114]⟩ : ByteArray), (⟨#[65, 112, 114]⟩ : ByteArray), (⟨#[77, 97, 121]⟩ : ByteArray), (⟨#[74, 117, 110]⟩ : ByteArray), (⟨#[74, 117, 108]⟩ : ByteArray), (⟨#[65, 117, 103]⟩ : ByteArray), (⟨#[83, 101, 112]⟩ : ByteArray), (⟨#[79, 99, 116]⟩ : ByteArray), (⟨#[78, 111, 118]⟩ : ByteArray), (⟨#[68, 101, 99]⟩ : ByteArray)] : List ByteArray))
set_option maxHeartbeats 8000000 in
set_option maxRecDepth 100000 in
theorem impl_months.calls  (r : List ByteArray) (w : World) (h : impl_months.f  = some r) :
  Calls Tryd.prog 55 #[] w fun e w' => ∃ v0_ : Value, e = .returned (v0_) ∧ Kd.R Kd.string 9 w' w.heap.size (fun _ => True) v0_ r ∧ Below w.heap.size w w' := by
 have HB := Aside0.mk (Below.refl w.heap.size w)
 have H : (some (([(⟨#[74, 97, 110]⟩ : ByteArray), (⟨#[70, 101, 98]⟩ : ByteArray), (⟨#[77, 97, 114]⟩ : ByteArray), (⟨#[65, 112, 114]⟩ : ByteArray), (⟨#[77, 97, 121]⟩ : ByteArray), (⟨#[74, 117, 110]⟩ : ByteArray), (⟨#[74, 117, 108]⟩ : ByteArray), (⟨#[65, 117, 103]⟩ : ByteArray), (⟨#[83, 101, 112]⟩ : ByteArray), (⟨#[79, 99, 116]⟩ : ByteArray), (⟨#[78, 111, 118]⟩ : ByteArray), (⟨#[68, 101, 99]⟩ : ByteArray)] : List ByteArray))) = some r := h
 clear h
 obtain ⟨y184, hy184⟩ : ∃ y_ : List ByteArray, y_ = (([(⟨#[74, 97, 110]⟩ : ByteArray), (⟨#[70, 101, 98]⟩ : ByteArray), (⟨#[77, 97, 114]⟩ : ByteArray), (⟨#[65, 112, 114]⟩ : ByteArray), (⟨#[77, 97, 121]⟩ : ByteArray), (⟨#[74, 117, 110]⟩ : ByteArray), (⟨#[74, 117, 108]⟩ : ByteArray), (⟨#[65, 117, 103]⟩ : ByteArray), (⟨#[83, 101, 112]⟩ : ByteArray), (⟨#[79, 99, 116]⟩ : ByteArray), (⟨#[78, 111, 118]⟩ : ByteArray), (⟨#[68, 101, 99]⟩ : ByteArray)] : List ByteArray)) := ⟨_, rfl⟩
 replace H : (some y184) = some r := by first | (rw [hy184]; with_reducible exact H) | (have H2_ := (Option.bind_some _ _).symm.trans H; rw [hy184]; with_reducible exact H2_) | (have H2_ := (Option.bind_some _ _).symm.trans H; with_reducible exact H2_) | with_reducible exact H | (rw [hy184]; exact H) | exact H
 have Ny184 := Aside0.mk hy184
 clear hy184
 obtain rfl := Option.some.inj H
 go_enter Tryd.func55, Tryd.ntmps55
 go_wp2_with (first | ((with_reducible refine gate_dst (N := 1) rfl ?_); refine Kd.R_lit Kd.string _ 9 ?hg (N := 1) ?hd (xs := ([(⟨#[74, 97, 110]⟩ : ByteArray), (⟨#[70, 101, 98]⟩ : ByteArray), (⟨#[77, 97, 114]⟩ : ByteArray), (⟨#[65, 112, 114]⟩ : ByteArray), (⟨#[77, 97, 121]⟩ : ByteArray), (⟨#[74, 117, 110]⟩ : ByteArray), (⟨#[74, 117, 108]⟩ : ByteArray), (⟨#[65, 117, 103]⟩ : ByteArray), (⟨#[83, 101, 112]⟩ : ByteArray), (⟨#[79, 99, 116]⟩ : ByteArray), (⟨#[78, 111, 118]⟩ : ByteArray), (⟨#[68, 101, 99]⟩ : ByteArray)] : List ByteArray)) (inner := [.string (⟨#[74, 97, 110]⟩ : ByteArray), .string (⟨#[70, 101, 98]⟩ : ByteArray), .string (⟨#[77, 97, 114]⟩ : ByteArray), .string (⟨#[65, 112, 114]⟩ : ByteArray), .string (⟨#[77, 97, 121]⟩ : ByteArray), .string (⟨#[74, 117, 110]⟩ : ByteArray), .string (⟨#[74, 117, 108]⟩ : ByteArray), .string (⟨#[65, 117, 103]⟩ : ByteArray), .string (⟨#[83, 101, 112]⟩ : ByteArray), .string (⟨#[79, 99, 116]⟩ : ByteArray), .string (⟨#[78, 111, 118]⟩ : ByteArray), .string (⟨#[68, 101, 99]⟩ : ByteArray)]) (ok := fun _ => True) (okp := fun _ => True) ?hr ?hp (fun _ hk => hk) trivial (Below.refl _ _) (Nat.le_refl _) (by simp) ?_; (case hd => rfl); (case hg => rfl); (case hr => first | (go_simp; done) | (go_simp; rfl)); (case hp => exact (Reps.one (show Kd.M Kd.string _ _ _ (⟨#[74, 97, 110]⟩ : ByteArray) [.string (⟨#[74, 97, 110]⟩ : ByteArray)] from rfl) (Reps.one (show Kd.M Kd.string _ _ _ (⟨#[70, 101, 98]⟩ : ByteArray) [.string (⟨#[70, 101, 98]⟩ : ByteArray)] from rfl) (Reps.one (show Kd.M Kd.string _ _ _ (⟨#[77, 97, 114]⟩ : ByteArray) [.string (⟨#[77, 97, 114]⟩ : ByteArray)] from rfl) (Reps.one (show Kd.M Kd.string _ _ _ (⟨#[65, 112, 114]⟩ : ByteArray) [.string (⟨#[65, 112, 114]⟩ : ByteArray)] from rfl) (Reps.one (show Kd.M Kd.string _ _ _ (⟨#[77, 97, 121]⟩ : ByteArray) [.string (⟨#[77, 97, 121]⟩ : ByteArray)] from rfl) (Reps.one (show Kd.M Kd.string _ _ _ (⟨#[74, 117, 110]⟩ : ByteArray) [.string (⟨#[74, 117, 110]⟩ : ByteArray)] from rfl) (Reps.one (show Kd.M Kd.string _ _ _ (⟨#[74, 117, 108]⟩ : ByteArray) [.string (⟨#[74, 117, 108]⟩ : ByteArray)] from rfl) (Reps.one (show Kd.M Kd.string _ _ _ (⟨#[65, 117, 103]⟩ : ByteArray) [.string (⟨#[65, 117, 103]⟩ : ByteArray)] from rfl) (Reps.one (show Kd.M Kd.string _ _ _ (⟨#[83, 101, 112]⟩ : ByteArray) [.string (⟨#[83, 101, 112]⟩ : ByteArray)] from rfl) (Reps.one (show Kd.M Kd.string _ _ _ (⟨#[79, 99, 116]⟩ : ByteArray) [.string (⟨#[79, 99, 116]⟩ : ByteArray)] from rfl) (Reps.one (show Kd.M Kd.string _ _ _ (⟨#[78, 111, 118]⟩ : ByteArray) [.string (⟨#[78, 111, 118]⟩ : ByteArray)] from rfl) (Reps.one (show Kd.M Kd.string _ _ _ (⟨#[68, 101, 99]⟩ : ByteArray) [.string (⟨#[68, 101, 99]⟩ : ByteArray)] from rfl) (Reps.none _ _)))))))))))))); intro v185 w1 ho2 hb hg_ hnew_; clear hg_ hnew_; (first | rw [← Ny184.out] at ho2 | (simp only [Int.reduceToNat] at ho2; rw [← Ny184.out] at ho2)); have n0_ := Aside0.mk (Kd.R_lower ho2 (below_size (by repeat (first | (with_reducible first | exact HB.out | apply below_alloc | apply pw_below_drewN | apply below_drew1) | exact HB.out)))); have n1_ := Aside0.mk (below_step (by repeat (first | (with_reducible first | exact HB.out | apply below_alloc | apply pw_below_drewN | apply below_drew1) | exact HB.out)) hb); clear HB; have HO186 := n0_; have HB := n1_; clear n0_ n1_; clear hb ho2))
 go_ret
 exact ⟨_, by first | rfl | (simp [errW_none, errW_some] <;> rfl) | (simp [*, errW_none, errW_some] <;> rfl), by (with_reducible repeat (first | apply Kd.R_alloc | apply Kd.R_drewN | apply Kd.R_drew)); exact HO186.out, by repeat (first | (with_reducible first | exact HB.out | apply below_alloc | apply pw_below_drewN | apply below_drew1) | exact HB.out)⟩

/-! ### impl_clock: function 56 -/
def impl_clock.f (a0_0 : Int) (a0_1 : Int) (a0_2 : Int) (a0_3 : Int) (a0_4 : Int) (a0_5 : Int) : Option (ByteArray) := (impl_digits.f a0_3 2).bind fun t188 => (if t188.size + 1 ≤ 9223372036854775807 then ((impl_digits.f a0_4 2).bind fun t189 => (if (t188 ++ (⟨#[58]⟩ : ByteArray)).size + t189.size ≤ 9223372036854775807 then (if ((t188 ++ (⟨#[58]⟩ : ByteArray)) ++ t189).size + 1 ≤ 9223372036854775807 then ((impl_digits.f a0_5 2).bind fun t190 => (if (((t188 ++ (⟨#[58]⟩ : ByteArray)) ++ t189) ++ (⟨#[58]⟩ : ByteArray)).size + t190.size ≤ 9223372036854775807 then (some ((((t188 ++ (⟨#[58]⟩ : ByteArray)) ++ t189) ++ (⟨#[58]⟩ : ByteArray)) ++ t190)) else (none))) else (none)) else (none))) else (none))
set_option maxHeartbeats 8000000 in
set_option maxRecDepth 100000 in
theorem impl_clock.calls (a0_0 : Int) (a0_1 : Int) (a0_2 : Int) (a0_3 : Int) (a0_4 : Int) (a0_5 : Int) (r : ByteArray) (w : World) (h : impl_clock.f a0_0 a0_1 a0_2 a0_3 a0_4 a0_5 = some r) :
  Calls Tryd.prog 56 #[.agg #[.int .i64 a0_0, .int .i64 a0_1, .int .i64 a0_2, .int .i64 a0_3, .int .i64 a0_4, .int .i64 a0_5]] w fun e w' => e = .returned (.string r) ∧ Below w.heap.size w w' := by
 have hu30 := Tryd.underlying30
 have HB := Aside0.mk (Below.refl w.heap.size w)
 have H : ((impl_digits.f a0_3 2).bind fun t188 => (if t188.size + 1 ≤ 9223372036854775807 then ((impl_digits.f a0_4 2).bind fun t189 => (if (t188 ++ (⟨#[58]⟩ : ByteArray)).size + t189.size ≤ 9223372036854775807 then (if ((t188 ++ (⟨#[58]⟩ : ByteArray)) ++ t189).size + 1 ≤ 9223372036854775807 then ((impl_digits.f a0_5 2).bind fun t190 => (if (((t188 ++ (⟨#[58]⟩ : ByteArray)) ++ t189) ++ (⟨#[58]⟩ : ByteArray)).size + t190.size ≤ 9223372036854775807 then (some ((((t188 ++ (⟨#[58]⟩ : ByteArray)) ++ t189) ++ (⟨#[58]⟩ : ByteArray)) ++ t190)) else (none))) else (none)) else (none))) else (none))) = some r := h
 clear h
 replace H := Option.bind_eq_some_iff.mp H
 obtain ⟨t188, A20, H⟩ := H
 replace H : (if t188.size + 1 ≤ 9223372036854775807 then ((impl_digits.f a0_4 2).bind fun t189 => (if (t188 ++ (⟨#[58]⟩ : ByteArray)).size + t189.size ≤ 9223372036854775807 then (if ((t188 ++ (⟨#[58]⟩ : ByteArray)) ++ t189).size + 1 ≤ 9223372036854775807 then ((impl_digits.f a0_5 2).bind fun t190 => (if (((t188 ++ (⟨#[58]⟩ : ByteArray)) ++ t189) ++ (⟨#[58]⟩ : ByteArray)).size + t190.size ≤ 9223372036854775807 then (some ((((t188 ++ (⟨#[58]⟩ : ByteArray)) ++ t189) ++ (⟨#[58]⟩ : ByteArray)) ++ t190)) else (none))) else (none)) else (none))) else (none)) = some r := H
 have A2 := Aside0.mk A20
 clear A20
 have c3 : t188.size + 1 ≤ 9223372036854775807 := Classical.byContradiction fun h_ => by rw [if_neg h_] at H; exact absurd H (by simp)
 rw [if_pos c3] at H
 have c3b0 := eq_true c3
 have c3b1 : decide (t188.size + 1 ≤ 9223372036854775807) = true := decide_eq_true c3
 try have c3b2 : (9223372036854775807 < t188.size + 1) = False := eq_false (Nat.not_lt.2 c3)
 replace H := Option.bind_eq_some_iff.mp H
 obtain ⟨t189, A40, H⟩ := H
 replace H : (if (t188 ++ (⟨#[58]⟩ : ByteArray)).size + t189.size ≤ 9223372036854775807 then (if ((t188 ++ (⟨#[58]⟩ : ByteArray)) ++ t189).size + 1 ≤ 9223372036854775807 then ((impl_digits.f a0_5 2).bind fun t190 => (if (((t188 ++ (⟨#[58]⟩ : ByteArray)) ++ t189) ++ (⟨#[58]⟩ : ByteArray)).size + t190.size ≤ 9223372036854775807 then (some ((((t188 ++ (⟨#[58]⟩ : ByteArray)) ++ t189) ++ (⟨#[58]⟩ : ByteArray)) ++ t190)) else (none))) else (none)) else (none)) = some r := H
 have A4 := Aside0.mk A40
 clear A40
 have c5 : (t188 ++ (⟨#[58]⟩ : ByteArray)).size + t189.size ≤ 9223372036854775807 := Classical.byContradiction fun h_ => by rw [if_neg h_] at H; exact absurd H (by simp)
 rw [if_pos c5] at H
 have c5b0 := eq_true c5
 have c5b1 : decide ((t188 ++ (⟨#[58]⟩ : ByteArray)).size + t189.size ≤ 9223372036854775807) = true := decide_eq_true c5
 try have c5b2 : (9223372036854775807 < (t188 ++ (⟨#[58]⟩ : ByteArray)).size + t189.size) = False := eq_false (Nat.not_lt.2 c5)
 (try (have c5v2 : (9223372036854775807 < (t188.size + 1) + t189.size) = False := eq_false (by have h_ := c5; simp only [ByteArray.size_append, show (⟨#[58]⟩ : ByteArray).size = 1 from rfl] at h_; omega)))
 (try (have c5y0 := c5b0; simp only [ByteArray.size_append] at c5y0))
 (try (have c5z0 := c5b0; simp only [ByteArray.size_append, Int.natCast_add] at c5z0))
 (try (have c5y1 := c5b1; simp only [ByteArray.size_append] at c5y1))
 (try (have c5z1 := c5b1; simp only [ByteArray.size_append, Int.natCast_add] at c5z1))
 have c6 : ((t188 ++ (⟨#[58]⟩ : ByteArray)) ++ t189).size + 1 ≤ 9223372036854775807 := Classical.byContradiction fun h_ => by rw [if_neg h_] at H; exact absurd H (by simp)
 rw [if_pos c6] at H
 have c6b0 := eq_true c6
 have c6b1 : decide (((t188 ++ (⟨#[58]⟩ : ByteArray)) ++ t189).size + 1 ≤ 9223372036854775807) = true := decide_eq_true c6
 try have c6b2 : (9223372036854775807 < ((t188 ++ (⟨#[58]⟩ : ByteArray)) ++ t189).size + 1) = False := eq_false (Nat.not_lt.2 c6)
 (try (have c6v2 : (9223372036854775807 < ((t188.size + 1) + t189.size) + 1) = False := eq_false (by have h_ := c6; simp only [ByteArray.size_append, show (⟨#[58]⟩ : ByteArray).size = 1 from rfl] at h_; omega)))
 (try (have c6y0 := c6b0; simp only [ByteArray.size_append] at c6y0))
 (try (have c6z0 := c6b0; simp only [ByteArray.size_append, Int.natCast_add] at c6z0))
 (try (have c6y1 := c6b1; simp only [ByteArray.size_append] at c6y1))
 (try (have c6z1 := c6b1; simp only [ByteArray.size_append, Int.natCast_add] at c6z1))
 replace H := Option.bind_eq_some_iff.mp H
 obtain ⟨t190, A70, H⟩ := H
 replace H : (if (((t188 ++ (⟨#[58]⟩ : ByteArray)) ++ t189) ++ (⟨#[58]⟩ : ByteArray)).size + t190.size ≤ 9223372036854775807 then (some ((((t188 ++ (⟨#[58]⟩ : ByteArray)) ++ t189) ++ (⟨#[58]⟩ : ByteArray)) ++ t190)) else (none)) = some r := H
 have A7 := Aside0.mk A70
 clear A70
 have c8 : (((t188 ++ (⟨#[58]⟩ : ByteArray)) ++ t189) ++ (⟨#[58]⟩ : ByteArray)).size + t190.size ≤ 9223372036854775807 := Classical.byContradiction fun h_ => by rw [if_neg h_] at H; exact absurd H (by simp)
 rw [if_pos c8] at H
 have c8b0 := eq_true c8
 have c8b1 : decide ((((t188 ++ (⟨#[58]⟩ : ByteArray)) ++ t189) ++ (⟨#[58]⟩ : ByteArray)).size + t190.size ≤ 9223372036854775807) = true := decide_eq_true c8
 try have c8b2 : (9223372036854775807 < (((t188 ++ (⟨#[58]⟩ : ByteArray)) ++ t189) ++ (⟨#[58]⟩ : ByteArray)).size + t190.size) = False := eq_false (Nat.not_lt.2 c8)
 (try (have c8v2 : (9223372036854775807 < (((t188.size + 1) + t189.size) + 1) + t190.size) = False := eq_false (by have h_ := c8; simp only [ByteArray.size_append, show (⟨#[58]⟩ : ByteArray).size = 1 from rfl] at h_; omega)))
 (try (have c8y0 := c8b0; simp only [ByteArray.size_append] at c8y0))
 (try (have c8z0 := c8b0; simp only [ByteArray.size_append, Int.natCast_add] at c8z0))
 (try (have c8y1 := c8b1; simp only [ByteArray.size_append] at c8y1))
 (try (have c8z1 := c8b1; simp only [ByteArray.size_append, Int.natCast_add] at c8z1))
 obtain rfl := Option.some.inj H
 go_enter Tryd.func56, Tryd.ntmps56
 go_wp2_with (first | ((with_reducible refine gate_dst (N := 1) rfl ?_); refine box_event ?hg (N := 1) ?hd (cs := #[.int .i64 a0_0, .int .i64 a0_1, .int .i64 a0_2, .int .i64 a0_3, .int .i64 a0_4, .int .i64 a0_5]) (t := 30) ?hr ?_; (case hd => rfl); (case hg => rfl); (case hr => first | (go_simp; done) | (go_simp; rfl)); intro gb187 hg w9 hbox hb; have n0_ := Aside0.mk (below_step (by repeat (first | (with_reducible first | exact HB.out | apply below_alloc | apply pw_below_drewN | apply below_drew1) | exact HB.out)) hb); have n1_ := Aside0.mk (hbox); have n2_ := Aside0.mk ((by rw [hg]; exact (below_size (by repeat (first | (with_reducible first | exact HB.out | apply below_alloc | apply pw_below_drewN | apply below_drew1) | exact HB.out))) : w.heap.size ≤ gb187)); have n3_ := Aside0.mk ((by rw [hg]; exact (below_size (by repeat (first | (with_reducible first | exact HB.out | apply below_alloc | apply pw_below_drewN | apply below_drew1) | exact HB.out))) : w.heap.size ≤ gb187)); clear HB; have HB := n0_; have BK187 := n1_; have GW187 := n2_; have GE187 := n3_; clear n0_ n1_ n2_ n3_; clear hb hbox hg; have hcz10_0 : w9.cell? ⟨gb187, 0, none⟩ = some (.int .i64 a0_0) := (blk_cell BK187.out 0).trans rfl; have hcz10_1 : w9.cell? ⟨gb187, 1, none⟩ = some (.int .i64 a0_1) := (blk_cell BK187.out 1).trans rfl; have hcz10_2 : w9.cell? ⟨gb187, 2, none⟩ = some (.int .i64 a0_2) := (blk_cell BK187.out 2).trans rfl; have hcz10_3 : w9.cell? ⟨gb187, 3, none⟩ = some (.int .i64 a0_3) := (blk_cell BK187.out 3).trans rfl; have hcz10_4 : w9.cell? ⟨gb187, 4, none⟩ = some (.int .i64 a0_4) := (blk_cell BK187.out 4).trans rfl; have hcz10_5 : w9.cell? ⟨gb187, 5, none⟩ = some (.int .i64 a0_5) := (blk_cell BK187.out 5).trans rfl; have hfz10_0 := blk_frozen BK187.out 0; have hfz10_1 := blk_frozen BK187.out 1; have hfz10_2 := blk_frozen BK187.out 2; have hfz10_3 := blk_frozen BK187.out 3; have hfz10_4 := blk_frozen BK187.out 4; have hfz10_5 := blk_frozen BK187.out 5) | (go_at_call 54; (with_reducible refine (impl_digits.calls a0_3 2 t188 _ A2.out).mono ?_); rintro e w' ⟨rfl, ⟨nd, rfl⟩⟩; (try first | exact ⟨rfl, _, World.drewN_drewN _ _ _⟩ | exact ⟨rfl, _, Eq.trans (World.drewN_drewN _ _ _) (congrArg (World.drewN _) (Nat.add_assoc _ _ _))⟩)) | (go_at_call 54; (with_reducible refine (impl_digits.calls a0_4 2 t189 _ A4.out).mono ?_); rintro e w' ⟨rfl, ⟨nd, rfl⟩⟩; (try first | exact ⟨rfl, _, World.drewN_drewN _ _ _⟩ | exact ⟨rfl, _, Eq.trans (World.drewN_drewN _ _ _) (congrArg (World.drewN _) (Nat.add_assoc _ _ _))⟩)) | (go_at_call 54; (with_reducible refine (impl_digits.calls a0_5 2 t190 _ A7.out).mono ?_); rintro e w' ⟨rfl, ⟨nd, rfl⟩⟩; (try first | exact ⟨rfl, _, World.drewN_drewN _ _ _⟩ | exact ⟨rfl, _, Eq.trans (World.drewN_drewN _ _ _) (congrArg (World.drewN _) (Nat.add_assoc _ _ _))⟩)))
 repeat (go_quiet (first | ((with_reducible refine gate_dst (N := 1) rfl ?_); refine box_event ?hg (N := 1) ?hd (cs := #[.int .i64 a0_0, .int .i64 a0_1, .int .i64 a0_2, .int .i64 a0_3, .int .i64 a0_4, .int .i64 a0_5]) (t := 30) ?hr ?_; (case hd => rfl); (case hg => rfl); (case hr => first | (go_simp; done) | (go_simp; rfl)); intro gb187 hg w9 hbox hb; have n0_ := Aside0.mk (below_step (by repeat (first | (with_reducible first | exact HB.out | apply below_alloc | apply pw_below_drewN | apply below_drew1) | exact HB.out)) hb); have n1_ := Aside0.mk (hbox); have n2_ := Aside0.mk ((by rw [hg]; exact (below_size (by repeat (first | (with_reducible first | exact HB.out | apply below_alloc | apply pw_below_drewN | apply below_drew1) | exact HB.out))) : w.heap.size ≤ gb187)); have n3_ := Aside0.mk ((by rw [hg]; exact (below_size (by repeat (first | (with_reducible first | exact HB.out | apply below_alloc | apply pw_below_drewN | apply below_drew1) | exact HB.out))) : w.heap.size ≤ gb187)); clear HB; have HB := n0_; have BK187 := n1_; have GW187 := n2_; have GE187 := n3_; clear n0_ n1_ n2_ n3_; clear hb hbox hg; have hcz10_0 : w9.cell? ⟨gb187, 0, none⟩ = some (.int .i64 a0_0) := (blk_cell BK187.out 0).trans rfl; have hcz10_1 : w9.cell? ⟨gb187, 1, none⟩ = some (.int .i64 a0_1) := (blk_cell BK187.out 1).trans rfl; have hcz10_2 : w9.cell? ⟨gb187, 2, none⟩ = some (.int .i64 a0_2) := (blk_cell BK187.out 2).trans rfl; have hcz10_3 : w9.cell? ⟨gb187, 3, none⟩ = some (.int .i64 a0_3) := (blk_cell BK187.out 3).trans rfl; have hcz10_4 : w9.cell? ⟨gb187, 4, none⟩ = some (.int .i64 a0_4) := (blk_cell BK187.out 4).trans rfl; have hcz10_5 : w9.cell? ⟨gb187, 5, none⟩ = some (.int .i64 a0_5) := (blk_cell BK187.out 5).trans rfl; have hfz10_0 := blk_frozen BK187.out 0; have hfz10_1 := blk_frozen BK187.out 1; have hfz10_2 := blk_frozen BK187.out 2; have hfz10_3 := blk_frozen BK187.out 3; have hfz10_4 := blk_frozen BK187.out 4; have hfz10_5 := blk_frozen BK187.out 5) | (go_at_call 54; (with_reducible refine (impl_digits.calls a0_3 2 t188 _ A2.out).mono ?_); rintro e w' ⟨rfl, ⟨nd, rfl⟩⟩; (try first | exact ⟨rfl, _, World.drewN_drewN _ _ _⟩ | exact ⟨rfl, _, Eq.trans (World.drewN_drewN _ _ _) (congrArg (World.drewN _) (Nat.add_assoc _ _ _))⟩)) | (go_at_call 54; (with_reducible refine (impl_digits.calls a0_4 2 t189 _ A4.out).mono ?_); rintro e w' ⟨rfl, ⟨nd, rfl⟩⟩; (try first | exact ⟨rfl, _, World.drewN_drewN _ _ _⟩ | exact ⟨rfl, _, Eq.trans (World.drewN_drewN _ _ _) (congrArg (World.drewN _) (Nat.add_assoc _ _ _))⟩)) | (go_at_call 54; (with_reducible refine (impl_digits.calls a0_5 2 t190 _ A7.out).mono ?_); rintro e w' ⟨rfl, ⟨nd, rfl⟩⟩; (try first | exact ⟨rfl, _, World.drewN_drewN _ _ _⟩ | exact ⟨rfl, _, Eq.trans (World.drewN_drewN _ _ _) (congrArg (World.drewN _) (Nat.add_assoc _ _ _))⟩))); try go_wp2_with (first | ((with_reducible refine gate_dst (N := 1) rfl ?_); refine box_event ?hg (N := 1) ?hd (cs := #[.int .i64 a0_0, .int .i64 a0_1, .int .i64 a0_2, .int .i64 a0_3, .int .i64 a0_4, .int .i64 a0_5]) (t := 30) ?hr ?_; (case hd => rfl); (case hg => rfl); (case hr => first | (go_simp; done) | (go_simp; rfl)); intro gb187 hg w9 hbox hb; have n0_ := Aside0.mk (below_step (by repeat (first | (with_reducible first | exact HB.out | apply below_alloc | apply pw_below_drewN | apply below_drew1) | exact HB.out)) hb); have n1_ := Aside0.mk (hbox); have n2_ := Aside0.mk ((by rw [hg]; exact (below_size (by repeat (first | (with_reducible first | exact HB.out | apply below_alloc | apply pw_below_drewN | apply below_drew1) | exact HB.out))) : w.heap.size ≤ gb187)); have n3_ := Aside0.mk ((by rw [hg]; exact (below_size (by repeat (first | (with_reducible first | exact HB.out | apply below_alloc | apply pw_below_drewN | apply below_drew1) | exact HB.out))) : w.heap.size ≤ gb187)); clear HB; have HB := n0_; have BK187 := n1_; have GW187 := n2_; have GE187 := n3_; clear n0_ n1_ n2_ n3_; clear hb hbox hg; have hcz10_0 : w9.cell? ⟨gb187, 0, none⟩ = some (.int .i64 a0_0) := (blk_cell BK187.out 0).trans rfl; have hcz10_1 : w9.cell? ⟨gb187, 1, none⟩ = some (.int .i64 a0_1) := (blk_cell BK187.out 1).trans rfl; have hcz10_2 : w9.cell? ⟨gb187, 2, none⟩ = some (.int .i64 a0_2) := (blk_cell BK187.out 2).trans rfl; have hcz10_3 : w9.cell? ⟨gb187, 3, none⟩ = some (.int .i64 a0_3) := (blk_cell BK187.out 3).trans rfl; have hcz10_4 : w9.cell? ⟨gb187, 4, none⟩ = some (.int .i64 a0_4) := (blk_cell BK187.out 4).trans rfl; have hcz10_5 : w9.cell? ⟨gb187, 5, none⟩ = some (.int .i64 a0_5) := (blk_cell BK187.out 5).trans rfl; have hfz10_0 := blk_frozen BK187.out 0; have hfz10_1 := blk_frozen BK187.out 1; have hfz10_2 := blk_frozen BK187.out 2; have hfz10_3 := blk_frozen BK187.out 3; have hfz10_4 := blk_frozen BK187.out 4; have hfz10_5 := blk_frozen BK187.out 5) | (go_at_call 54; (with_reducible refine (impl_digits.calls a0_3 2 t188 _ A2.out).mono ?_); rintro e w' ⟨rfl, ⟨nd, rfl⟩⟩; (try first | exact ⟨rfl, _, World.drewN_drewN _ _ _⟩ | exact ⟨rfl, _, Eq.trans (World.drewN_drewN _ _ _) (congrArg (World.drewN _) (Nat.add_assoc _ _ _))⟩)) | (go_at_call 54; (with_reducible refine (impl_digits.calls a0_4 2 t189 _ A4.out).mono ?_); rintro e w' ⟨rfl, ⟨nd, rfl⟩⟩; (try first | exact ⟨rfl, _, World.drewN_drewN _ _ _⟩ | exact ⟨rfl, _, Eq.trans (World.drewN_drewN _ _ _) (congrArg (World.drewN _) (Nat.add_assoc _ _ _))⟩)) | (go_at_call 54; (with_reducible refine (impl_digits.calls a0_5 2 t190 _ A7.out).mono ?_); rintro e w' ⟨rfl, ⟨nd, rfl⟩⟩; (try first | exact ⟨rfl, _, World.drewN_drewN _ _ _⟩ | exact ⟨rfl, _, Eq.trans (World.drewN_drewN _ _ _) (congrArg (World.drewN _) (Nat.add_assoc _ _ _))⟩))))
 go_ret
 exact ⟨by first | rfl | (simp [errW_none, errW_some] <;> rfl) | (simp [*, errW_none, errW_some] <;> rfl), by repeat (first | (with_reducible first | exact HB.out | apply below_alloc | apply pw_below_drewN | apply below_drew1 | refine below_set ?_ GE187.out) | exact HB.out)⟩

/-! ### impl_HttpDate: function 27 -/
def impl_HttpDate.f (a0 : Int) : Option (ByteArray) := (impl_isTime.f a0).bind fun t191 => (if t191 = true then ((impl_civilOf.f a0).bind fun bt192 => ((impl_days.f).bind fun t199 => ((impl_Weekday.f a0).bind fun t202 => (if 0 ≤ t202 then (if t202 < (t199.length : Int) then (if 0 ≤ 3 then (if 3 ≤ ((rdOf ByteArray.empty t199 t202).size : Int) then (if ((rdOf ByteArray.empty t199 t202).extract 0 3).size + 2 ≤ 9223372036854775807 then ((impl_digits.f bt192.2.2.1 2).bind fun t204 => (if (((rdOf ByteArray.empty t199 t202).extract 0 3) ++ (⟨#[44, 32]⟩ : ByteArray)).size + t204.size ≤ 9223372036854775807 then (if ((((rdOf ByteArray.empty t199 t202).extract 0 3) ++ (⟨#[44, 32]⟩ : ByteArray)) ++ t204).size + 1 ≤ 9223372036854775807 then ((impl_months.f).bind fun t205 => (if 0 ≤ (wrap64 (bt192.2.1 - 1)) then (if (wrap64 (bt192.2.1 - 1)) < (t205.length : Int) then (if (((((rdOf ByteArray.empty t199 t202).extract 0 3) ++ (⟨#[44, 32]⟩ : ByteArray)) ++ t204) ++ (⟨#[32]⟩ : ByteArray)).size + (rdOf ByteArray.empty t205 (wrap64 (bt192.2.1 - 1))).size ≤ 9223372036854775807 then (if ((((((rdOf ByteArray.empty t199 t202).extract 0 3) ++ (⟨#[44, 32]⟩ : ByteArray)) ++ t204) ++ (⟨#[32]⟩ : ByteArray)) ++ (rdOf ByteArray.empty t205 (wrap64 (bt192.2.1 - 1)))).size + 1 ≤ 9223372036854775807 then ((impl_digits.f bt192.1 4).bind fun t209 => (if (((((((rdOf ByteArray.empty t199 t202).extract 0 3) ++ (⟨#[44, 32]⟩ : ByteArray)) ++ t204) ++ (⟨#[32]⟩ : ByteArray)) ++ (rdOf ByteArray.empty t205 (wrap64 (bt192.2.1 - 1)))) ++ (⟨#[32]⟩ : ByteArray)).size + t209.size ≤ 9223372036854775807 then (if ((((((((rdOf ByteArray.empty t199 t202).extract 0 3) ++ (⟨#[44, 32]⟩ : ByteArray)) ++ t204) ++ (⟨#[32]⟩ : ByteArray)) ++ (rdOf ByteArray.empty t205 (wrap64 (bt192.2.1 - 1)))) ++ (⟨#[32]⟩ : ByteArray)) ++ t209).size + 1 ≤ 9223372036854775807 then ((impl_clock.f bt192.1 bt192.2.1 bt192.2.2.1 bt192.2.2.2.1 bt192.2.2.2.2.1 bt192.2.2.2.2.2).bind fun t210 => (if (((((((((rdOf ByteArray.empty t199 t202).extract 0 3) ++ (⟨#[44, 32]⟩ : ByteArray)) ++ t204) ++ (⟨#[32]⟩ : ByteArray)) ++ (rdOf ByteArray.empty t205 (wrap64 (bt192.2.1 - 1)))) ++ (⟨#[32]⟩ : ByteArray)) ++ t209) ++ (⟨#[32]⟩ : ByteArray)).size + t210.size ≤ 9223372036854775807 then (if ((((((((((rdOf ByteArray.empty t199 t202).extract 0 3) ++ (⟨#[44, 32]⟩ : ByteArray)) ++ t204) ++ (⟨#[32]⟩ : ByteArray)) ++ (rdOf ByteArray.empty t205 (wrap64 (bt192.2.1 - 1)))) ++ (⟨#[32]⟩ : ByteArray)) ++ t209) ++ (⟨#[32]⟩ : ByteArray)) ++ t210).size + 4 ≤ 9223372036854775807 then (some (((((((((((rdOf ByteArray.empty t199 t202).extract 0 3) ++ (⟨#[44, 32]⟩ : ByteArray)) ++ t204) ++ (⟨#[32]⟩ : ByteArray)) ++ (rdOf ByteArray.empty t205 (wrap64 (bt192.2.1 - 1)))) ++ (⟨#[32]⟩ : ByteArray)) ++ t209) ++ (⟨#[32]⟩ : ByteArray)) ++ t210) ++ (⟨#[32, 71, 77, 84]⟩ : ByteArray))) else (none)) else (none))) else (none)) else (none))) else (none)) else (none)) else (none)) else (none))) else (none)) else (none))) else (none)) else (none)) else (none)) else (none)) else (none))))) else (some (⟨#[]⟩ : ByteArray)))
def impl_HttpDate.T4 : Bool × List (List Nat × List Nat) := (true, [([], []), ([], []), ([1, 0], [1]), ([0, 2], [0, 2]), ([3], [3]), ([4], [4]), ([5], [5]), ([], []), ([7], [7]), ([8, 2], [8]), ([6, 9], [6, 9]), ([10], [10]), ([9], []), ([], []), ([13], [13]), ([14], [14]), ([12, 15], [12, 15]), ([16], [16]), ([11, 17], [11, 17]), ([18], [18]), ([], []), ([20], [20]), ([21, 12], [21]), ([19, 22], [19, 22]), ([23], [23]), ([], []), ([25, 22], [25]), ([24, 26], [24, 26]), ([27], [27]), ([28, 26, 0, 1, 2, 3, 4, 5, 6, 7, 8, 9, 10, 11, 12, 13, 14, 15, 16, 17, 18, 19, 20, 21, 22, 23, 24, 25, 26, 27, 28], [28])])
def impl_HttpDate.B4 : List Nat := [0, 0, 3, 7, 15, 31, 63, 0, 128, 391, 1023, 2047, 903, 0, 8192, 24576, 62343, 127879, 262143, 524287, 0, 1048576, 3150727, 8388607, 16777215, 0, 40899463, 134217727, 268435455, 536870911]
theorem impl_HttpDate.tab4 : rtab .any (opsOf Tryd.f27 4) = impl_HttpDate.T4 := by kernel_rfl
theorem impl_HttpDate.bits4 : waitsOk impl_HttpDate.T4.2 impl_HttpDate.B4 = true := by kernel_rfl
set_option maxHeartbeats 8000000 in
set_option maxRecDepth 100000 in
theorem impl_HttpDate.calls (a0 : Int) (r : ByteArray) (w : World) (h : impl_HttpDate.f a0 = some r) :
  Calls Tryd.prog 27 #[.int .i64 a0] w fun e w' => e = .returned (.string r) ∧ Below w.heap.size w w' := by
 have hu30 := Tryd.underlying30
 have HB := Aside0.mk (Below.refl w.heap.size w)
 have H : ((impl_isTime.f a0).bind fun t191 => (if t191 = true then ((impl_civilOf.f a0).bind fun bt192 => ((impl_days.f).bind fun t199 => ((impl_Weekday.f a0).bind fun t202 => (if 0 ≤ t202 then (if t202 < (t199.length : Int) then (if 0 ≤ 3 then (if 3 ≤ ((rdOf ByteArray.empty t199 t202).size : Int) then (if ((rdOf ByteArray.empty t199 t202).extract 0 3).size + 2 ≤ 9223372036854775807 then ((impl_digits.f bt192.2.2.1 2).bind fun t204 => (if (((rdOf ByteArray.empty t199 t202).extract 0 3) ++ (⟨#[44, 32]⟩ : ByteArray)).size + t204.size ≤ 9223372036854775807 then (if ((((rdOf ByteArray.empty t199 t202).extract 0 3) ++ (⟨#[44, 32]⟩ : ByteArray)) ++ t204).size + 1 ≤ 9223372036854775807 then ((impl_months.f).bind fun t205 => (if 0 ≤ (wrap64 (bt192.2.1 - 1)) then (if (wrap64 (bt192.2.1 - 1)) < (t205.length : Int) then (if (((((rdOf ByteArray.empty t199 t202).extract 0 3) ++ (⟨#[44, 32]⟩ : ByteArray)) ++ t204) ++ (⟨#[32]⟩ : ByteArray)).size + (rdOf ByteArray.empty t205 (wrap64 (bt192.2.1 - 1))).size ≤ 9223372036854775807 then (if ((((((rdOf ByteArray.empty t199 t202).extract 0 3) ++ (⟨#[44, 32]⟩ : ByteArray)) ++ t204) ++ (⟨#[32]⟩ : ByteArray)) ++ (rdOf ByteArray.empty t205 (wrap64 (bt192.2.1 - 1)))).size + 1 ≤ 9223372036854775807 then ((impl_digits.f bt192.1 4).bind fun t209 => (if (((((((rdOf ByteArray.empty t199 t202).extract 0 3) ++ (⟨#[44, 32]⟩ : ByteArray)) ++ t204) ++ (⟨#[32]⟩ : ByteArray)) ++ (rdOf ByteArray.empty t205 (wrap64 (bt192.2.1 - 1)))) ++ (⟨#[32]⟩ : ByteArray)).size + t209.size ≤ 9223372036854775807 then (if ((((((((rdOf ByteArray.empty t199 t202).extract 0 3) ++ (⟨#[44, 32]⟩ : ByteArray)) ++ t204) ++ (⟨#[32]⟩ : ByteArray)) ++ (rdOf ByteArray.empty t205 (wrap64 (bt192.2.1 - 1)))) ++ (⟨#[32]⟩ : ByteArray)) ++ t209).size + 1 ≤ 9223372036854775807 then ((impl_clock.f bt192.1 bt192.2.1 bt192.2.2.1 bt192.2.2.2.1 bt192.2.2.2.2.1 bt192.2.2.2.2.2).bind fun t210 => (if (((((((((rdOf ByteArray.empty t199 t202).extract 0 3) ++ (⟨#[44, 32]⟩ : ByteArray)) ++ t204) ++ (⟨#[32]⟩ : ByteArray)) ++ (rdOf ByteArray.empty t205 (wrap64 (bt192.2.1 - 1)))) ++ (⟨#[32]⟩ : ByteArray)) ++ t209) ++ (⟨#[32]⟩ : ByteArray)).size + t210.size ≤ 9223372036854775807 then (if ((((((((((rdOf ByteArray.empty t199 t202).extract 0 3) ++ (⟨#[44, 32]⟩ : ByteArray)) ++ t204) ++ (⟨#[32]⟩ : ByteArray)) ++ (rdOf ByteArray.empty t205 (wrap64 (bt192.2.1 - 1)))) ++ (⟨#[32]⟩ : ByteArray)) ++ t209) ++ (⟨#[32]⟩ : ByteArray)) ++ t210).size + 4 ≤ 9223372036854775807 then (some (((((((((((rdOf ByteArray.empty t199 t202).extract 0 3) ++ (⟨#[44, 32]⟩ : ByteArray)) ++ t204) ++ (⟨#[32]⟩ : ByteArray)) ++ (rdOf ByteArray.empty t205 (wrap64 (bt192.2.1 - 1)))) ++ (⟨#[32]⟩ : ByteArray)) ++ t209) ++ (⟨#[32]⟩ : ByteArray)) ++ t210) ++ (⟨#[32, 71, 77, 84]⟩ : ByteArray))) else (none)) else (none))) else (none)) else (none))) else (none)) else (none)) else (none)) else (none))) else (none)) else (none))) else (none)) else (none)) else (none)) else (none)) else (none))))) else (some (⟨#[]⟩ : ByteArray)))) = some r := h
 clear h
 replace H := Option.bind_eq_some_iff.mp H
 obtain ⟨t191, A20, H⟩ := H
 replace H : (if t191 = true then ((impl_civilOf.f a0).bind fun bt192 => ((impl_days.f).bind fun t199 => ((impl_Weekday.f a0).bind fun t202 => (if 0 ≤ t202 then (if t202 < (t199.length : Int) then (if 0 ≤ 3 then (if 3 ≤ ((rdOf ByteArray.empty t199 t202).size : Int) then (if ((rdOf ByteArray.empty t199 t202).extract 0 3).size + 2 ≤ 9223372036854775807 then ((impl_digits.f bt192.2.2.1 2).bind fun t204 => (if (((rdOf ByteArray.empty t199 t202).extract 0 3) ++ (⟨#[44, 32]⟩ : ByteArray)).size + t204.size ≤ 9223372036854775807 then (if ((((rdOf ByteArray.empty t199 t202).extract 0 3) ++ (⟨#[44, 32]⟩ : ByteArray)) ++ t204).size + 1 ≤ 9223372036854775807 then ((impl_months.f).bind fun t205 => (if 0 ≤ (wrap64 (bt192.2.1 - 1)) then (if (wrap64 (bt192.2.1 - 1)) < (t205.length : Int) then (if (((((rdOf ByteArray.empty t199 t202).extract 0 3) ++ (⟨#[44, 32]⟩ : ByteArray)) ++ t204) ++ (⟨#[32]⟩ : ByteArray)).size + (rdOf ByteArray.empty t205 (wrap64 (bt192.2.1 - 1))).size ≤ 9223372036854775807 then (if ((((((rdOf ByteArray.empty t199 t202).extract 0 3) ++ (⟨#[44, 32]⟩ : ByteArray)) ++ t204) ++ (⟨#[32]⟩ : ByteArray)) ++ (rdOf ByteArray.empty t205 (wrap64 (bt192.2.1 - 1)))).size + 1 ≤ 9223372036854775807 then ((impl_digits.f bt192.1 4).bind fun t209 => (if (((((((rdOf ByteArray.empty t199 t202).extract 0 3) ++ (⟨#[44, 32]⟩ : ByteArray)) ++ t204) ++ (⟨#[32]⟩ : ByteArray)) ++ (rdOf ByteArray.empty t205 (wrap64 (bt192.2.1 - 1)))) ++ (⟨#[32]⟩ : ByteArray)).size + t209.size ≤ 9223372036854775807 then (if ((((((((rdOf ByteArray.empty t199 t202).extract 0 3) ++ (⟨#[44, 32]⟩ : ByteArray)) ++ t204) ++ (⟨#[32]⟩ : ByteArray)) ++ (rdOf ByteArray.empty t205 (wrap64 (bt192.2.1 - 1)))) ++ (⟨#[32]⟩ : ByteArray)) ++ t209).size + 1 ≤ 9223372036854775807 then ((impl_clock.f bt192.1 bt192.2.1 bt192.2.2.1 bt192.2.2.2.1 bt192.2.2.2.2.1 bt192.2.2.2.2.2).bind fun t210 => (if (((((((((rdOf ByteArray.empty t199 t202).extract 0 3) ++ (⟨#[44, 32]⟩ : ByteArray)) ++ t204) ++ (⟨#[32]⟩ : ByteArray)) ++ (rdOf ByteArray.empty t205 (wrap64 (bt192.2.1 - 1)))) ++ (⟨#[32]⟩ : ByteArray)) ++ t209) ++ (⟨#[32]⟩ : ByteArray)).size + t210.size ≤ 9223372036854775807 then (if ((((((((((rdOf ByteArray.empty t199 t202).extract 0 3) ++ (⟨#[44, 32]⟩ : ByteArray)) ++ t204) ++ (⟨#[32]⟩ : ByteArray)) ++ (rdOf ByteArray.empty t205 (wrap64 (bt192.2.1 - 1)))) ++ (⟨#[32]⟩ : ByteArray)) ++ t209) ++ (⟨#[32]⟩ : ByteArray)) ++ t210).size + 4 ≤ 9223372036854775807 then (some (((((((((((rdOf ByteArray.empty t199 t202).extract 0 3) ++ (⟨#[44, 32]⟩ : ByteArray)) ++ t204) ++ (⟨#[32]⟩ : ByteArray)) ++ (rdOf ByteArray.empty t205 (wrap64 (bt192.2.1 - 1)))) ++ (⟨#[32]⟩ : ByteArray)) ++ t209) ++ (⟨#[32]⟩ : ByteArray)) ++ t210) ++ (⟨#[32, 71, 77, 84]⟩ : ByteArray))) else (none)) else (none))) else (none)) else (none))) else (none)) else (none)) else (none)) else (none))) else (none)) else (none))) else (none)) else (none)) else (none)) else (none)) else (none))))) else (some (⟨#[]⟩ : ByteArray))) = some r := H
 have A2 := Aside0.mk A20
 clear A20
 by_cases c3 : t191 = true
 ·
  subst c3
  have H1 : ((impl_civilOf.f a0).bind fun bt192 => ((impl_days.f).bind fun t199 => ((impl_Weekday.f a0).bind fun t202 => (if 0 ≤ t202 then (if t202 < (t199.length : Int) then (if 0 ≤ 3 then (if 3 ≤ ((rdOf ByteArray.empty t199 t202).size : Int) then (if ((rdOf ByteArray.empty t199 t202).extract 0 3).size + 2 ≤ 9223372036854775807 then ((impl_digits.f bt192.2.2.1 2).bind fun t204 => (if (((rdOf ByteArray.empty t199 t202).extract 0 3) ++ (⟨#[44, 32]⟩ : ByteArray)).size + t204.size ≤ 9223372036854775807 then (if ((((rdOf ByteArray.empty t199 t202).extract 0 3) ++ (⟨#[44, 32]⟩ : ByteArray)) ++ t204).size + 1 ≤ 9223372036854775807 then ((impl_months.f).bind fun t205 => (if 0 ≤ (wrap64 (bt192.2.1 - 1)) then (if (wrap64 (bt192.2.1 - 1)) < (t205.length : Int) then (if (((((rdOf ByteArray.empty t199 t202).extract 0 3) ++ (⟨#[44, 32]⟩ : ByteArray)) ++ t204) ++ (⟨#[32]⟩ : ByteArray)).size + (rdOf ByteArray.empty t205 (wrap64 (bt192.2.1 - 1))).size ≤ 9223372036854775807 then (if ((((((rdOf ByteArray.empty t199 t202).extract 0 3) ++ (⟨#[44, 32]⟩ : ByteArray)) ++ t204) ++ (⟨#[32]⟩ : ByteArray)) ++ (rdOf ByteArray.empty t205 (wrap64 (bt192.2.1 - 1)))).size + 1 ≤ 9223372036854775807 then ((impl_digits.f bt192.1 4).bind fun t209 => (if (((((((rdOf ByteArray.empty t199 t202).extract 0 3) ++ (⟨#[44, 32]⟩ : ByteArray)) ++ t204) ++ (⟨#[32]⟩ : ByteArray)) ++ (rdOf ByteArray.empty t205 (wrap64 (bt192.2.1 - 1)))) ++ (⟨#[32]⟩ : ByteArray)).size + t209.size ≤ 9223372036854775807 then (if ((((((((rdOf ByteArray.empty t199 t202).extract 0 3) ++ (⟨#[44, 32]⟩ : ByteArray)) ++ t204) ++ (⟨#[32]⟩ : ByteArray)) ++ (rdOf ByteArray.empty t205 (wrap64 (bt192.2.1 - 1)))) ++ (⟨#[32]⟩ : ByteArray)) ++ t209).size + 1 ≤ 9223372036854775807 then ((impl_clock.f bt192.1 bt192.2.1 bt192.2.2.1 bt192.2.2.2.1 bt192.2.2.2.2.1 bt192.2.2.2.2.2).bind fun t210 => (if (((((((((rdOf ByteArray.empty t199 t202).extract 0 3) ++ (⟨#[44, 32]⟩ : ByteArray)) ++ t204) ++ (⟨#[32]⟩ : ByteArray)) ++ (rdOf ByteArray.empty t205 (wrap64 (bt192.2.1 - 1)))) ++ (⟨#[32]⟩ : ByteArray)) ++ t209) ++ (⟨#[32]⟩ : ByteArray)).size + t210.size ≤ 9223372036854775807 then (if ((((((((((rdOf ByteArray.empty t199 t202).extract 0 3) ++ (⟨#[44, 32]⟩ : ByteArray)) ++ t204) ++ (⟨#[32]⟩ : ByteArray)) ++ (rdOf ByteArray.empty t205 (wrap64 (bt192.2.1 - 1)))) ++ (⟨#[32]⟩ : ByteArray)) ++ t209) ++ (⟨#[32]⟩ : ByteArray)) ++ t210).size + 4 ≤ 9223372036854775807 then (some (((((((((((rdOf ByteArray.empty t199 t202).extract 0 3) ++ (⟨#[44, 32]⟩ : ByteArray)) ++ t204) ++ (⟨#[32]⟩ : ByteArray)) ++ (rdOf ByteArray.empty t205 (wrap64 (bt192.2.1 - 1)))) ++ (⟨#[32]⟩ : ByteArray)) ++ t209) ++ (⟨#[32]⟩ : ByteArray)) ++ t210) ++ (⟨#[32, 71, 77, 84]⟩ : ByteArray))) else (none)) else (none))) else (none)) else (none))) else (none)) else (none)) else (none)) else (none))) else (none)) else (none))) else (none)) else (none)) else (none)) else (none)) else (none))))) = some r := by rw [if_pos rfl] at H; exact H
  clear H
  have H := H1
  clear H1
  replace H := Option.bind_eq_some_iff.mp H
  obtain ⟨⟨t192, t193, t194, t195, t196, t197⟩, A40, H⟩ := H
  replace H : ((impl_days.f).bind fun t199 => ((impl_Weekday.f a0).bind fun t202 => (if 0 ≤ t202 then (if t202 < (t199.length : Int) then (if 0 ≤ 3 then (if 3 ≤ ((rdOf ByteArray.empty t199 t202).size : Int) then (if ((rdOf ByteArray.empty t199 t202).extract 0 3).size + 2 ≤ 9223372036854775807 then ((impl_digits.f t194 2).bind fun t204 => (if (((rdOf ByteArray.empty t199 t202).extract 0 3) ++ (⟨#[44, 32]⟩ : ByteArray)).size + t204.size ≤ 9223372036854775807 then (if ((((rdOf ByteArray.empty t199 t202).extract 0 3) ++ (⟨#[44, 32]⟩ : ByteArray)) ++ t204).size + 1 ≤ 9223372036854775807 then ((impl_months.f).bind fun t205 => (if 0 ≤ (wrap64 (t193 - 1)) then (if (wrap64 (t193 - 1)) < (t205.length : Int) then (if (((((rdOf ByteArray.empty t199 t202).extract 0 3) ++ (⟨#[44, 32]⟩ : ByteArray)) ++ t204) ++ (⟨#[32]⟩ : ByteArray)).size + (rdOf ByteArray.empty t205 (wrap64 (t193 - 1))).size ≤ 9223372036854775807 then (if ((((((rdOf ByteArray.empty t199 t202).extract 0 3) ++ (⟨#[44, 32]⟩ : ByteArray)) ++ t204) ++ (⟨#[32]⟩ : ByteArray)) ++ (rdOf ByteArray.empty t205 (wrap64 (t193 - 1)))).size + 1 ≤ 9223372036854775807 then ((impl_digits.f t192 4).bind fun t209 => (if (((((((rdOf ByteArray.empty t199 t202).extract 0 3) ++ (⟨#[44, 32]⟩ : ByteArray)) ++ t204) ++ (⟨#[32]⟩ : ByteArray)) ++ (rdOf ByteArray.empty t205 (wrap64 (t193 - 1)))) ++ (⟨#[32]⟩ : ByteArray)).size + t209.size ≤ 9223372036854775807 then (if ((((((((rdOf ByteArray.empty t199 t202).extract 0 3) ++ (⟨#[44, 32]⟩ : ByteArray)) ++ t204) ++ (⟨#[32]⟩ : ByteArray)) ++ (rdOf ByteArray.empty t205 (wrap64 (t193 - 1)))) ++ (⟨#[32]⟩ : ByteArray)) ++ t209).size + 1 ≤ 9223372036854775807 then ((impl_clock.f t192 t193 t194 t195 t196 t197).bind fun t210 => (if (((((((((rdOf ByteArray.empty t199 t202).extract 0 3) ++ (⟨#[44, 32]⟩ : ByteArray)) ++ t204) ++ (⟨#[32]⟩ : ByteArray)) ++ (rdOf ByteArray.empty t205 (wrap64 (t193 - 1)))) ++ (⟨#[32]⟩ : ByteArray)) ++ t209) ++ (⟨#[32]⟩ : ByteArray)).size + t210.size ≤ 9223372036854775807 then (if ((((((((((rdOf ByteArray.empty t199 t202).extract 0 3) ++ (⟨#[44, 32]⟩ : ByteArray)) ++ t204) ++ (⟨#[32]⟩ : ByteArray)) ++ (rdOf ByteArray.empty t205 (wrap64 (t193 - 1)))) ++ (⟨#[32]⟩ : ByteArray)) ++ t209) ++ (⟨#[32]⟩ : ByteArray)) ++ t210).size + 4 ≤ 9223372036854775807 then (some (((((((((((rdOf ByteArray.empty t199 t202).extract 0 3) ++ (⟨#[44, 32]⟩ : ByteArray)) ++ t204) ++ (⟨#[32]⟩ : ByteArray)) ++ (rdOf ByteArray.empty t205 (wrap64 (t193 - 1)))) ++ (⟨#[32]⟩ : ByteArray)) ++ t209) ++ (⟨#[32]⟩ : ByteArray)) ++ t210) ++ (⟨#[32, 71, 77, 84]⟩ : ByteArray))) else (none)) else (none))) else (none)) else (none))) else (none)) else (none)) else (none)) else (none))) else (none)) else (none))) else (none)) else (none)) else (none)) else (none)) else (none)))) = some r := H
  have A4 := Aside0.mk A40
  clear A40
  replace H := Option.bind_eq_some_iff.mp H
  obtain ⟨t199, A50, H⟩ := H
  replace H : ((impl_Weekday.f a0).bind fun t202 => (if 0 ≤ t202 then (if t202 < (t199.length : Int) then (if 0 ≤ 3 then (if 3 ≤ ((rdOf ByteArray.empty t199 t202).size : Int) then (if ((rdOf ByteArray.empty t199 t202).extract 0 3).size + 2 ≤ 9223372036854775807 then ((impl_digits.f t194 2).bind fun t204 => (if (((rdOf ByteArray.empty t199 t202).extract 0 3) ++ (⟨#[44, 32]⟩ : ByteArray)).size + t204.size ≤ 9223372036854775807 then (if ((((rdOf ByteArray.empty t199 t202).extract 0 3) ++ (⟨#[44, 32]⟩ : ByteArray)) ++ t204).size + 1 ≤ 9223372036854775807 then ((impl_months.f).bind fun t205 => (if 0 ≤ (wrap64 (t193 - 1)) then (if (wrap64 (t193 - 1)) < (t205.length : Int) then (if (((((rdOf ByteArray.empty t199 t202).extract 0 3) ++ (⟨#[44, 32]⟩ : ByteArray)) ++ t204) ++ (⟨#[32]⟩ : ByteArray)).size + (rdOf ByteArray.empty t205 (wrap64 (t193 - 1))).size ≤ 9223372036854775807 then (if ((((((rdOf ByteArray.empty t199 t202).extract 0 3) ++ (⟨#[44, 32]⟩ : ByteArray)) ++ t204) ++ (⟨#[32]⟩ : ByteArray)) ++ (rdOf ByteArray.empty t205 (wrap64 (t193 - 1)))).size + 1 ≤ 9223372036854775807 then ((impl_digits.f t192 4).bind fun t209 => (if (((((((rdOf ByteArray.empty t199 t202).extract 0 3) ++ (⟨#[44, 32]⟩ : ByteArray)) ++ t204) ++ (⟨#[32]⟩ : ByteArray)) ++ (rdOf ByteArray.empty t205 (wrap64 (t193 - 1)))) ++ (⟨#[32]⟩ : ByteArray)).size + t209.size ≤ 9223372036854775807 then (if ((((((((rdOf ByteArray.empty t199 t202).extract 0 3) ++ (⟨#[44, 32]⟩ : ByteArray)) ++ t204) ++ (⟨#[32]⟩ : ByteArray)) ++ (rdOf ByteArray.empty t205 (wrap64 (t193 - 1)))) ++ (⟨#[32]⟩ : ByteArray)) ++ t209).size + 1 ≤ 9223372036854775807 then ((impl_clock.f t192 t193 t194 t195 t196 t197).bind fun t210 => (if (((((((((rdOf ByteArray.empty t199 t202).extract 0 3) ++ (⟨#[44, 32]⟩ : ByteArray)) ++ t204) ++ (⟨#[32]⟩ : ByteArray)) ++ (rdOf ByteArray.empty t205 (wrap64 (t193 - 1)))) ++ (⟨#[32]⟩ : ByteArray)) ++ t209) ++ (⟨#[32]⟩ : ByteArray)).size + t210.size ≤ 9223372036854775807 then (if ((((((((((rdOf ByteArray.empty t199 t202).extract 0 3) ++ (⟨#[44, 32]⟩ : ByteArray)) ++ t204) ++ (⟨#[32]⟩ : ByteArray)) ++ (rdOf ByteArray.empty t205 (wrap64 (t193 - 1)))) ++ (⟨#[32]⟩ : ByteArray)) ++ t209) ++ (⟨#[32]⟩ : ByteArray)) ++ t210).size + 4 ≤ 9223372036854775807 then (some (((((((((((rdOf ByteArray.empty t199 t202).extract 0 3) ++ (⟨#[44, 32]⟩ : ByteArray)) ++ t204) ++ (⟨#[32]⟩ : ByteArray)) ++ (rdOf ByteArray.empty t205 (wrap64 (t193 - 1)))) ++ (⟨#[32]⟩ : ByteArray)) ++ t209) ++ (⟨#[32]⟩ : ByteArray)) ++ t210) ++ (⟨#[32, 71, 77, 84]⟩ : ByteArray))) else (none)) else (none))) else (none)) else (none))) else (none)) else (none)) else (none)) else (none))) else (none)) else (none))) else (none)) else (none)) else (none)) else (none)) else (none))) = some r := H
  have A5 := Aside0.mk A50
  clear A50
  replace H := Option.bind_eq_some_iff.mp H
  obtain ⟨t202, A60, H⟩ := H
  replace H : (if 0 ≤ t202 then (if t202 < (t199.length : Int) then (if 0 ≤ 3 then (if 3 ≤ ((rdOf ByteArray.empty t199 t202).size : Int) then (if ((rdOf ByteArray.empty t199 t202).extract 0 3).size + 2 ≤ 9223372036854775807 then ((impl_digits.f t194 2).bind fun t204 => (if (((rdOf ByteArray.empty t199 t202).extract 0 3) ++ (⟨#[44, 32]⟩ : ByteArray)).size + t204.size ≤ 9223372036854775807 then (if ((((rdOf ByteArray.empty t199 t202).extract 0 3) ++ (⟨#[44, 32]⟩ : ByteArray)) ++ t204).size + 1 ≤ 9223372036854775807 then ((impl_months.f).bind fun t205 => (if 0 ≤ (wrap64 (t193 - 1)) then (if (wrap64 (t193 - 1)) < (t205.length : Int) then (if (((((rdOf ByteArray.empty t199 t202).extract 0 3) ++ (⟨#[44, 32]⟩ : ByteArray)) ++ t204) ++ (⟨#[32]⟩ : ByteArray)).size + (rdOf ByteArray.empty t205 (wrap64 (t193 - 1))).size ≤ 9223372036854775807 then (if ((((((rdOf ByteArray.empty t199 t202).extract 0 3) ++ (⟨#[44, 32]⟩ : ByteArray)) ++ t204) ++ (⟨#[32]⟩ : ByteArray)) ++ (rdOf ByteArray.empty t205 (wrap64 (t193 - 1)))).size + 1 ≤ 9223372036854775807 then ((impl_digits.f t192 4).bind fun t209 => (if (((((((rdOf ByteArray.empty t199 t202).extract 0 3) ++ (⟨#[44, 32]⟩ : ByteArray)) ++ t204) ++ (⟨#[32]⟩ : ByteArray)) ++ (rdOf ByteArray.empty t205 (wrap64 (t193 - 1)))) ++ (⟨#[32]⟩ : ByteArray)).size + t209.size ≤ 9223372036854775807 then (if ((((((((rdOf ByteArray.empty t199 t202).extract 0 3) ++ (⟨#[44, 32]⟩ : ByteArray)) ++ t204) ++ (⟨#[32]⟩ : ByteArray)) ++ (rdOf ByteArray.empty t205 (wrap64 (t193 - 1)))) ++ (⟨#[32]⟩ : ByteArray)) ++ t209).size + 1 ≤ 9223372036854775807 then ((impl_clock.f t192 t193 t194 t195 t196 t197).bind fun t210 => (if (((((((((rdOf ByteArray.empty t199 t202).extract 0 3) ++ (⟨#[44, 32]⟩ : ByteArray)) ++ t204) ++ (⟨#[32]⟩ : ByteArray)) ++ (rdOf ByteArray.empty t205 (wrap64 (t193 - 1)))) ++ (⟨#[32]⟩ : ByteArray)) ++ t209) ++ (⟨#[32]⟩ : ByteArray)).size + t210.size ≤ 9223372036854775807 then (if ((((((((((rdOf ByteArray.empty t199 t202).extract 0 3) ++ (⟨#[44, 32]⟩ : ByteArray)) ++ t204) ++ (⟨#[32]⟩ : ByteArray)) ++ (rdOf ByteArray.empty t205 (wrap64 (t193 - 1)))) ++ (⟨#[32]⟩ : ByteArray)) ++ t209) ++ (⟨#[32]⟩ : ByteArray)) ++ t210).size + 4 ≤ 9223372036854775807 then (some (((((((((((rdOf ByteArray.empty t199 t202).extract 0 3) ++ (⟨#[44, 32]⟩ : ByteArray)) ++ t204) ++ (⟨#[32]⟩ : ByteArray)) ++ (rdOf ByteArray.empty t205 (wrap64 (t193 - 1)))) ++ (⟨#[32]⟩ : ByteArray)) ++ t209) ++ (⟨#[32]⟩ : ByteArray)) ++ t210) ++ (⟨#[32, 71, 77, 84]⟩ : ByteArray))) else (none)) else (none))) else (none)) else (none))) else (none)) else (none)) else (none)) else (none))) else (none)) else (none))) else (none)) else (none)) else (none)) else (none)) else (none)) = some r := H
  have A6 := Aside0.mk A60
  clear A60
  have c7 : 0 ≤ t202 := Classical.byContradiction fun h_ => by rw [if_neg h_] at H; exact absurd H (by simp)
  rw [if_pos c7] at H
  have c7b0 : decide (0 ≤ t202) = true := decide_eq_true c7
  clear c7
  have c8 : t202 < (t199.length : Int) := Classical.byContradiction fun h_ => by rw [if_neg h_] at H; exact absurd H (by simp)
  rw [if_pos c8] at H
  have c8b0 : decide (t202 < (t199.length : Int)) = true := decide_eq_true c8
  clear c8
  have c9 : 0 ≤ 3 := Classical.byContradiction fun h_ => by rw [if_neg h_] at H; exact absurd H (by simp)
  rw [if_pos c9] at H
  have c9b0 := eq_true c9
  have c9b1 : decide (0 ≤ 3) = true := decide_eq_true c9
  clear c9
  have c10 : 3 ≤ ((rdOf ByteArray.empty t199 t202).size : Int) := Classical.byContradiction fun h_ => by rw [if_neg h_] at H; exact absurd H (by simp)
  rw [if_pos c10] at H
  have c10b0 := eq_true c10
  have c10b1 : decide (3 ≤ ((rdOf ByteArray.empty t199 t202).size : Int)) = true := decide_eq_true c10
  clear c10
  have c11 : ((rdOf ByteArray.empty t199 t202).extract 0 3).size + 2 ≤ 9223372036854775807 := Classical.byContradiction fun h_ => by rw [if_neg h_] at H; exact absurd H (by simp)
  rw [if_pos c11] at H
  have c11b0 := eq_true c11
  have c11b1 : decide (((rdOf ByteArray.empty t199 t202).extract 0 3).size + 2 ≤ 9223372036854775807) = true := decide_eq_true c11
  try have c11b2 : (9223372036854775807 < ((rdOf ByteArray.empty t199 t202).extract 0 3).size + 2) = False := eq_false (Nat.not_lt.2 c11)
  (try (have c11v2 : (9223372036854775807 < min 3 (rdOf ByteArray.empty t199 t202).size + 2) = False := eq_false (by have h_ := c11; simp only [ByteArray.size_append, ByteArray.size_extract] at h_; omega)))
  replace H := Option.bind_eq_some_iff.mp H
  obtain ⟨t204, A120, H⟩ := H
  replace H : (if (((rdOf ByteArray.empty t199 t202).extract 0 3) ++ (⟨#[44, 32]⟩ : ByteArray)).size + t204.size ≤ 9223372036854775807 then (if ((((rdOf ByteArray.empty t199 t202).extract 0 3) ++ (⟨#[44, 32]⟩ : ByteArray)) ++ t204).size + 1 ≤ 9223372036854775807 then ((impl_months.f).bind fun t205 => (if 0 ≤ (wrap64 (t193 - 1)) then (if (wrap64 (t193 - 1)) < (t205.length : Int) then (if (((((rdOf ByteArray.empty t199 t202).extract 0 3) ++ (⟨#[44, 32]⟩ : ByteArray)) ++ t204) ++ (⟨#[32]⟩ : ByteArray)).size + (rdOf ByteArray.empty t205 (wrap64 (t193 - 1))).size ≤ 9223372036854775807 then (if ((((((rdOf ByteArray.empty t199 t202).extract 0 3) ++ (⟨#[44, 32]⟩ : ByteArray)) ++ t204) ++ (⟨#[32]⟩ : ByteArray)) ++ (rdOf ByteArray.empty t205 (wrap64 (t193 - 1)))).size + 1 ≤ 9223372036854775807 then ((impl_digits.f t192 4).bind fun t209 => (if (((((((rdOf ByteArray.empty t199 t202).extract 0 3) ++ (⟨#[44, 32]⟩ : ByteArray)) ++ t204) ++ (⟨#[32]⟩ : ByteArray)) ++ (rdOf ByteArray.empty t205 (wrap64 (t193 - 1)))) ++ (⟨#[32]⟩ : ByteArray)).size + t209.size ≤ 9223372036854775807 then (if ((((((((rdOf ByteArray.empty t199 t202).extract 0 3) ++ (⟨#[44, 32]⟩ : ByteArray)) ++ t204) ++ (⟨#[32]⟩ : ByteArray)) ++ (rdOf ByteArray.empty t205 (wrap64 (t193 - 1)))) ++ (⟨#[32]⟩ : ByteArray)) ++ t209).size + 1 ≤ 9223372036854775807 then ((impl_clock.f t192 t193 t194 t195 t196 t197).bind fun t210 => (if (((((((((rdOf ByteArray.empty t199 t202).extract 0 3) ++ (⟨#[44, 32]⟩ : ByteArray)) ++ t204) ++ (⟨#[32]⟩ : ByteArray)) ++ (rdOf ByteArray.empty t205 (wrap64 (t193 - 1)))) ++ (⟨#[32]⟩ : ByteArray)) ++ t209) ++ (⟨#[32]⟩ : ByteArray)).size + t210.size ≤ 9223372036854775807 then (if ((((((((((rdOf ByteArray.empty t199 t202).extract 0 3) ++ (⟨#[44, 32]⟩ : ByteArray)) ++ t204) ++ (⟨#[32]⟩ : ByteArray)) ++ (rdOf ByteArray.empty t205 (wrap64 (t193 - 1)))) ++ (⟨#[32]⟩ : ByteArray)) ++ t209) ++ (⟨#[32]⟩ : ByteArray)) ++ t210).size + 4 ≤ 9223372036854775807 then (some (((((((((((rdOf ByteArray.empty t199 t202).extract 0 3) ++ (⟨#[44, 32]⟩ : ByteArray)) ++ t204) ++ (⟨#[32]⟩ : ByteArray)) ++ (rdOf ByteArray.empty t205 (wrap64 (t193 - 1)))) ++ (⟨#[32]⟩ : ByteArray)) ++ t209) ++ (⟨#[32]⟩ : ByteArray)) ++ t210) ++ (⟨#[32, 71, 77, 84]⟩ : ByteArray))) else (none)) else (none))) else (none)) else (none))) else (none)) else (none)) else (none)) else (none))) else (none)) else (none)) = some r := H
  have A12 := Aside0.mk A120
  clear A120
  have c13 : (((rdOf ByteArray.empty t199 t202).extract 0 3) ++ (⟨#[44, 32]⟩ : ByteArray)).size + t204.size ≤ 9223372036854775807 := Classical.byContradiction fun h_ => by rw [if_neg h_] at H; exact absurd H (by simp)
  rw [if_pos c13] at H
  have c13b0 := eq_true c13
  have c13b1 : decide ((((rdOf ByteArray.empty t199 t202).extract 0 3) ++ (⟨#[44, 32]⟩ : ByteArray)).size + t204.size ≤ 9223372036854775807) = true := decide_eq_true c13
  try have c13b2 : (9223372036854775807 < (((rdOf ByteArray.empty t199 t202).extract 0 3) ++ (⟨#[44, 32]⟩ : ByteArray)).size + t204.size) = False := eq_false (Nat.not_lt.2 c13)
  (try (have c13v2 : (9223372036854775807 < (min 3 (rdOf ByteArray.empty t199 t202).size + 2) + t204.size) = False := eq_false (by have h_ := c13; simp only [ByteArray.size_append, ByteArray.size_extract, show (⟨#[44, 32]⟩ : ByteArray).size = 2 from rfl] at h_; omega)))
  (try (have c13y0 := c13b0; simp only [ByteArray.size_append] at c13y0))
  (try (have c13z0 := c13b0; simp only [ByteArray.size_append, Int.natCast_add] at c13z0))
  (try (have c13y1 := c13b1; simp only [ByteArray.size_append] at c13y1))
  (try (have c13z1 := c13b1; simp only [ByteArray.size_append, Int.natCast_add] at c13z1))
  have c14 : ((((rdOf ByteArray.empty t199 t202).extract 0 3) ++ (⟨#[44, 32]⟩ : ByteArray)) ++ t204).size + 1 ≤ 9223372036854775807 := Classical.byContradiction fun h_ => by rw [if_neg h_] at H; exact absurd H (by simp)
  rw [if_pos c14] at H
  have c14b0 := eq_true c14
  have c14b1 : decide (((((rdOf ByteArray.empty t199 t202).extract 0 3) ++ (⟨#[44, 32]⟩ : ByteArray)) ++ t204).size + 1 ≤ 9223372036854775807) = true := decide_eq_true c14
  try have c14b2 : (9223372036854775807 < ((((rdOf ByteArray.empty t199 t202).extract 0 3) ++ (⟨#[44, 32]⟩ : ByteArray)) ++ t204).size + 1) = False := eq_false (Nat.not_lt.2 c14)
  (try (have c14v2 : (9223372036854775807 < ((min 3 (rdOf ByteArray.empty t199 t202).size + 2) + t204.size) + 1) = False := eq_false (by have h_ := c14; simp only [ByteArray.size_append, ByteArray.size_extract, show (⟨#[44, 32]⟩ : ByteArray).size = 2 from rfl] at h_; omega)))
  (try (have c14y0 := c14b0; simp only [ByteArray.size_append] at c14y0))
  (try (have c14z0 := c14b0; simp only [ByteArray.size_append, Int.natCast_add] at c14z0))
  (try (have c14y1 := c14b1; simp only [ByteArray.size_append] at c14y1))
  (try (have c14z1 := c14b1; simp only [ByteArray.size_append, Int.natCast_add] at c14z1))
  replace H := Option.bind_eq_some_iff.mp H
  obtain ⟨t205, A150, H⟩ := H
  replace H : (if 0 ≤ (wrap64 (t193 - 1)) then (if (wrap64 (t193 - 1)) < (t205.length : Int) then (if (((((rdOf ByteArray.empty t199 t202).extract 0 3) ++ (⟨#[44, 32]⟩ : ByteArray)) ++ t204) ++ (⟨#[32]⟩ : ByteArray)).size + (rdOf ByteArray.empty t205 (wrap64 (t193 - 1))).size ≤ 9223372036854775807 then (if ((((((rdOf ByteArray.empty t199 t202).extract 0 3) ++ (⟨#[44, 32]⟩ : ByteArray)) ++ t204) ++ (⟨#[32]⟩ : ByteArray)) ++ (rdOf ByteArray.empty t205 (wrap64 (t193 - 1)))).size + 1 ≤ 9223372036854775807 then ((impl_digits.f t192 4).bind fun t209 => (if (((((((rdOf ByteArray.empty t199 t202).extract 0 3) ++ (⟨#[44, 32]⟩ : ByteArray)) ++ t204) ++ (⟨#[32]⟩ : ByteArray)) ++ (rdOf ByteArray.empty t205 (wrap64 (t193 - 1)))) ++ (⟨#[32]⟩ : ByteArray)).size + t209.size ≤ 9223372036854775807 then (if ((((((((rdOf ByteArray.empty t199 t202).extract 0 3) ++ (⟨#[44, 32]⟩ : ByteArray)) ++ t204) ++ (⟨#[32]⟩ : ByteArray)) ++ (rdOf ByteArray.empty t205 (wrap64 (t193 - 1)))) ++ (⟨#[32]⟩ : ByteArray)) ++ t209).size + 1 ≤ 9223372036854775807 then ((impl_clock.f t192 t193 t194 t195 t196 t197).bind fun t210 => (if (((((((((rdOf ByteArray.empty t199 t202).extract 0 3) ++ (⟨#[44, 32]⟩ : ByteArray)) ++ t204) ++ (⟨#[32]⟩ : ByteArray)) ++ (rdOf ByteArray.empty t205 (wrap64 (t193 - 1)))) ++ (⟨#[32]⟩ : ByteArray)) ++ t209) ++ (⟨#[32]⟩ : ByteArray)).size + t210.size ≤ 9223372036854775807 then (if ((((((((((rdOf ByteArray.empty t199 t202).extract 0 3) ++ (⟨#[44, 32]⟩ : ByteArray)) ++ t204) ++ (⟨#[32]⟩ : ByteArray)) ++ (rdOf ByteArray.empty t205 (wrap64 (t193 - 1)))) ++ (⟨#[32]⟩ : ByteArray)) ++ t209) ++ (⟨#[32]⟩ : ByteArray)) ++ t210).size + 4 ≤ 9223372036854775807 then (some (((((((((((rdOf ByteArray.empty t199 t202).extract 0 3) ++ (⟨#[44, 32]⟩ : ByteArray)) ++ t204) ++ (⟨#[32]⟩ : ByteArray)) ++ (rdOf ByteArray.empty t205 (wrap64 (t193 - 1)))) ++ (⟨#[32]⟩ : ByteArray)) ++ t209) ++ (⟨#[32]⟩ : ByteArray)) ++ t210) ++ (⟨#[32, 71, 77, 84]⟩ : ByteArray))) else (none)) else (none))) else (none)) else (none))) else (none)) else (none)) else (none)) else (none)) = some r := H
  have A15 := Aside0.mk A150
  clear A150
  obtain ⟨ji16, hji16⟩ : ∃ j_ : Int, (wrap64 (t193 - 1)) = j_ := ⟨_, rfl⟩
  replace H : (if 0 ≤ (ji16) then (if (ji16) < (t205.length : Int) then (if (((((rdOf ByteArray.empty t199 t202).extract 0 3) ++ (⟨#[44, 32]⟩ : ByteArray)) ++ t204) ++ (⟨#[32]⟩ : ByteArray)).size + (rdOf ByteArray.empty t205 (ji16)).size ≤ 9223372036854775807 then (if ((((((rdOf ByteArray.empty t199 t202).extract 0 3) ++ (⟨#[44, 32]⟩ : ByteArray)) ++ t204) ++ (⟨#[32]⟩ : ByteArray)) ++ (rdOf ByteArray.empty t205 (ji16))).size + 1 ≤ 9223372036854775807 then ((impl_digits.f t192 4).bind fun t209 => (if (((((((rdOf ByteArray.empty t199 t202).extract 0 3) ++ (⟨#[44, 32]⟩ : ByteArray)) ++ t204) ++ (⟨#[32]⟩ : ByteArray)) ++ (rdOf ByteArray.empty t205 (ji16))) ++ (⟨#[32]⟩ : ByteArray)).size + t209.size ≤ 9223372036854775807 then (if ((((((((rdOf ByteArray.empty t199 t202).extract 0 3) ++ (⟨#[44, 32]⟩ : ByteArray)) ++ t204) ++ (⟨#[32]⟩ : ByteArray)) ++ (rdOf ByteArray.empty t205 (ji16))) ++ (⟨#[32]⟩ : ByteArray)) ++ t209).size + 1 ≤ 9223372036854775807 then ((impl_clock.f t192 t193 t194 t195 t196 t197).bind fun t210 => (if (((((((((rdOf ByteArray.empty t199 t202).extract 0 3) ++ (⟨#[44, 32]⟩ : ByteArray)) ++ t204) ++ (⟨#[32]⟩ : ByteArray)) ++ (rdOf ByteArray.empty t205 (ji16))) ++ (⟨#[32]⟩ : ByteArray)) ++ t209) ++ (⟨#[32]⟩ : ByteArray)).size + t210.size ≤ 9223372036854775807 then (if ((((((((((rdOf ByteArray.empty t199 t202).extract 0 3) ++ (⟨#[44, 32]⟩ : ByteArray)) ++ t204) ++ (⟨#[32]⟩ : ByteArray)) ++ (rdOf ByteArray.empty t205 (ji16))) ++ (⟨#[32]⟩ : ByteArray)) ++ t209) ++ (⟨#[32]⟩ : ByteArray)) ++ t210).size + 4 ≤ 9223372036854775807 then (some (((((((((((rdOf ByteArray.empty t199 t202).extract 0 3) ++ (⟨#[44, 32]⟩ : ByteArray)) ++ t204) ++ (⟨#[32]⟩ : ByteArray)) ++ (rdOf ByteArray.empty t205 (ji16))) ++ (⟨#[32]⟩ : ByteArray)) ++ t209) ++ (⟨#[32]⟩ : ByteArray)) ++ t210) ++ (⟨#[32, 71, 77, 84]⟩ : ByteArray))) else (none)) else (none))) else (none)) else (none))) else (none)) else (none)) else (none)) else (none)) = some r := by first | (rw [hji16] at H; exact H) | (simp only [hji16] at H ⊢; exact H)
  (try rw [hji16] at A2)
  (try rw [hji16] at A4)
  (try rw [hji16] at A5)
  (try rw [hji16] at A6)
  (try rw [hji16] at A12)
  (try rw [hji16] at A15)
  have hji16w : (IntKind.i64.wrap (t193 - 1)) = ji16 := (i64_w _).trans hji16
  have c17 : 0 ≤ (ji16) := Classical.byContradiction fun h_ => by rw [if_neg h_] at H; exact absurd H (by simp)
  rw [if_pos c17] at H
  have c17b0 : decide (0 ≤ (ji16)) = true := decide_eq_true c17
  clear c17
  have c18 : (ji16) < (t205.length : Int) := Classical.byContradiction fun h_ => by rw [if_neg h_] at H; exact absurd H (by simp)
  rw [if_pos c18] at H
  have c18b0 : decide ((ji16) < (t205.length : Int)) = true := decide_eq_true c18
  clear c18
  have c19 : (((((rdOf ByteArray.empty t199 t202).extract 0 3) ++ (⟨#[44, 32]⟩ : ByteArray)) ++ t204) ++ (⟨#[32]⟩ : ByteArray)).size + (rdOf ByteArray.empty t205 (ji16)).size ≤ 9223372036854775807 := Classical.byContradiction fun h_ => by rw [if_neg h_] at H; exact absurd H (by simp)
  rw [if_pos c19] at H
  have c19b0 := eq_true c19
  have c19b1 : decide ((((((rdOf ByteArray.empty t199 t202).extract 0 3) ++ (⟨#[44, 32]⟩ : ByteArray)) ++ t204) ++ (⟨#[32]⟩ : ByteArray)).size + (rdOf ByteArray.empty t205 (ji16)).size ≤ 9223372036854775807) = true := decide_eq_true c19
  try have c19b2 : (9223372036854775807 < (((((rdOf ByteArray.empty t199 t202).extract 0 3) ++ (⟨#[44, 32]⟩ : ByteArray)) ++ t204) ++ (⟨#[32]⟩ : ByteArray)).size + (rdOf ByteArray.empty t205 (ji16)).size) = False := eq_false (Nat.not_lt.2 c19)
  (try (have c19v2 : (9223372036854775807 < (((min 3 (rdOf ByteArray.empty t199 t202).size + 2) + t204.size) + 1) + (rdOf ByteArray.empty t205 (ji16)).size) = False := eq_false (by have h_ := c19; simp only [ByteArray.size_append, ByteArray.size_extract, show (⟨#[32]⟩ : ByteArray).size = 1 from rfl, show (⟨#[44, 32]⟩ : ByteArray).size = 2 from rfl] at h_; omega)))
  (try (have c19y0 := c19b0; simp only [ByteArray.size_append] at c19y0))
  (try (have c19z0 := c19b0; simp only [ByteArray.size_append, Int.natCast_add] at c19z0))
  (try (have c19y1 := c19b1; simp only [ByteArray.size_append] at c19y1))
  (try (have c19z1 := c19b1; simp only [ByteArray.size_append, Int.natCast_add] at c19z1))
  have c20 : ((((((rdOf ByteArray.empty t199 t202).extract 0 3) ++ (⟨#[44, 32]⟩ : ByteArray)) ++ t204) ++ (⟨#[32]⟩ : ByteArray)) ++ (rdOf ByteArray.empty t205 (ji16))).size + 1 ≤ 9223372036854775807 := Classical.byContradiction fun h_ => by rw [if_neg h_] at H; exact absurd H (by simp)
  rw [if_pos c20] at H
  have c20b0 := eq_true c20
  have c20b1 : decide (((((((rdOf ByteArray.empty t199 t202).extract 0 3) ++ (⟨#[44, 32]⟩ : ByteArray)) ++ t204) ++ (⟨#[32]⟩ : ByteArray)) ++ (rdOf ByteArray.empty t205 (ji16))).size + 1 ≤ 9223372036854775807) = true := decide_eq_true c20
  try have c20b2 : (9223372036854775807 < ((((((rdOf ByteArray.empty t199 t202).extract 0 3) ++ (⟨#[44, 32]⟩ : ByteArray)) ++ t204) ++ (⟨#[32]⟩ : ByteArray)) ++ (rdOf ByteArray.empty t205 (ji16))).size + 1) = False := eq_false (Nat.not_lt.2 c20)
  (try (have c20v2 : (9223372036854775807 < ((((min 3 (rdOf ByteArray.empty t199 t202).size + 2) + t204.size) + 1) + (rdOf ByteArray.empty t205 (ji16)).size) + 1) = False := eq_false (by have h_ := c20; simp only [ByteArray.size_append, ByteArray.size_extract, show (⟨#[32]⟩ : ByteArray).size = 1 from rfl, show (⟨#[44, 32]⟩ : ByteArray).size = 2 from rfl] at h_; omega)))
  (try (have c20y0 := c20b0; simp only [ByteArray.size_append] at c20y0))
  (try (have c20z0 := c20b0; simp only [ByteArray.size_append, Int.natCast_add] at c20z0))
  (try (have c20y1 := c20b1; simp only [ByteArray.size_append] at c20y1))
  (try (have c20z1 := c20b1; simp only [ByteArray.size_append, Int.natCast_add] at c20z1))
  replace H := Option.bind_eq_some_iff.mp H
  obtain ⟨t209, A210, H⟩ := H
  replace H : (if (((((((rdOf ByteArray.empty t199 t202).extract 0 3) ++ (⟨#[44, 32]⟩ : ByteArray)) ++ t204) ++ (⟨#[32]⟩ : ByteArray)) ++ (rdOf ByteArray.empty t205 (ji16))) ++ (⟨#[32]⟩ : ByteArray)).size + t209.size ≤ 9223372036854775807 then (if ((((((((rdOf ByteArray.empty t199 t202).extract 0 3) ++ (⟨#[44, 32]⟩ : ByteArray)) ++ t204) ++ (⟨#[32]⟩ : ByteArray)) ++ (rdOf ByteArray.empty t205 (ji16))) ++ (⟨#[32]⟩ : ByteArray)) ++ t209).size + 1 ≤ 9223372036854775807 then ((impl_clock.f t192 t193 t194 t195 t196 t197).bind fun t210 => (if (((((((((rdOf ByteArray.empty t199 t202).extract 0 3) ++ (⟨#[44, 32]⟩ : ByteArray)) ++ t204) ++ (⟨#[32]⟩ : ByteArray)) ++ (rdOf ByteArray.empty t205 (ji16))) ++ (⟨#[32]⟩ : ByteArray)) ++ t209) ++ (⟨#[32]⟩ : ByteArray)).size + t210.size ≤ 9223372036854775807 then (if ((((((((((rdOf ByteArray.empty t199 t202).extract 0 3) ++ (⟨#[44, 32]⟩ : ByteArray)) ++ t204) ++ (⟨#[32]⟩ : ByteArray)) ++ (rdOf ByteArray.empty t205 (ji16))) ++ (⟨#[32]⟩ : ByteArray)) ++ t209) ++ (⟨#[32]⟩ : ByteArray)) ++ t210).size + 4 ≤ 9223372036854775807 then (some (((((((((((rdOf ByteArray.empty t199 t202).extract 0 3) ++ (⟨#[44, 32]⟩ : ByteArray)) ++ t204) ++ (⟨#[32]⟩ : ByteArray)) ++ (rdOf ByteArray.empty t205 (ji16))) ++ (⟨#[32]⟩ : ByteArray)) ++ t209) ++ (⟨#[32]⟩ : ByteArray)) ++ t210) ++ (⟨#[32, 71, 77, 84]⟩ : ByteArray))) else (none)) else (none))) else (none)) else (none)) = some r := H
  have A21 := Aside0.mk A210
  clear A210
  have c22 : (((((((rdOf ByteArray.empty t199 t202).extract 0 3) ++ (⟨#[44, 32]⟩ : ByteArray)) ++ t204) ++ (⟨#[32]⟩ : ByteArray)) ++ (rdOf ByteArray.empty t205 (ji16))) ++ (⟨#[32]⟩ : ByteArray)).size + t209.size ≤ 9223372036854775807 := Classical.byContradiction fun h_ => by rw [if_neg h_] at H; exact absurd H (by simp)
  rw [if_pos c22] at H
  have c22b0 := eq_true c22
  have c22b1 : decide ((((((((rdOf ByteArray.empty t199 t202).extract 0 3) ++ (⟨#[44, 32]⟩ : ByteArray)) ++ t204) ++ (⟨#[32]⟩ : ByteArray)) ++ (rdOf ByteArray.empty t205 (ji16))) ++ (⟨#[32]⟩ : ByteArray)).size + t209.size ≤ 9223372036854775807) = true := decide_eq_true c22
  try have c22b2 : (9223372036854775807 < (((((((rdOf ByteArray.empty t199 t202).extract 0 3) ++ (⟨#[44, 32]⟩ : ByteArray)) ++ t204) ++ (⟨#[32]⟩ : ByteArray)) ++ (rdOf ByteArray.empty t205 (ji16))) ++ (⟨#[32]⟩ : ByteArray)).size + t209.size) = False := eq_false (Nat.not_lt.2 c22)
  (try (have c22v2 : (9223372036854775807 < (((((min 3 (rdOf ByteArray.empty t199 t202).size + 2) + t204.size) + 1) + (rdOf ByteArray.empty t205 (ji16)).size) + 1) + t209.size) = False := eq_false (by have h_ := c22; simp only [ByteArray.size_append, ByteArray.size_extract, show (⟨#[32]⟩ : ByteArray).size = 1 from rfl, show (⟨#[44, 32]⟩ : ByteArray).size = 2 from rfl] at h_; omega)))
  (try (have c22y0 := c22b0; simp only [ByteArray.size_append] at c22y0))
  (try (have c22z0 := c22b0; simp only [ByteArray.size_append, Int.natCast_add] at c22z0))
  (try (have c22y1 := c22b1; simp only [ByteArray.size_append] at c22y1))
  (try (have c22z1 := c22b1; simp only [ByteArray.size_append, Int.natCast_add] at c22z1))
  have c23 : ((((((((rdOf ByteArray.empty t199 t202).extract 0 3) ++ (⟨#[44, 32]⟩ : ByteArray)) ++ t204) ++ (⟨#[32]⟩ : ByteArray)) ++ (rdOf ByteArray.empty t205 (ji16))) ++ (⟨#[32]⟩ : ByteArray)) ++ t209).size + 1 ≤ 9223372036854775807 := Classical.byContradiction fun h_ => by rw [if_neg h_] at H; exact absurd H (by simp)
  rw [if_pos c23] at H
  have c23b0 := eq_true c23
  have c23b1 : decide (((((((((rdOf ByteArray.empty t199 t202).extract 0 3) ++ (⟨#[44, 32]⟩ : ByteArray)) ++ t204) ++ (⟨#[32]⟩ : ByteArray)) ++ (rdOf ByteArray.empty t205 (ji16))) ++ (⟨#[32]⟩ : ByteArray)) ++ t209).size + 1 ≤ 9223372036854775807) = true := decide_eq_true c23
  try have c23b2 : (9223372036854775807 < ((((((((rdOf ByteArray.empty t199 t202).extract 0 3) ++ (⟨#[44, 32]⟩ : ByteArray)) ++ t204) ++ (⟨#[32]⟩ : ByteArray)) ++ (rdOf ByteArray.empty t205 (ji16))) ++ (⟨#[32]⟩ : ByteArray)) ++ t209).size + 1) = False := eq_false (Nat.not_lt.2 c23)
  (try (have c23v2 : (9223372036854775807 < ((((((min 3 (rdOf ByteArray.empty t199 t202).size + 2) + t204.size) + 1) + (rdOf ByteArray.empty t205 (ji16)).size) + 1) + t209.size) + 1) = False := eq_false (by have h_ := c23; simp only [ByteArray.size_append, ByteArray.size_extract, show (⟨#[32]⟩ : ByteArray).size = 1 from rfl, show (⟨#[44, 32]⟩ : ByteArray).size = 2 from rfl] at h_; omega)))
  (try (have c23y0 := c23b0; simp only [ByteArray.size_append] at c23y0))
  (try (have c23z0 := c23b0; simp only [ByteArray.size_append, Int.natCast_add] at c23z0))
  (try (have c23y1 := c23b1; simp only [ByteArray.size_append] at c23y1))
  (try (have c23z1 := c23b1; simp only [ByteArray.size_append, Int.natCast_add] at c23z1))
  replace H := Option.bind_eq_some_iff.mp H
  obtain ⟨t210, A240, H⟩ := H
  replace H : (if (((((((((rdOf ByteArray.empty t199 t202).extract 0 3) ++ (⟨#[44, 32]⟩ : ByteArray)) ++ t204) ++ (⟨#[32]⟩ : ByteArray)) ++ (rdOf ByteArray.empty t205 (ji16))) ++ (⟨#[32]⟩ : ByteArray)) ++ t209) ++ (⟨#[32]⟩ : ByteArray)).size + t210.size ≤ 9223372036854775807 then (if ((((((((((rdOf ByteArray.empty t199 t202).extract 0 3) ++ (⟨#[44, 32]⟩ : ByteArray)) ++ t204) ++ (⟨#[32]⟩ : ByteArray)) ++ (rdOf ByteArray.empty t205 (ji16))) ++ (⟨#[32]⟩ : ByteArray)) ++ t209) ++ (⟨#[32]⟩ : ByteArray)) ++ t210).size + 4 ≤ 9223372036854775807 then (some (((((((((((rdOf ByteArray.empty t199 t202).extract 0 3) ++ (⟨#[44, 32]⟩ : ByteArray)) ++ t204) ++ (⟨#[32]⟩ : ByteArray)) ++ (rdOf ByteArray.empty t205 (ji16))) ++ (⟨#[32]⟩ : ByteArray)) ++ t209) ++ (⟨#[32]⟩ : ByteArray)) ++ t210) ++ (⟨#[32, 71, 77, 84]⟩ : ByteArray))) else (none)) else (none)) = some r := H
  have A24 := Aside0.mk A240
  clear A240
  have c25 : (((((((((rdOf ByteArray.empty t199 t202).extract 0 3) ++ (⟨#[44, 32]⟩ : ByteArray)) ++ t204) ++ (⟨#[32]⟩ : ByteArray)) ++ (rdOf ByteArray.empty t205 (ji16))) ++ (⟨#[32]⟩ : ByteArray)) ++ t209) ++ (⟨#[32]⟩ : ByteArray)).size + t210.size ≤ 9223372036854775807 := Classical.byContradiction fun h_ => by rw [if_neg h_] at H; exact absurd H (by simp)
  rw [if_pos c25] at H
  have c25b0 := eq_true c25
  have c25b1 : decide ((((((((((rdOf ByteArray.empty t199 t202).extract 0 3) ++ (⟨#[44, 32]⟩ : ByteArray)) ++ t204) ++ (⟨#[32]⟩ : ByteArray)) ++ (rdOf ByteArray.empty t205 (ji16))) ++ (⟨#[32]⟩ : ByteArray)) ++ t209) ++ (⟨#[32]⟩ : ByteArray)).size + t210.size ≤ 9223372036854775807) = true := decide_eq_true c25
  try have c25b2 : (9223372036854775807 < (((((((((rdOf ByteArray.empty t199 t202).extract 0 3) ++ (⟨#[44, 32]⟩ : ByteArray)) ++ t204) ++ (⟨#[32]⟩ : ByteArray)) ++ (rdOf ByteArray.empty t205 (ji16))) ++ (⟨#[32]⟩ : ByteArray)) ++ t209) ++ (⟨#[32]⟩ : ByteArray)).size + t210.size) = False := eq_false (Nat.not_lt.2 c25)
  (try (have c25v2 : (9223372036854775807 < (((((((min 3 (rdOf ByteArray.empty t199 t202).size + 2) + t204.size) + 1) + (rdOf ByteArray.empty t205 (ji16)).size) + 1) + t209.size) + 1) + t210.size) = False := eq_false (by have h_ := c25; simp only [ByteArray.size_append, ByteArray.size_extract, show (⟨#[32]⟩ : ByteArray).size = 1 from rfl, show (⟨#[44, 32]⟩ : ByteArray).size = 2 from rfl] at h_; omega)))
  (try (have c25y0 := c25b0; simp only [ByteArray.size_append] at c25y0))
  (try (have c25z0 := c25b0; simp only [ByteArray.size_append, Int.natCast_add] at c25z0))
  (try (have c25y1 := c25b1; simp only [ByteArray.size_append] at c25y1))
  (try (have c25z1 := c25b1; simp only [ByteArray.size_append, Int.natCast_add] at c25z1))
  have c26 : ((((((((((rdOf ByteArray.empty t199 t202).extract 0 3) ++ (⟨#[44, 32]⟩ : ByteArray)) ++ t204) ++ (⟨#[32]⟩ : ByteArray)) ++ (rdOf ByteArray.empty t205 (ji16))) ++ (⟨#[32]⟩ : ByteArray)) ++ t209) ++ (⟨#[32]⟩ : ByteArray)) ++ t210).size + 4 ≤ 9223372036854775807 := Classical.byContradiction fun h_ => by rw [if_neg h_] at H; exact absurd H (by simp)
  rw [if_pos c26] at H
  have c26b0 := eq_true c26
  have c26b1 : decide (((((((((((rdOf ByteArray.empty t199 t202).extract 0 3) ++ (⟨#[44, 32]⟩ : ByteArray)) ++ t204) ++ (⟨#[32]⟩ : ByteArray)) ++ (rdOf ByteArray.empty t205 (ji16))) ++ (⟨#[32]⟩ : ByteArray)) ++ t209) ++ (⟨#[32]⟩ : ByteArray)) ++ t210).size + 4 ≤ 9223372036854775807) = true := decide_eq_true c26
  try have c26b2 : (9223372036854775807 < ((((((((((rdOf ByteArray.empty t199 t202).extract 0 3) ++ (⟨#[44, 32]⟩ : ByteArray)) ++ t204) ++ (⟨#[32]⟩ : ByteArray)) ++ (rdOf ByteArray.empty t205 (ji16))) ++ (⟨#[32]⟩ : ByteArray)) ++ t209) ++ (⟨#[32]⟩ : ByteArray)) ++ t210).size + 4) = False := eq_false (Nat.not_lt.2 c26)
  (try (have c26v2 : (9223372036854775807 < ((((((((min 3 (rdOf ByteArray.empty t199 t202).size + 2) + t204.size) + 1) + (rdOf ByteArray.empty t205 (ji16)).size) + 1) + t209.size) + 1) + t210.size) + 4) = False := eq_false (by have h_ := c26; simp only [ByteArray.size_append, ByteArray.size_extract, show (⟨#[32]⟩ : ByteArray).size = 1 from rfl, show (⟨#[44, 32]⟩ : ByteArray).size = 2 from rfl] at h_; omega)))
  (try (have c26y0 := c26b0; simp only [ByteArray.size_append] at c26y0))
  (try (have c26z0 := c26b0; simp only [ByteArray.size_append, Int.natCast_add] at c26z0))
  (try (have c26y1 := c26b1; simp only [ByteArray.size_append] at c26y1))
  (try (have c26z1 := c26b1; simp only [ByteArray.size_append, Int.natCast_add] at c26z1))
  obtain rfl := Option.some.inj H
  go_enter Tryd.func27, Tryd.ntmps27
  try go_wp2_with (first | ((with_reducible refine gate_callee (f := 45) rfl ?_); refine goesL_ (some 5) rfl rfl Tryd.func45 (by kernel_rfl) rfl #[.int .i64 a0] rfl (by (try simp only [List.map_toArray, List.map_cons, List.map_nil]); first | done | rfl | (simp only [List.length_drop, List.length_take]; rfl)) ?_; (with_reducible refine (impl_isTime.calls a0 true _ A2.out).mono ?_); rintro e w' ⟨rfl, ⟨nd, rfl⟩⟩; refine ⟨_, rfl, ?_⟩) | ((with_reducible refine gate_callee (f := 46) rfl ?_); refine goesL_ (some 8) rfl rfl Tryd.func46 (by kernel_rfl) rfl #[.int .i64 a0] rfl (by (try simp only [List.map_toArray, List.map_cons, List.map_nil]); first | done | rfl | (simp only [List.length_drop, List.length_take]; rfl)) ?_; (with_reducible refine (impl_civilOf.calls a0 t192 t193 t194 t195 t196 t197 _ A4.out).mono ?_); rintro e w27 ⟨rfl, hb⟩; refine ⟨_, rfl, ?_⟩; have n0_ := Aside0.mk (below_step (by repeat (first | (with_reducible first | exact HB.out | apply below_alloc | apply pw_below_drewN | apply below_drew1) | exact HB.out)) hb); clear HB; have HB := n0_; clear n0_; (try clear hb); (try clear hb2); (try clear hk); (try clear hi)) | ((with_reducible refine gate_dst (N := 3) rfl ?_); refine box_event ?hg (N := 3) ?hd (cs := #[.int .i64 0, .int .i64 0, .int .i64 0, .int .i64 0, .int .i64 0, .int .i64 0]) (t := 30) ?hr ?_; (case hd => rfl); (case hg => rfl); (case hr => first | (go_simp; done) | (go_simp; rfl)); intro gb198 hg w28 hbox hb; have n0_ := Aside0.mk (below_step (by repeat (first | (with_reducible first | exact HB.out | apply below_alloc | apply pw_below_drewN | apply below_drew1) | exact HB.out)) hb); have n1_ := Aside0.mk (hbox); have n2_ := Aside0.mk ((by rw [hg]; exact (below_size (by repeat (first | (with_reducible first | exact HB.out | apply below_alloc | apply pw_below_drewN | apply below_drew1) | exact HB.out))) : w.heap.size ≤ gb198)); have n3_ := Aside0.mk ((by rw [hg]; exact (below_size (by repeat (first | (with_reducible first | exact HB.out | apply below_alloc | apply pw_below_drewN | apply below_drew1) | exact HB.out))) : w.heap.size ≤ gb198)); clear HB; have HB := n0_; have BK198 := n1_; have GW198 := n2_; have GE198 := n3_; clear n0_ n1_ n2_ n3_; clear hb hbox hg; have hcz29_0 : w28.cell? ⟨gb198, 0, none⟩ = some (.int .i64 0) := (blk_cell BK198.out 0).trans rfl; have hcz29_1 : w28.cell? ⟨gb198, 1, none⟩ = some (.int .i64 0) := (blk_cell BK198.out 1).trans rfl; have hcz29_2 : w28.cell? ⟨gb198, 2, none⟩ = some (.int .i64 0) := (blk_cell BK198.out 2).trans rfl; have hcz29_3 : w28.cell? ⟨gb198, 3, none⟩ = some (.int .i64 0) := (blk_cell BK198.out 3).trans rfl; have hcz29_4 : w28.cell? ⟨gb198, 4, none⟩ = some (.int .i64 0) := (blk_cell BK198.out 4).trans rfl; have hcz29_5 : w28.cell? ⟨gb198, 5, none⟩ = some (.int .i64 0) := (blk_cell BK198.out 5).trans rfl; have hfz29_0 := blk_frozen BK198.out 0; have hfz29_1 := blk_frozen BK198.out 1; have hfz29_2 := blk_frozen BK198.out 2; have hfz29_3 := blk_frozen BK198.out 3; have hfz29_4 := blk_frozen BK198.out 4; have hfz29_5 := blk_frozen BK198.out 5))
  have n0_ : Aside0 (((((((w28.setCell ⟨gb198, 0, none⟩ (.int .i64 t192)).setCell ⟨gb198, 1, none⟩ (.int .i64 t193)).setCell ⟨gb198, 2, none⟩ (.int .i64 t194)).setCell ⟨gb198, 3, none⟩ (.int .i64 t195)).setCell ⟨gb198, 4, none⟩ (.int .i64 t196)).setCell ⟨gb198, 5, none⟩ (.int .i64 t197)).heap[gb198]? = some (.cells #[.int .i64 t192, .int .i64 t193, .int .i64 t194, .int .i64 t195, .int .i64 t196, .int .i64 t197] 30 (0, 0))) := ⟨by (with_reducible repeat (first | refine blk_drewN ?_ _ | refine blk_drew ?_ | refine blk_alloc ?_ _)); refine blk_put (cs := #[.int .i64 t192, .int .i64 t193, .int .i64 t194, .int .i64 t195, .int .i64 t196, .int .i64 0]) ?_ 5 _ rfl; (with_reducible repeat (first | refine blk_drewN ?_ _ | refine blk_drew ?_ | refine blk_alloc ?_ _)); refine blk_put (cs := #[.int .i64 t192, .int .i64 t193, .int .i64 t194, .int .i64 t195, .int .i64 0, .int .i64 0]) ?_ 4 _ rfl; (with_reducible repeat (first | refine blk_drewN ?_ _ | refine blk_drew ?_ | refine blk_alloc ?_ _)); refine blk_put (cs := #[.int .i64 t192, .int .i64 t193, .int .i64 t194, .int .i64 0, .int .i64 0, .int .i64 0]) ?_ 3 _ rfl; (with_reducible repeat (first | refine blk_drewN ?_ _ | refine blk_drew ?_ | refine blk_alloc ?_ _)); refine blk_put (cs := #[.int .i64 t192, .int .i64 t193, .int .i64 0, .int .i64 0, .int .i64 0, .int .i64 0]) ?_ 2 _ rfl; (with_reducible repeat (first | refine blk_drewN ?_ _ | refine blk_drew ?_ | refine blk_alloc ?_ _)); refine blk_put (cs := #[.int .i64 t192, .int .i64 0, .int .i64 0, .int .i64 0, .int .i64 0, .int .i64 0]) ?_ 1 _ rfl; (with_reducible repeat (first | refine blk_drewN ?_ _ | refine blk_drew ?_ | refine blk_alloc ?_ _)); refine blk_put (cs := #[.int .i64 0, .int .i64 0, .int .i64 0, .int .i64 0, .int .i64 0, .int .i64 0]) ?_ 0 _ rfl; (with_reducible repeat (first | refine blk_drewN ?_ _ | refine blk_drew ?_ | refine blk_alloc ?_ _)); exact BK198.out⟩
  have n1_ : Aside0 (Below w.heap.size w ((((((w28.setCell ⟨gb198, 0, none⟩ (.int .i64 t192)).setCell ⟨gb198, 1, none⟩ (.int .i64 t193)).setCell ⟨gb198, 2, none⟩ (.int .i64 t194)).setCell ⟨gb198, 3, none⟩ (.int .i64 t195)).setCell ⟨gb198, 4, none⟩ (.int .i64 t196)).setCell ⟨gb198, 5, none⟩ (.int .i64 t197))) := ⟨by repeat (first | (with_reducible first | exact HB.out | apply below_alloc | apply pw_below_drewN | apply below_drew1 | refine below_set ?_ GE198.out) | exact HB.out)⟩
  (try clear BK198)
  (try clear HB)
  generalize ((((((w28.setCell ⟨gb198, 0, none⟩ (.int .i64 t192)).setCell ⟨gb198, 1, none⟩ (.int .i64 t193)).setCell ⟨gb198, 2, none⟩ (.int .i64 t194)).setCell ⟨gb198, 3, none⟩ (.int .i64 t195)).setCell ⟨gb198, 4, none⟩ (.int .i64 t196)).setCell ⟨gb198, 5, none⟩ (.int .i64 t197)) = w30 at n0_ n1_ ⊢
  have BK198 := n0_
  have HB := n1_
  clear n0_ n1_
  have n0_ := Aside0.mk (blk_drew BK198.out)
  have n1_ := Aside0.mk (below_drew1 HB.out)
  clear BK198
  clear HB
  have BK198 := n0_
  have HB := n1_
  clear n0_ n1_
  refine start_ (n := 30) (S := fun w' => w'.cell? ⟨gb198, 0, none⟩ = some (.int .i64 t192) ∧ w'.cell? ⟨gb198, 1, none⟩ = some (.int .i64 t193) ∧ w'.cell? ⟨gb198, 2, none⟩ = some (.int .i64 t194) ∧ w'.cell? ⟨gb198, 3, none⟩ = some (.int .i64 t195) ∧ w'.cell? ⟨gb198, 4, none⟩ = some (.int .i64 t196) ∧ w'.cell? ⟨gb198, 5, none⟩ = some (.int .i64 t197) ∧ True ∧ True) (ds := []) #[false, false, false, false, false, false, false, false, false, false, false, false, false, false, false, false, false, false, false, false, false, false, false, false, false, false, false, false, false, false] (by kernel_rfl) rfl rfl ⟨(blk_cell BK198.out 0).trans rfl, (blk_cell BK198.out 1).trans rfl, (blk_cell BK198.out 2).trans rfl, (blk_cell BK198.out 3).trans rfl, (blk_cell BK198.out 4).trans rfl, (blk_cell BK198.out 5).trans rfl, trivial, trivial⟩ (fun hHeld => ?_); refine with_tabW impl_HttpDate.tab4 impl_HttpDate.bits4 (fun HT_ HW_ => ?_)
  generalize w30.drew = w31 at BK198 HB hHeld ⊢
  refine pure_ (i := 1) (N := some 10) (v := ?_) (a' := ?_) #[false, true, false, false, false, false, false, false, false, false, false, false, false, false, false, false, false, false, false, false, false, false, false, false, false, false, false, false, false, false] rfl rfl (any_of HT_.out (by kernel_rfl)) (fun _ _ _ h => h) (Or.inl ⟨by rfl, ?_⟩) ?_ ?_
  rotate_left
  ·
   intro w'
   go_simp
   with_reducible rfl
  rotate_left
  ·
   simp only [Act.put, List.setIfInBounds_toArray, List.set_cons_zero, List.set_cons_succ, i64_w, i32_w]
   rfl
  refine pure_ (i := 7) (N := some 16) (v := ?_) (a' := ?_) #[false, true, false, false, false, false, false, true, false, false, false, false, false, false, false, false, false, false, false, false, false, false, false, false, false, false, false, false, false, false] rfl rfl (any_of HT_.out (by kernel_rfl)) (fun _ _ _ h => h) (Or.inl ⟨by rfl, ?_⟩) ?_ ?_
  rotate_left
  ·
   intro w'
   go_simp
   with_reducible rfl
  rotate_left
  ·
   simp only [Act.put, List.setIfInBounds_toArray, List.set_cons_zero, List.set_cons_succ, i64_w, i32_w]
   rfl
  refine pure_ (i := 13) (N := some 22) (v := ?_) (a' := ?_) #[false, true, false, false, false, false, false, true, false, false, false, false, false, true, false, false, false, false, false, false, false, false, false, false, false, false, false, false, false, false] rfl rfl (any_of HT_.out (by kernel_rfl)) (fun _ _ _ h => h) (Or.inl ⟨by rfl, ?_⟩) ?_ ?_
  rotate_left
  ·
   intro w'
   go_simp
   with_reducible rfl
  rotate_left
  ·
   simp only [Act.put, List.setIfInBounds_toArray, List.set_cons_zero, List.set_cons_succ, i64_w, i32_w]
   rfl
  refine pure_ (i := 20) (N := some 29) (v := ?_) (a' := ?_) #[false, true, false, false, false, false, false, true, false, false, false, false, false, true, false, false, false, false, false, false, true, false, false, false, false, false, false, false, false, false] rfl rfl (any_of HT_.out (by kernel_rfl)) (fun _ _ _ h => h) (Or.inl ⟨by rfl, ?_⟩) ?_ ?_
  rotate_left
  ·
   intro w'
   go_simp
   with_reducible rfl
  rotate_left
  ·
   simp only [Act.put, List.setIfInBounds_toArray, List.set_cons_zero, List.set_cons_succ, i64_w, i32_w]
   rfl
  refine take_ (i := 8) (N := some 17) (v := ?_) (a' := ?_) #[false, true, false, false, false, false, false, true, true, false, false, false, false, true, false, false, false, false, false, false, true, false, false, false, false, false, false, false, false, false] rfl rfl (take_ofW HT_.out HW_.out (by kernel_rfl)) (fun _ _ _ h => h) (Or.inl ⟨by rfl, ?_⟩) hHeld ?_ ?_
  rotate_left
  ·
   rintro w' ⟨s0, s1, s2, s3, s4, s5, s6, s7⟩
   go_simp
   with_reducible rfl
  rotate_left
  ·
   simp only [Act.put, List.setIfInBounds_toArray, List.set_cons_zero, List.set_cons_succ, i64_w, i32_w]
   rfl
  refine take_ (i := 14) (N := some 23) (v := ?_) (a' := ?_) #[false, true, false, false, false, false, false, true, true, false, false, false, false, true, true, false, false, false, false, false, true, false, false, false, false, false, false, false, false, false] rfl rfl (take_ofW HT_.out HW_.out (by kernel_rfl)) (fun _ _ _ h => h) (Or.inl ⟨by rfl, ?_⟩) hHeld ?_ ?_
  rotate_left
  ·
   rintro w' ⟨s0, s1, s2, s3, s4, s5, s6, s7⟩
   go_simp
   with_reducible rfl
  rotate_left
  ·
   simp only [Act.put, List.setIfInBounds_toArray, List.set_cons_zero, List.set_cons_succ, i64_w, i32_w]
   rfl
  refine pure_ (i := 15) (N := some 24) (v := ?_) (a' := ?_) #[false, true, false, false, false, false, false, true, true, false, false, false, false, true, true, true, false, false, false, false, true, false, false, false, false, false, false, false, false, false] rfl rfl (any_of HT_.out (by kernel_rfl)) (fun _ _ _ h => h) (Or.inl ⟨by rfl, ?_⟩) ?_ ?_
  rotate_left
  ·
   intro w'
   go_simp
   with_reducible rfl
  rotate_left
  ·
   simp only [Act.put, List.setIfInBounds_toArray, List.set_cons_zero, List.set_cons_succ, i64_w, i32_w]
   rfl
  refine take_ (i := 21) (N := some 30) (v := ?_) (a' := ?_) #[false, true, false, false, false, false, false, true, true, false, false, false, false, true, true, true, false, false, false, false, true, true, false, false, false, false, false, false, false, false] rfl rfl (take_ofW HT_.out HW_.out (by kernel_rfl)) (fun _ _ _ h => h) (Or.inl ⟨by rfl, ?_⟩) hHeld ?_ ?_
  rotate_left
  ·
   rintro w' ⟨s0, s1, s2, s3, s4, s5, s6, s7⟩
   go_simp
   with_reducible rfl
  rotate_left
  ·
   simp only [Act.put, List.setIfInBounds_toArray, List.set_cons_zero, List.set_cons_succ, i64_w, i32_w]
   rfl
  refine take_ (i := 25) (N := some 34) (v := ?_) (a' := ?_) #[false, true, false, false, false, false, false, true, true, false, false, false, false, true, true, true, false, false, false, false, true, true, false, false, false, true, false, false, false, false] rfl rfl (take_ofW HT_.out HW_.out (by kernel_rfl)) (fun _ _ _ h => h) (Or.inl ⟨by rfl, ?_⟩) hHeld ?_ ?_
  rotate_left
  ·
   rintro w' ⟨s0, s1, s2, s3, s4, s5, s6, s7⟩
   go_simp
   with_reducible rfl
  rotate_left
  ·
   simp only [Act.put, List.setIfInBounds_toArray, List.set_cons_zero, List.set_cons_succ, i64_w, i32_w]
   rfl
  refine one_ (i := 0) (N := some 9) #[true, true, false, false, false, false, false, true, true, false, false, false, false, true, true, true, false, false, false, false, true, true, false, false, false, true, false, false, false, false] rfl rfl (one_of HT_.out (by kernel_rfl)) (by decide) (fun K hK => ?_)
  refine goes_ Tryd.func53 (by kernel_rfl) rfl #[] (by rfl) rfl rfl (by (try simp only [List.map_toArray, List.map_cons, List.map_nil]); first | done | rfl | (simp only [List.length_drop, List.length_take]; rfl)) ?_
  with_reducible refine (impl_days.calls  t199 _ A5.out).mono ?_
  rintro e w32 ⟨v200, rfl, ho0, hb⟩
  refine ⟨_, rfl, ?_⟩
  have n0_ := Aside0.mk (Kd.R_lower ho0 (below_size (by repeat (first | (with_reducible first | exact HB.out | apply below_alloc | apply pw_below_drewN | apply below_drew1 | refine below_set ?_ GE198.out) | exact HB.out))))
  have n1_ := Aside0.mk (blk_below (g := gb198) (o := .cells #[.int .i64 t192, .int .i64 t193, .int .i64 t194, .int .i64 t195, .int .i64 t196, .int .i64 t197] 30 (0, 0)) (by (with_reducible repeat (first | refine blk_drewN ?_ _ | refine blk_drew ?_ | refine blk_alloc ?_ _)); exact BK198.out) hb)
  have n2_ := Aside0.mk (below_step (by repeat (first | (with_reducible first | exact HB.out | apply below_alloc | apply pw_below_drewN | apply below_drew1 | refine below_set ?_ GE198.out) | exact HB.out)) hb)
  clear BK198
  clear HB
  have HO201 := n0_
  have BK198 := n1_
  have HB := n2_
  clear n0_ n1_ n2_
  (try clear hb)
  (try clear hb2)
  (try clear hk)
  (try clear hi)
  (try clear ho0)
  refine hK.out _ _ ⟨(blk_cell BK198.out 0).trans rfl, (blk_cell BK198.out 1).trans rfl, (blk_cell BK198.out 2).trans rfl, (blk_cell BK198.out 3).trans rfl, (blk_cell BK198.out 4).trans rfl, (blk_cell BK198.out 5).trans rfl, trivial, trivial⟩ (fun hHeld => ?_)
  clear hK K
  refine norm_ (a' := ?_) ?_ ?_
  rotate_left
  ·
   show Act.put _ (some 9) _ = _
   simp only [Act.put, List.setIfInBounds_toArray, List.set_cons_zero, List.set_cons_succ, i64_w, i32_w]
   rfl
  refine one_ (i := 2) (N := some 11) #[true, true, true, false, false, false, false, true, true, false, false, false, false, true, true, true, false, false, false, false, true, true, false, false, false, true, false, false, false, false] rfl rfl (one_of HT_.out (by kernel_rfl)) (by decide) (fun K hK => ?_)
  refine goes_ Tryd.func23 (by kernel_rfl) rfl #[.int .i64 a0] (by rfl) rfl rfl (by (try simp only [List.map_toArray, List.map_cons, List.map_nil]); first | done | rfl | (simp only [List.length_drop, List.length_take]; rfl)) ?_
  with_reducible refine (impl_Weekday.calls a0 t202 _ A6.out).mono ?_
  rintro e w' ⟨rfl, ⟨nd, rfl⟩⟩
  refine ⟨_, rfl, ?_⟩
  obtain ⟨Ao33, co33, eo33⟩ := Kd.R_slice HO201.out
  (first | subst eo33 | (injection eo33 with f1_ f2_ f3_; have f4_ := f1_.symm; have f5_ := f3_.symm; clear f1_ f2_ f3_; subst f4_; subst f5_))
  have p203 : 0 ≤ (t202 : Int) := of_decide_eq_true (by first | (with_reducible assumption) | assumption)
  have q203 : t202 < (t199.length : Int) := of_decide_eq_true (by first | (with_reducible assumption) | assumption)
  obtain ⟨ad203, e203, hx203_0⟩ := Kd.at_string (Kd.R_reads' HO201.out).2.2 t202 p203 q203
  cases e203
  replace p203 := eq_true p203
  replace q203 := eq_true q203
  refine hK.out _ _ ⟨(blk_cell BK198.out 0).trans rfl, (blk_cell BK198.out 1).trans rfl, (blk_cell BK198.out 2).trans rfl, (blk_cell BK198.out 3).trans rfl, (blk_cell BK198.out 4).trans rfl, (blk_cell BK198.out 5).trans rfl, trivial, trivial⟩ (fun hHeld => ?_)
  clear hK K
  refine norm_ (a' := ?_) ?_ ?_
  rotate_left
  ·
   show Act.put _ (some 11) _ = _
   simp only [Act.put, List.setIfInBounds_toArray, List.set_cons_zero, List.set_cons_succ, i64_w, i32_w]
   rfl
  refine grow_ (S' := fun w' => w'.cell? ⟨gb198, 0, none⟩ = some (.int .i64 t192) ∧ w'.cell? ⟨gb198, 1, none⟩ = some (.int .i64 t193) ∧ w'.cell? ⟨gb198, 2, none⟩ = some (.int .i64 t194) ∧ w'.cell? ⟨gb198, 3, none⟩ = some (.int .i64 t195) ∧ w'.cell? ⟨gb198, 4, none⟩ = some (.int .i64 t196) ∧ w'.cell? ⟨gb198, 5, none⟩ = some (.int .i64 t197) ∧ w'.cell? (ad203.add (t202).toNat) = some (.string (rdOf ByteArray.empty t199 t202)) ∧ True) (fun w' h_ => ⟨h_.1, h_.2.1, h_.2.2.1, h_.2.2.2.1, h_.2.2.2.2.1, h_.2.2.2.2.2.1, trivial, trivial⟩) ⟨hHeld.1, hHeld.2.1, hHeld.2.2.1, hHeld.2.2.2.1, hHeld.2.2.2.2.1, hHeld.2.2.2.2.2.1, hx203_0, trivial⟩ (fun hHeld => ?_)
  refine pure_ (i := 3) (N := some 12) (v := ?_) (a' := ?_) #[true, true, true, true, false, false, false, true, true, false, false, false, false, true, true, true, false, false, false, false, true, true, false, false, false, true, false, false, false, false] rfl rfl (any_of HT_.out (by kernel_rfl)) (fun _ _ _ h => h) (Or.inl ⟨by rfl, ?_⟩) ?_ ?_
  rotate_left
  ·
   intro w'
   go_simp
   with_reducible rfl
  rotate_left
  ·
   simp only [Act.put, List.setIfInBounds_toArray, List.set_cons_zero, List.set_cons_succ, i64_w, i32_w]
   rfl
  refine take_ (i := 4) (N := some 13) (v := ?_) (a' := ?_) #[true, true, true, true, true, false, false, true, true, false, false, false, false, true, true, true, false, false, false, false, true, true, false, false, false, true, false, false, false, false] rfl rfl (take_ofW HT_.out HW_.out (by kernel_rfl)) (fun _ _ _ h => h) (Or.inl ⟨by rfl, ?_⟩) hHeld ?_ ?_
  rotate_left
  ·
   rintro w' ⟨s0, s1, s2, s3, s4, s5, s6, s7⟩
   go_simp
   with_reducible rfl
  rotate_left
  ·
   simp only [Act.put, List.setIfInBounds_toArray, List.set_cons_zero, List.set_cons_succ, i64_w, i32_w]
   rfl
  refine pure_ (i := 5) (N := some 14) (v := ?_) (a' := ?_) #[true, true, true, true, true, true, false, true, true, false, false, false, false, true, true, true, false, false, false, false, true, true, false, false, false, true, false, false, false, false] rfl rfl (any_of HT_.out (by kernel_rfl)) (fun _ _ _ h => h) (Or.inl ⟨by rfl, ?_⟩) ?_ ?_
  rotate_left
  ·
   intro w'
   go_simp
   with_reducible rfl
  rotate_left
  ·
   simp only [Act.put, List.setIfInBounds_toArray, List.set_cons_zero, List.set_cons_succ, i64_w, i32_w]
   rfl
  refine pure_ (i := 6) (N := some 15) (v := ?_) (a' := ?_) #[true, true, true, true, true, true, true, true, true, false, false, false, false, true, true, true, false, false, false, false, true, true, false, false, false, true, false, false, false, false] rfl rfl (any_of HT_.out (by kernel_rfl)) (fun _ _ _ h => h) (Or.inl ⟨by rfl, ?_⟩) ?_ ?_
  rotate_left
  ·
   intro w'
   go_simp
   with_reducible rfl
  rotate_left
  ·
   simp only [Act.put, List.setIfInBounds_toArray, List.set_cons_zero, List.set_cons_succ, i64_w, i32_w]
   rfl
  refine one_ (i := 9) (N := some 18) #[true, true, true, true, true, true, true, true, true, true, false, false, false, true, true, true, false, false, false, false, true, true, false, false, false, true, false, false, false, false] rfl rfl (one_of HT_.out (by kernel_rfl)) (by decide) (fun K hK => ?_)
  refine goes_ Tryd.func54 (by kernel_rfl) rfl #[.int .i64 t194, .int .i64 2] (by rfl) rfl rfl (by (try simp only [List.map_toArray, List.map_cons, List.map_nil]); first | done | rfl | (simp only [List.length_drop, List.length_take]; rfl)) ?_
  with_reducible refine (impl_digits.calls t194 2 t204 _ A12.out).mono ?_
  rintro e w' ⟨rfl, ⟨nd, rfl⟩⟩
  refine ⟨_, rfl, ?_⟩
  refine hK.out _ _ ⟨(blk_cell BK198.out 0).trans rfl, (blk_cell BK198.out 1).trans rfl, (blk_cell BK198.out 2).trans rfl, (blk_cell BK198.out 3).trans rfl, (blk_cell BK198.out 4).trans rfl, (blk_cell BK198.out 5).trans rfl, hHeld.2.2.2.2.2.2.1, trivial⟩ (fun hHeld => ?_)
  clear hK K
  refine norm_ (a' := ?_) ?_ ?_
  rotate_left
  ·
   show Act.put _ (some 18) _ = _
   simp only [Act.put, List.setIfInBounds_toArray, List.set_cons_zero, List.set_cons_succ, i64_w, i32_w]
   rfl
  refine pure_ (i := 10) (N := some 19) (v := ?_) (a' := ?_) #[true, true, true, true, true, true, true, true, true, true, true, false, false, true, true, true, false, false, false, false, true, true, false, false, false, true, false, false, false, false] rfl rfl (any_of HT_.out (by kernel_rfl)) (fun _ _ _ h => h) (Or.inl ⟨by rfl, ?_⟩) ?_ ?_
  rotate_left
  ·
   intro w'
   go_simp
   with_reducible rfl
  rotate_left
  ·
   simp only [Act.put, List.setIfInBounds_toArray, List.set_cons_zero, List.set_cons_succ, i64_w, i32_w]
   rfl
  refine pure_ (i := 11) (N := some 20) (v := ?_) (a' := ?_) #[true, true, true, true, true, true, true, true, true, true, true, true, false, true, true, true, false, false, false, false, true, true, false, false, false, true, false, false, false, false] rfl rfl (any_of HT_.out (by kernel_rfl)) (fun _ _ _ h => h) (Or.inl ⟨by rfl, ?_⟩) ?_ ?_
  rotate_left
  ·
   intro w'
   go_simp
   with_reducible rfl
  rotate_left
  ·
   simp only [Act.put, List.setIfInBounds_toArray, List.set_cons_zero, List.set_cons_succ, i64_w, i32_w]
   rfl
  refine one_ (i := 12) (N := some 21) #[true, true, true, true, true, true, true, true, true, true, true, true, true, true, true, true, false, false, false, false, true, true, false, false, false, true, false, false, false, false] rfl rfl (one_of HT_.out (by kernel_rfl)) (by decide) (fun K hK => ?_)
  refine goes_ Tryd.func55 (by kernel_rfl) rfl #[] (by rfl) rfl rfl (by (try simp only [List.map_toArray, List.map_cons, List.map_nil]); first | done | rfl | (simp only [List.length_drop, List.length_take]; rfl)) ?_
  with_reducible refine (impl_months.calls  t205 _ A15.out).mono ?_
  rintro e w34 ⟨v206, rfl, ho0, hb⟩
  have HS6_ := (hb.cell (World.block_lt_of_cell? _ _ (hHeld.2.2.2.2.2.2.1))).trans (hHeld.2.2.2.2.2.2.1)
  refine ⟨_, rfl, ?_⟩
  have n0_ := Aside0.mk (Kd.R_elder' (by (with_reducible repeat (first | apply Kd.R_alloc | apply Kd.R_drewN | apply Kd.R_drew)); exact HO201.out) (Kd.R_base ho0) hb)
  have n1_ := Aside0.mk (Kd.R_lower (Kd.R_new' ho0 (Kd.R_lt (by (with_reducible repeat (first | apply Kd.R_alloc | apply Kd.R_drewN | apply Kd.R_drew)); exact HO201.out))) (below_size (by repeat (first | (with_reducible first | exact HB.out | apply below_alloc | apply pw_below_drewN | apply below_drew1 | refine below_set ?_ GE198.out) | exact HB.out))))
  have n2_ := Aside0.mk (blk_below (g := gb198) (o := .cells #[.int .i64 t192, .int .i64 t193, .int .i64 t194, .int .i64 t195, .int .i64 t196, .int .i64 t197] 30 (0, 0)) (by (with_reducible repeat (first | refine blk_drewN ?_ _ | refine blk_drew ?_ | refine blk_alloc ?_ _)); exact BK198.out) hb)
  have n3_ := Aside0.mk (below_step (by repeat (first | (with_reducible first | exact HB.out | apply below_alloc | apply pw_below_drewN | apply below_drew1 | refine below_set ?_ GE198.out) | exact HB.out)) hb)
  clear HO201
  clear BK198
  clear HB
  have HO201 := n0_
  have HO207 := n1_
  have BK198 := n2_
  have HB := n3_
  clear n0_ n1_ n2_ n3_
  (try clear hb)
  (try clear hb2)
  (try clear hk)
  (try clear hi)
  (try clear ho0)
  obtain ⟨Ao35, co35, eo35⟩ := Kd.R_slice HO207.out
  (first | subst eo35 | (injection eo35 with f1_ f2_ f3_; have f4_ := f1_.symm; have f5_ := f3_.symm; clear f1_ f2_ f3_; subst f4_; subst f5_))
  have p208 : 0 ≤ ((ji16) : Int) := of_decide_eq_true (by first | (with_reducible assumption) | assumption)
  have q208 : (ji16) < (t205.length : Int) := of_decide_eq_true (by first | (with_reducible assumption) | assumption)
  obtain ⟨ad208, e208, hx208_0⟩ := Kd.at_string (Kd.R_reads' HO207.out).2.2 (ji16) p208 q208
  cases e208
  replace p208 := eq_true p208
  replace q208 := eq_true q208
  refine hK.out _ _ ⟨(blk_cell BK198.out 0).trans rfl, (blk_cell BK198.out 1).trans rfl, (blk_cell BK198.out 2).trans rfl, (blk_cell BK198.out 3).trans rfl, (blk_cell BK198.out 4).trans rfl, (blk_cell BK198.out 5).trans rfl, HS6_, trivial⟩ (fun hHeld => ?_)
  clear hK K
  refine norm_ (a' := ?_) ?_ ?_
  rotate_left
  ·
   show Act.put _ (some 21) _ = _
   simp only [Act.put, List.setIfInBounds_toArray, List.set_cons_zero, List.set_cons_succ, i64_w, i32_w]
   rfl
  refine grow_ (S' := fun w' => w'.cell? ⟨gb198, 0, none⟩ = some (.int .i64 t192) ∧ w'.cell? ⟨gb198, 1, none⟩ = some (.int .i64 t193) ∧ w'.cell? ⟨gb198, 2, none⟩ = some (.int .i64 t194) ∧ w'.cell? ⟨gb198, 3, none⟩ = some (.int .i64 t195) ∧ w'.cell? ⟨gb198, 4, none⟩ = some (.int .i64 t196) ∧ w'.cell? ⟨gb198, 5, none⟩ = some (.int .i64 t197) ∧ w'.cell? (ad203.add (t202).toNat) = some (.string (rdOf ByteArray.empty t199 t202)) ∧ w'.cell? (ad208.add ((ji16)).toNat) = some (.string (rdOf ByteArray.empty t205 (ji16)))) (fun w' h_ => ⟨h_.1, h_.2.1, h_.2.2.1, h_.2.2.2.1, h_.2.2.2.2.1, h_.2.2.2.2.2.1, h_.2.2.2.2.2.2.1, trivial⟩) ⟨hHeld.1, hHeld.2.1, hHeld.2.2.1, hHeld.2.2.2.1, hHeld.2.2.2.2.1, hHeld.2.2.2.2.2.1, hHeld.2.2.2.2.2.2.1, hx208_0⟩ (fun hHeld => ?_)
  refine pure_ (i := 16) (N := some 25) (v := ?_) (a' := ?_) #[true, true, true, true, true, true, true, true, true, true, true, true, true, true, true, true, true, false, false, false, true, true, false, false, false, true, false, false, false, false] rfl rfl (any_of HT_.out (by kernel_rfl)) (fun _ _ _ h => h) (Or.inl ⟨by rfl, ?_⟩) ?_ ?_
  rotate_left
  ·
   intro w'
   go_simp
   with_reducible rfl
  rotate_left
  ·
   simp only [Act.put, List.setIfInBounds_toArray, List.set_cons_zero, List.set_cons_succ, i64_w, i32_w]
   rfl
  refine take_ (i := 17) (N := some 26) (v := ?_) (a' := ?_) #[true, true, true, true, true, true, true, true, true, true, true, true, true, true, true, true, true, true, false, false, true, true, false, false, false, true, false, false, false, false] rfl rfl (take_ofW HT_.out HW_.out (by kernel_rfl)) (fun _ _ _ h => h) (Or.inl ⟨by rfl, ?_⟩) hHeld ?_ ?_
  rotate_left
  ·
   rintro w' ⟨s0, s1, s2, s3, s4, s5, s6, s7⟩
   go_simp
   with_reducible rfl
  rotate_left
  ·
   simp only [Act.put, List.setIfInBounds_toArray, List.set_cons_zero, List.set_cons_succ, i64_w, i32_w]
   rfl
  refine pure_ (i := 18) (N := some 27) (v := ?_) (a' := ?_) #[true, true, true, true, true, true, true, true, true, true, true, true, true, true, true, true, true, true, true, false, true, true, false, false, false, true, false, false, false, false] rfl rfl (any_of HT_.out (by kernel_rfl)) (fun _ _ _ h => h) (Or.inl ⟨by rfl, ?_⟩) ?_ ?_
  rotate_left
  ·
   intro w'
   go_simp
   with_reducible rfl
  rotate_left
  ·
   simp only [Act.put, List.setIfInBounds_toArray, List.set_cons_zero, List.set_cons_succ, i64_w, i32_w]
   rfl
  refine pure_ (i := 19) (N := some 28) (v := ?_) (a' := ?_) #[true, true, true, true, true, true, true, true, true, true, true, true, true, true, true, true, true, true, true, true, true, true, false, false, false, true, false, false, false, false] rfl rfl (any_of HT_.out (by kernel_rfl)) (fun _ _ _ h => h) (Or.inl ⟨by rfl, ?_⟩) ?_ ?_
  rotate_left
  ·
   intro w'
   go_simp
   with_reducible rfl
  rotate_left
  ·
   simp only [Act.put, List.setIfInBounds_toArray, List.set_cons_zero, List.set_cons_succ, i64_w, i32_w]
   rfl
  refine one_ (i := 22) (N := some 31) #[true, true, true, true, true, true, true, true, true, true, true, true, true, true, true, true, true, true, true, true, true, true, true, false, false, true, false, false, false, false] rfl rfl (one_of HT_.out (by kernel_rfl)) (by decide) (fun K hK => ?_)
  refine goes_ Tryd.func54 (by kernel_rfl) rfl #[.int .i64 t192, .int .i64 4] (by rfl) rfl rfl (by (try simp only [List.map_toArray, List.map_cons, List.map_nil]); first | done | rfl | (simp only [List.length_drop, List.length_take]; rfl)) ?_
  with_reducible refine (impl_digits.calls t192 4 t209 _ A21.out).mono ?_
  rintro e w' ⟨rfl, ⟨nd, rfl⟩⟩
  refine ⟨_, rfl, ?_⟩
  refine hK.out _ _ ⟨(blk_cell BK198.out 0).trans rfl, (blk_cell BK198.out 1).trans rfl, (blk_cell BK198.out 2).trans rfl, (blk_cell BK198.out 3).trans rfl, (blk_cell BK198.out 4).trans rfl, (blk_cell BK198.out 5).trans rfl, hHeld.2.2.2.2.2.2.1, hHeld.2.2.2.2.2.2.2⟩ (fun hHeld => ?_)
  clear hK K
  refine norm_ (a' := ?_) ?_ ?_
  rotate_left
  ·
   show Act.put _ (some 31) _ = _
   simp only [Act.put, List.setIfInBounds_toArray, List.set_cons_zero, List.set_cons_succ, i64_w, i32_w]
   rfl
  refine pure_ (i := 23) (N := some 32) (v := ?_) (a' := ?_) #[true, true, true, true, true, true, true, true, true, true, true, true, true, true, true, true, true, true, true, true, true, true, true, true, false, true, false, false, false, false] rfl rfl (any_of HT_.out (by kernel_rfl)) (fun _ _ _ h => h) (Or.inl ⟨by rfl, ?_⟩) ?_ ?_
  rotate_left
  ·
   intro w'
   go_simp
   with_reducible rfl
  rotate_left
  ·
   simp only [Act.put, List.setIfInBounds_toArray, List.set_cons_zero, List.set_cons_succ, i64_w, i32_w]
   rfl
  refine pure_ (i := 24) (N := some 33) (v := ?_) (a' := ?_) #[true, true, true, true, true, true, true, true, true, true, true, true, true, true, true, true, true, true, true, true, true, true, true, true, true, true, false, false, false, false] rfl rfl (any_of HT_.out (by kernel_rfl)) (fun _ _ _ h => h) (Or.inl ⟨by rfl, ?_⟩) ?_ ?_
  rotate_left
  ·
   intro w'
   go_simp
   with_reducible rfl
  rotate_left
  ·
   simp only [Act.put, List.setIfInBounds_toArray, List.set_cons_zero, List.set_cons_succ, i64_w, i32_w]
   rfl
  refine one_ (i := 26) (N := some 35) #[true, true, true, true, true, true, true, true, true, true, true, true, true, true, true, true, true, true, true, true, true, true, true, true, true, true, true, false, false, false] rfl rfl (one_of HT_.out (by kernel_rfl)) (by decide) (fun K hK => ?_)
  refine goes_ Tryd.func56 (by kernel_rfl) rfl #[.agg #[.int .i64 t192, .int .i64 t193, .int .i64 t194, .int .i64 t195, .int .i64 t196, .int .i64 t197]] (by rfl) rfl rfl (by (try simp only [List.map_toArray, List.map_cons, List.map_nil]); first | done | rfl | (simp only [List.length_drop, List.length_take]; rfl)) ?_
  with_reducible refine (impl_clock.calls t192 t193 t194 t195 t196 t197 t210 _ A24.out).mono ?_
  rintro e w36 ⟨rfl, hb⟩
  have HS6_ := (hb.cell (World.block_lt_of_cell? _ _ (hHeld.2.2.2.2.2.2.1))).trans (hHeld.2.2.2.2.2.2.1)
  have HS7_ := (hb.cell (World.block_lt_of_cell? _ _ (hHeld.2.2.2.2.2.2.2))).trans (hHeld.2.2.2.2.2.2.2)
  refine ⟨_, rfl, ?_⟩
  have n0_ := Aside0.mk (Kd.R_below (by (with_reducible repeat (first | apply Kd.R_alloc | apply Kd.R_drewN | apply Kd.R_drew)); exact HO201.out) hb)
  have n1_ := Aside0.mk (Kd.R_below (by (with_reducible repeat (first | apply Kd.R_alloc | apply Kd.R_drewN | apply Kd.R_drew)); exact HO207.out) hb)
  have n2_ := Aside0.mk (blk_below (g := gb198) (o := .cells #[.int .i64 t192, .int .i64 t193, .int .i64 t194, .int .i64 t195, .int .i64 t196, .int .i64 t197] 30 (0, 0)) (by (with_reducible repeat (first | refine blk_drewN ?_ _ | refine blk_drew ?_ | refine blk_alloc ?_ _)); exact BK198.out) hb)
  have n3_ := Aside0.mk (below_step (by repeat (first | (with_reducible first | exact HB.out | apply below_alloc | apply pw_below_drewN | apply below_drew1 | refine below_set ?_ GE198.out) | exact HB.out)) hb)
  clear HO201
  clear HO207
  clear BK198
  clear HB
  have HO201 := n0_
  have HO207 := n1_
  have BK198 := n2_
  have HB := n3_
  clear n0_ n1_ n2_ n3_
  (try clear hb)
  (try clear hb2)
  (try clear hk)
  (try clear hi)
  refine hK.out _ _ ⟨(blk_cell BK198.out 0).trans rfl, (blk_cell BK198.out 1).trans rfl, (blk_cell BK198.out 2).trans rfl, (blk_cell BK198.out 3).trans rfl, (blk_cell BK198.out 4).trans rfl, (blk_cell BK198.out 5).trans rfl, HS6_, HS7_⟩ (fun hHeld => ?_)
  clear hK K
  refine norm_ (a' := ?_) ?_ ?_
  rotate_left
  ·
   show Act.put _ (some 35) _ = _
   simp only [Act.put, List.setIfInBounds_toArray, List.set_cons_zero, List.set_cons_succ, i64_w, i32_w]
   rfl
  refine pure_ (i := 27) (N := some 36) (v := ?_) (a' := ?_) #[true, true, true, true, true, true, true, true, true, true, true, true, true, true, true, true, true, true, true, true, true, true, true, true, true, true, true, true, false, false] rfl rfl (any_of HT_.out (by kernel_rfl)) (fun _ _ _ h => h) (Or.inl ⟨by rfl, ?_⟩) ?_ ?_
  rotate_left
  ·
   intro w'
   go_simp
   with_reducible rfl
  rotate_left
  ·
   simp only [Act.put, List.setIfInBounds_toArray, List.set_cons_zero, List.set_cons_succ, i64_w, i32_w]
   rfl
  refine pure_ (i := 28) (N := some 37) (v := ?_) (a' := ?_) #[true, true, true, true, true, true, true, true, true, true, true, true, true, true, true, true, true, true, true, true, true, true, true, true, true, true, true, true, true, false] rfl rfl (any_of HT_.out (by kernel_rfl)) (fun _ _ _ h => h) (Or.inl ⟨by rfl, ?_⟩) ?_ ?_
  rotate_left
  ·
   intro w'
   go_simp
   with_reducible rfl
  rotate_left
  ·
   simp only [Act.put, List.setIfInBounds_toArray, List.set_cons_zero, List.set_cons_succ, i64_w, i32_w]
   rfl
  refine pure_ (i := 29) (N := some 2) (v := ?_) (a' := ?_) #[true, true, true, true, true, true, true, true, true, true, true, true, true, true, true, true, true, true, true, true, true, true, true, true, true, true, true, true, true, true] rfl rfl (any_of HT_.out (by kernel_rfl)) (fun _ _ _ h => h) (Or.inl ⟨by rfl, ?_⟩) ?_ ?_
  rotate_left
  ·
   intro w'
   go_simp
   with_reducible rfl
  rotate_left
  ·
   simp only [Act.put, List.setIfInBounds_toArray, List.set_cons_zero, List.set_cons_succ, i64_w, i32_w]
   rfl
  refine done_ (done_of HT_.out (by kernel_rfl)) ?_
  try go_wp2
  go_ret
  exact ⟨by first | rfl | (simp [errW_none, errW_some] <;> rfl) | (simp only [← hji16]; first | rfl | (simp [errW_none, errW_some] <;> rfl)) | (simp [*, errW_none, errW_some] <;> rfl), by repeat (first | (with_reducible first | exact HB.out | apply below_alloc | apply pw_below_drewN | apply below_drew1 | refine below_set ?_ GE198.out) | exact HB.out)⟩
 ·
  replace c3 := Bool.eq_false_iff.mpr c3
  subst c3
  have H1 : (some (⟨#[]⟩ : ByteArray)) = some r := by rw [if_neg (show ¬ (false = true) by decide)] at H; exact H
  clear H
  have H := H1
  clear H1
  obtain rfl := Option.some.inj H
  go_enter Tryd.func27, Tryd.ntmps27
  go_wp2_with (first | ((with_reducible refine gate_callee (f := 45) rfl ?_); refine goesL_ (some 5) rfl rfl Tryd.func45 (by kernel_rfl) rfl #[.int .i64 a0] rfl (by (try simp only [List.map_toArray, List.map_cons, List.map_nil]); first | done | rfl | (simp only [List.length_drop, List.length_take]; rfl)) ?_; (with_reducible refine (impl_isTime.calls a0 false _ A2.out).mono ?_); rintro e w' ⟨rfl, ⟨nd, rfl⟩⟩; refine ⟨_, rfl, ?_⟩))
  go_ret
  exact ⟨by first | rfl | (simp [errW_none, errW_some] <;> rfl) | (simp [*, errW_none, errW_some] <;> rfl), by repeat (first | (with_reducible first | exact HB.out | apply below_alloc | apply pw_below_drewN | apply below_drew1) | exact HB.out)⟩

end Go.Proofs.YtgjbhdfncappdaaDoor.PFnExactReadHttpDate
namespace Go.Proofs.YtgjbhdfncappdaaDoor.PFnExactReadHttpDate
open Go.Proofs.YtgjbhdfncappdaaDoor.Foreign
open Go.RowKit Go.Proofs.YtgjbhdfncappdaaDoorV.PrintWords Go.Proofs.YtgjbhdfncappdaaDoorV.PrintLast Go.Proofs.YtgjbhdfncappdaaDoorV.PrintMore
attribute [local go_sem] max2_int min2_int max_two min_two max_three min_three max_four min_four   -- for this text's walks alone
set_option linter.unusedVariables false
set_option linter.unusedSimpArgs false

/-! ### impl_LongDate: function 29 -/
def impl_LongDate.j0 : Nat → Int → Bool → Option (ByteArray)
 | 0, _, _ => none
 | k + 1, x0, x12 => if x12 = true then (some (⟨#[]⟩ : ByteArray)) else ((impl_civilOf.f x0).bind fun bt218 => ((impl_days.f).bind fun t225 => ((impl_Weekday.f x0).bind fun t228 => (if 0 ≤ t228 then (if t228 < (t225.length : Int) then (if (rdOf ByteArray.empty t225 t228).size + 2 ≤ 9223372036854775807 then ((impl_digits.f bt218.2.2.1 2).bind fun t230 => (if ((rdOf ByteArray.empty t225 t228) ++ (⟨#[44, 32]⟩ : ByteArray)).size + t230.size ≤ 9223372036854775807 then (if (((rdOf ByteArray.empty t225 t228) ++ (⟨#[44, 32]⟩ : ByteArray)) ++ t230).size + 1 ≤ 9223372036854775807 then ((impl_months.f).bind fun t231 => (if 0 ≤ (wrap64 (bt218.2.1 - 1)) then (if (wrap64 (bt218.2.1 - 1)) < (t231.length : Int) then (if ((((rdOf ByteArray.empty t225 t228) ++ (⟨#[44, 32]⟩ : ByteArray)) ++ t230) ++ (⟨#[45]⟩ : ByteArray)).size + (rdOf ByteArray.empty t231 (wrap64 (bt218.2.1 - 1))).size ≤ 9223372036854775807 then (if (((((rdOf ByteArray.empty t225 t228) ++ (⟨#[44, 32]⟩ : ByteArray)) ++ t230) ++ (⟨#[45]⟩ : ByteArray)) ++ (rdOf ByteArray.empty t231 (wrap64 (bt218.2.1 - 1)))).size + 1 ≤ 9223372036854775807 then ((impl_digits.f bt218.1 2).bind fun t235 => (if ((((((rdOf ByteArray.empty t225 t228) ++ (⟨#[44, 32]⟩ : ByteArray)) ++ t230) ++ (⟨#[45]⟩ : ByteArray)) ++ (rdOf ByteArray.empty t231 (wrap64 (bt218.2.1 - 1)))) ++ (⟨#[45]⟩ : ByteArray)).size + t235.size ≤ 9223372036854775807 then (if (((((((rdOf ByteArray.empty t225 t228) ++ (⟨#[44, 32]⟩ : ByteArray)) ++ t230) ++ (⟨#[45]⟩ : ByteArray)) ++ (rdOf ByteArray.empty t231 (wrap64 (bt218.2.1 - 1)))) ++ (⟨#[45]⟩ : ByteArray)) ++ t235).size + 1 ≤ 9223372036854775807 then ((impl_clock.f bt218.1 bt218.2.1 bt218.2.2.1 bt218.2.2.2.1 bt218.2.2.2.2.1 bt218.2.2.2.2.2).bind fun t236 => (if ((((((((rdOf ByteArray.empty t225 t228) ++ (⟨#[44, 32]⟩ : ByteArray)) ++ t230) ++ (⟨#[45]⟩ : ByteArray)) ++ (rdOf ByteArray.empty t231 (wrap64 (bt218.2.1 - 1)))) ++ (⟨#[45]⟩ : ByteArray)) ++ t235) ++ (⟨#[32]⟩ : ByteArray)).size + t236.size ≤ 9223372036854775807 then (if (((((((((rdOf ByteArray.empty t225 t228) ++ (⟨#[44, 32]⟩ : ByteArray)) ++ t230) ++ (⟨#[45]⟩ : ByteArray)) ++ (rdOf ByteArray.empty t231 (wrap64 (bt218.2.1 - 1)))) ++ (⟨#[45]⟩ : ByteArray)) ++ t235) ++ (⟨#[32]⟩ : ByteArray)) ++ t236).size + 4 ≤ 9223372036854775807 then (some ((((((((((rdOf ByteArray.empty t225 t228) ++ (⟨#[44, 32]⟩ : ByteArray)) ++ t230) ++ (⟨#[45]⟩ : ByteArray)) ++ (rdOf ByteArray.empty t231 (wrap64 (bt218.2.1 - 1)))) ++ (⟨#[45]⟩ : ByteArray)) ++ t235) ++ (⟨#[32]⟩ : ByteArray)) ++ t236) ++ (⟨#[32, 71, 77, 84]⟩ : ByteArray))) else (none)) else (none))) else (none)) else (none))) else (none)) else (none)) else (none)) else (none))) else (none)) else (none))) else (none)) else (none)) else (none)))))
def impl_LongDate.f (k : Nat) (a0 : Int) : Option (ByteArray) := (impl_isTime.f a0).bind fun t211 => (if t211 = true then ((impl_civilOf.f a0).bind fun bt212 => (impl_LongDate.j0 k a0 (decide (bt212.1 > 2069)))) else (impl_LongDate.j0 k a0 true))
theorem impl_LongDate.mono_l : ∀ k, (∀ y0 y1, LeO (impl_LongDate.j0 k y0 y1) (impl_LongDate.j0 (k + 1) y0 y1))
 | 0 => fun _ _ r h => by simp [impl_LongDate.j0] at h
 | k + 1 => by
  have ih0 := impl_LongDate.mono_l k
  ·
   intro y0 y1
   unfold impl_LongDate.j0
   repeat' first
   | (with_reducible exact ih0 _ _)
   | (with_reducible exact LeO.refl _)
   | (with_reducible exact LeO.none _)
   | (with_reducible refine LeO.ite ?_ ?_)
   | (with_reducible refine LeO.bind ?_ (fun _ => ?_))
   | exact ih0 _ _
   | exact LeO.none _
   | refine LeO.ite ?_ ?_
   | refine LeO.bind ?_ (fun _ => ?_)
theorem impl_LongDate.mono : ∀ a0 k, LeO (impl_LongDate.f k a0) (impl_LongDate.f (k + 1) a0) := by
 intro a0 k
 have ih0 := impl_LongDate.mono_l k
 unfold impl_LongDate.f
 repeat' first
   | (with_reducible exact ih0 _ _)
   | (with_reducible exact LeO.refl _)
   | (with_reducible exact LeO.none _)
   | (with_reducible refine LeO.ite ?_ ?_)
   | (with_reducible refine LeO.bind ?_ (fun _ => ?_))
   | exact ih0 _ _
   | exact LeO.none _
   | refine LeO.ite ?_ ?_
   | refine LeO.bind ?_ (fun _ => ?_)
def impl_LongDate.T4 : Bool × List (List Nat × List Nat) := (true, [([], []), ([], []), ([1, 0], [1]), ([0, 2], [0, 2]), ([3], [3]), ([4], [4]), ([], []), ([6], [6]), ([7, 2], [7]), ([5, 8], [5, 8]), ([9], [9]), ([8], []), ([], []), ([12], [12]), ([13], [13]), ([11, 14], [11, 14]), ([15], [15]), ([10, 16], [10, 16]), ([17], [17]), ([], []), ([19], [19]), ([20, 11], [20]), ([18, 21], [18, 21]), ([22], [22]), ([], []), ([24, 21], [24]), ([23, 25], [23, 25]), ([26], [26]), ([27, 25, 0, 1, 2, 3, 4, 5, 6, 7, 8, 9, 10, 11, 12, 13, 14, 15, 16, 17, 18, 19, 20, 21, 22, 23, 24, 25, 26, 27], [27])])
def impl_LongDate.B4 : List Nat := [0, 0, 3, 7, 15, 31, 0, 64, 199, 511, 1023, 455, 0, 4096, 12288, 31175, 63943, 131071, 262143, 0, 524288, 1575367, 4194303, 8388607, 0, 20449735, 67108863, 134217727, 268435455]
theorem impl_LongDate.tab4 : rtab .any (opsOf Tryd.f29 4) = impl_LongDate.T4 := by kernel_rfl
theorem impl_LongDate.bits4 : waitsOk impl_LongDate.T4.2 impl_LongDate.B4 = true := by kernel_rfl
set_option maxHeartbeats 8000000 in
set_option maxRecDepth 100000 in
theorem impl_LongDate.calls (k : Nat) (a0 : Int) (r : ByteArray) (w : World) (h : impl_LongDate.f k a0 = some r) :
  Calls Tryd.prog 29 #[.int .i64 a0] w fun e w' => e = .returned (.string r) ∧ Below w.heap.size w w' := by
 have hu30 := Tryd.underlying30
 have hfd30_0 : ∀ (x0_ x1_ x2_ x3_ x4_ x5_ : Value) (W : World), (Instr.field 30 (.agg #[x0_, x1_, x2_, x3_, x4_, x5_]) 0).run Tryd.prog W = .ok x0_ W := fun _ _ _ _ _ _ _ => by kernel_rfl
 have HB := Aside0.mk (Below.refl w.heap.size w)
 have H : ((impl_isTime.f a0).bind fun t211 => (if t211 = true then ((impl_civilOf.f a0).bind fun bt212 => (impl_LongDate.j0 k a0 (decide (bt212.1 > 2069)))) else (impl_LongDate.j0 k a0 true))) = some r := h
 clear h
 have HC2 := Aside0.mk H
 clear H
 go_enter Tryd.func29, Tryd.ntmps29
 go_upto_region 1 with (fail)
 go_cut [12] (fun v12 wc => ∃ (kq : Nat) (x12_1 : Bool), v12 = .bool x12_1 ∧ Aside0 (impl_LongDate.j0 kq a0 x12_1 = some r) ∧ Aside0 (kq ≤ k) ∧ Aside0 (Below w.heap.size w wc))
 case first =>
  have H := HC2.out
  clear HC2
  replace H := Option.bind_eq_some_iff.mp H
  obtain ⟨t211, A30, H⟩ := H
  replace H : (if t211 = true then ((impl_civilOf.f a0).bind fun bt212 => (impl_LongDate.j0 k a0 (decide (bt212.1 > 2069)))) else (impl_LongDate.j0 k a0 true)) = some r := H
  have A3 := Aside0.mk A30
  clear A30
  by_cases c4 : t211 = true
  ·
   subst c4
   have H1 : ((impl_civilOf.f a0).bind fun bt212 => (impl_LongDate.j0 k a0 (decide (bt212.1 > 2069)))) = some r := by rw [if_pos rfl] at H; exact H
   clear H
   have H := H1
   clear H1
   replace H := Option.bind_eq_some_iff.mp H
   obtain ⟨⟨t212, t213, t214, t215, t216, t217⟩, A50, H⟩ := H
   replace H : (impl_LongDate.j0 k a0 (decide (t212 > 2069))) = some r := H
   have A5 := Aside0.mk A50
   clear A50
   have H' := Aside0.mk H
   clear H
   go_wp2_with (first | ((with_reducible refine gate_callee (f := 45) rfl ?_); refine goesL_ (some 5) rfl rfl Tryd.func45 (by kernel_rfl) rfl #[.int .i64 a0] rfl (by (try simp only [List.map_toArray, List.map_cons, List.map_nil]); first | done | rfl | (simp only [List.length_drop, List.length_take]; rfl)) ?_; (with_reducible refine (impl_isTime.calls a0 true _ A3.out).mono ?_); rintro e w' ⟨rfl, ⟨nd, rfl⟩⟩; refine ⟨_, rfl, ?_⟩) | (go_at_call 46; (with_reducible refine (impl_civilOf.calls a0 t212 t213 t214 t215 t216 t217 _ A5.out).mono ?_); rintro e w6 ⟨rfl, hb⟩; have n0_ := Aside0.mk (below_step (by repeat (first | (with_reducible first | exact HB.out | apply below_alloc | apply pw_below_drewN | apply below_drew1) | exact HB.out)) hb); clear HB; have HB := n0_; clear n0_; (try clear hb); (try clear hb2); (try clear hk); (try clear hi)))
   go_meet
   case rel => exact ⟨_, (decide (t212 > 2069)), (by first | rfl | (simp; done) | (simp [*]; done)), H', ⟨by first | omega | exact Nat.le_refl _⟩, ⟨by repeat (first | (with_reducible first | exact HB.out | apply below_alloc | apply pw_below_drewN | apply below_drew1) | exact HB.out)⟩⟩
  ·
   replace c4 := Bool.eq_false_iff.mpr c4
   subst c4
   have H1 : (impl_LongDate.j0 k a0 true) = some r := by rw [if_neg (show ¬ (false = true) by decide)] at H; exact H
   clear H
   have H := H1
   clear H1
   have H' := Aside0.mk H
   clear H
   go_wp2_with (first | ((with_reducible refine gate_callee (f := 45) rfl ?_); refine goesL_ (some 5) rfl rfl Tryd.func45 (by kernel_rfl) rfl #[.int .i64 a0] rfl (by (try simp only [List.map_toArray, List.map_cons, List.map_nil]); first | done | rfl | (simp only [List.length_drop, List.length_take]; rfl)) ?_; (with_reducible refine (impl_isTime.calls a0 false _ A3.out).mono ?_); rintro e w' ⟨rfl, ⟨nd, rfl⟩⟩; refine ⟨_, rfl, ?_⟩))
   go_meet
   case rel => exact ⟨_, (true), (by first | rfl | (simp; done) | (simp [*]; done)), H', ⟨by first | omega | exact Nat.le_refl _⟩, ⟨by repeat (first | (with_reducible first | exact HB.out | apply below_alloc | apply pw_below_drewN | apply below_drew1) | exact HB.out)⟩⟩
 case rest =>
  clear HC2
  try clear c2
  try clear p2
  try clear c4
  obtain ⟨kq, x12_1, rfl, HA, HJ1, HB⟩ := hcut
  cases kq with
  | zero => exact absurd HA.out (by simp [impl_LongDate.j0])
  | succ kj1 =>
   have H := HA.out
   clear HA
   simp only [impl_LongDate.j0] at H
   by_cases c7 : x12_1 = true
   ·
    subst c7
    have H1 : (some (⟨#[]⟩ : ByteArray)) = some r := by rw [if_pos rfl] at H; exact H
    clear H
    have H := H1
    clear H1
    obtain rfl := Option.some.inj H
    go_wp2
    go_ret
    exact ⟨by first | rfl | (simp [errW_none, errW_some] <;> rfl) | (simp [*, errW_none, errW_some] <;> rfl), by repeat (first | (with_reducible first | exact HB.out | apply below_alloc | apply pw_below_drewN | apply below_drew1) | exact HB.out)⟩
   ·
    replace c7 := Bool.eq_false_iff.mpr c7
    subst c7
    have H1 : ((impl_civilOf.f a0).bind fun bt218 => ((impl_days.f).bind fun t225 => ((impl_Weekday.f a0).bind fun t228 => (if 0 ≤ t228 then (if t228 < (t225.length : Int) then (if (rdOf ByteArray.empty t225 t228).size + 2 ≤ 9223372036854775807 then ((impl_digits.f bt218.2.2.1 2).bind fun t230 => (if ((rdOf ByteArray.empty t225 t228) ++ (⟨#[44, 32]⟩ : ByteArray)).size + t230.size ≤ 9223372036854775807 then (if (((rdOf ByteArray.empty t225 t228) ++ (⟨#[44, 32]⟩ : ByteArray)) ++ t230).size + 1 ≤ 9223372036854775807 then ((impl_months.f).bind fun t231 => (if 0 ≤ (wrap64 (bt218.2.1 - 1)) then (if (wrap64 (bt218.2.1 - 1)) < (t231.length : Int) then (if ((((rdOf ByteArray.empty t225 t228) ++ (⟨#[44, 32]⟩ : ByteArray)) ++ t230) ++ (⟨#[45]⟩ : ByteArray)).size + (rdOf ByteArray.empty t231 (wrap64 (bt218.2.1 - 1))).size ≤ 9223372036854775807 then (if (((((rdOf ByteArray.empty t225 t228) ++ (⟨#[44, 32]⟩ : ByteArray)) ++ t230) ++ (⟨#[45]⟩ : ByteArray)) ++ (rdOf ByteArray.empty t231 (wrap64 (bt218.2.1 - 1)))).size + 1 ≤ 9223372036854775807 then ((impl_digits.f bt218.1 2).bind fun t235 => (if ((((((rdOf ByteArray.empty t225 t228) ++ (⟨#[44, 32]⟩ : ByteArray)) ++ t230) ++ (⟨#[45]⟩ : ByteArray)) ++ (rdOf ByteArray.empty t231 (wrap64 (bt218.2.1 - 1)))) ++ (⟨#[45]⟩ : ByteArray)).size + t235.size ≤ 9223372036854775807 then (if (((((((rdOf ByteArray.empty t225 t228) ++ (⟨#[44, 32]⟩ : ByteArray)) ++ t230) ++ (⟨#[45]⟩ : ByteArray)) ++ (rdOf ByteArray.empty t231 (wrap64 (bt218.2.1 - 1)))) ++ (⟨#[45]⟩ : ByteArray)) ++ t235).size + 1 ≤ 9223372036854775807 then ((impl_clock.f bt218.1 bt218.2.1 bt218.2.2.1 bt218.2.2.2.1 bt218.2.2.2.2.1 bt218.2.2.2.2.2).bind fun t236 => (if ((((((((rdOf ByteArray.empty t225 t228) ++ (⟨#[44, 32]⟩ : ByteArray)) ++ t230) ++ (⟨#[45]⟩ : ByteArray)) ++ (rdOf ByteArray.empty t231 (wrap64 (bt218.2.1 - 1)))) ++ (⟨#[45]⟩ : ByteArray)) ++ t235) ++ (⟨#[32]⟩ : ByteArray)).size + t236.size ≤ 9223372036854775807 then (if (((((((((rdOf ByteArray.empty t225 t228) ++ (⟨#[44, 32]⟩ : ByteArray)) ++ t230) ++ (⟨#[45]⟩ : ByteArray)) ++ (rdOf ByteArray.empty t231 (wrap64 (bt218.2.1 - 1)))) ++ (⟨#[45]⟩ : ByteArray)) ++ t235) ++ (⟨#[32]⟩ : ByteArray)) ++ t236).size + 4 ≤ 9223372036854775807 then (some ((((((((((rdOf ByteArray.empty t225 t228) ++ (⟨#[44, 32]⟩ : ByteArray)) ++ t230) ++ (⟨#[45]⟩ : ByteArray)) ++ (rdOf ByteArray.empty t231 (wrap64 (bt218.2.1 - 1)))) ++ (⟨#[45]⟩ : ByteArray)) ++ t235) ++ (⟨#[32]⟩ : ByteArray)) ++ t236) ++ (⟨#[32, 71, 77, 84]⟩ : ByteArray))) else (none)) else (none))) else (none)) else (none))) else (none)) else (none)) else (none)) else (none))) else (none)) else (none))) else (none)) else (none)) else (none))))) = some r := by rw [if_neg (show ¬ (false = true) by decide)] at H; exact H
    clear H
    have H := H1
    clear H1
    replace H := Option.bind_eq_some_iff.mp H
    obtain ⟨⟨t218, t219, t220, t221, t222, t223⟩, A80, H⟩ := H
    replace H : ((impl_days.f).bind fun t225 => ((impl_Weekday.f a0).bind fun t228 => (if 0 ≤ t228 then (if t228 < (t225.length : Int) then (if (rdOf ByteArray.empty t225 t228).size + 2 ≤ 9223372036854775807 then ((impl_digits.f t220 2).bind fun t230 => (if ((rdOf ByteArray.empty t225 t228) ++ (⟨#[44, 32]⟩ : ByteArray)).size + t230.size ≤ 9223372036854775807 then (if (((rdOf ByteArray.empty t225 t228) ++ (⟨#[44, 32]⟩ : ByteArray)) ++ t230).size + 1 ≤ 9223372036854775807 then ((impl_months.f).bind fun t231 => (if 0 ≤ (wrap64 (t219 - 1)) then (if (wrap64 (t219 - 1)) < (t231.length : Int) then (if ((((rdOf ByteArray.empty t225 t228) ++ (⟨#[44, 32]⟩ : ByteArray)) ++ t230) ++ (⟨#[45]⟩ : ByteArray)).size + (rdOf ByteArray.empty t231 (wrap64 (t219 - 1))).size ≤ 9223372036854775807 then (if (((((rdOf ByteArray.empty t225 t228) ++ (⟨#[44, 32]⟩ : ByteArray)) ++ t230) ++ (⟨#[45]⟩ : ByteArray)) ++ (rdOf ByteArray.empty t231 (wrap64 (t219 - 1)))).size + 1 ≤ 9223372036854775807 then ((impl_digits.f t218 2).bind fun t235 => (if ((((((rdOf ByteArray.empty t225 t228) ++ (⟨#[44, 32]⟩ : ByteArray)) ++ t230) ++ (⟨#[45]⟩ : ByteArray)) ++ (rdOf ByteArray.empty t231 (wrap64 (t219 - 1)))) ++ (⟨#[45]⟩ : ByteArray)).size + t235.size ≤ 9223372036854775807 then (if (((((((rdOf ByteArray.empty t225 t228) ++ (⟨#[44, 32]⟩ : ByteArray)) ++ t230) ++ (⟨#[45]⟩ : ByteArray)) ++ (rdOf ByteArray.empty t231 (wrap64 (t219 - 1)))) ++ (⟨#[45]⟩ : ByteArray)) ++ t235).size + 1 ≤ 9223372036854775807 then ((impl_clock.f t218 t219 t220 t221 t222 t223).bind fun t236 => (if ((((((((rdOf ByteArray.empty t225 t228) ++ (⟨#[44, 32]⟩ : ByteArray)) ++ t230) ++ (⟨#[45]⟩ : ByteArray)) ++ (rdOf ByteArray.empty t231 (wrap64 (t219 - 1)))) ++ (⟨#[45]⟩ : ByteArray)) ++ t235) ++ (⟨#[32]⟩ : ByteArray)).size + t236.size ≤ 9223372036854775807 then (if (((((((((rdOf ByteArray.empty t225 t228) ++ (⟨#[44, 32]⟩ : ByteArray)) ++ t230) ++ (⟨#[45]⟩ : ByteArray)) ++ (rdOf ByteArray.empty t231 (wrap64 (t219 - 1)))) ++ (⟨#[45]⟩ : ByteArray)) ++ t235) ++ (⟨#[32]⟩ : ByteArray)) ++ t236).size + 4 ≤ 9223372036854775807 then (some ((((((((((rdOf ByteArray.empty t225 t228) ++ (⟨#[44, 32]⟩ : ByteArray)) ++ t230) ++ (⟨#[45]⟩ : ByteArray)) ++ (rdOf ByteArray.empty t231 (wrap64 (t219 - 1)))) ++ (⟨#[45]⟩ : ByteArray)) ++ t235) ++ (⟨#[32]⟩ : ByteArray)) ++ t236) ++ (⟨#[32, 71, 77, 84]⟩ : ByteArray))) else (none)) else (none))) else (none)) else (none))) else (none)) else (none)) else (none)) else (none))) else (none)) else (none))) else (none)) else (none)) else (none)))) = some r := H
    have A8 := Aside0.mk A80
    clear A80
    replace H := Option.bind_eq_some_iff.mp H
    obtain ⟨t225, A90, H⟩ := H
    replace H : ((impl_Weekday.f a0).bind fun t228 => (if 0 ≤ t228 then (if t228 < (t225.length : Int) then (if (rdOf ByteArray.empty t225 t228).size + 2 ≤ 9223372036854775807 then ((impl_digits.f t220 2).bind fun t230 => (if ((rdOf ByteArray.empty t225 t228) ++ (⟨#[44, 32]⟩ : ByteArray)).size + t230.size ≤ 9223372036854775807 then (if (((rdOf ByteArray.empty t225 t228) ++ (⟨#[44, 32]⟩ : ByteArray)) ++ t230).size + 1 ≤ 9223372036854775807 then ((impl_months.f).bind fun t231 => (if 0 ≤ (wrap64 (t219 - 1)) then (if (wrap64 (t219 - 1)) < (t231.length : Int) then (if ((((rdOf ByteArray.empty t225 t228) ++ (⟨#[44, 32]⟩ : ByteArray)) ++ t230) ++ (⟨#[45]⟩ : ByteArray)).size + (rdOf ByteArray.empty t231 (wrap64 (t219 - 1))).size ≤ 9223372036854775807 then (if (((((rdOf ByteArray.empty t225 t228) ++ (⟨#[44, 32]⟩ : ByteArray)) ++ t230) ++ (⟨#[45]⟩ : ByteArray)) ++ (rdOf ByteArray.empty t231 (wrap64 (t219 - 1)))).size + 1 ≤ 9223372036854775807 then ((impl_digits.f t218 2).bind fun t235 => (if ((((((rdOf ByteArray.empty t225 t228) ++ (⟨#[44, 32]⟩ : ByteArray)) ++ t230) ++ (⟨#[45]⟩ : ByteArray)) ++ (rdOf ByteArray.empty t231 (wrap64 (t219 - 1)))) ++ (⟨#[45]⟩ : ByteArray)).size + t235.size ≤ 9223372036854775807 then (if (((((((rdOf ByteArray.empty t225 t228) ++ (⟨#[44, 32]⟩ : ByteArray)) ++ t230) ++ (⟨#[45]⟩ : ByteArray)) ++ (rdOf ByteArray.empty t231 (wrap64 (t219 - 1)))) ++ (⟨#[45]⟩ : ByteArray)) ++ t235).size + 1 ≤ 9223372036854775807 then ((impl_clock.f t218 t219 t220 t221 t222 t223).bind fun t236 => (if ((((((((rdOf ByteArray.empty t225 t228) ++ (⟨#[44, 32]⟩ : ByteArray)) ++ t230) ++ (⟨#[45]⟩ : ByteArray)) ++ (rdOf ByteArray.empty t231 (wrap64 (t219 - 1)))) ++ (⟨#[45]⟩ : ByteArray)) ++ t235) ++ (⟨#[32]⟩ : ByteArray)).size + t236.size ≤ 9223372036854775807 then (if (((((((((rdOf ByteArray.empty t225 t228) ++ (⟨#[44, 32]⟩ : ByteArray)) ++ t230) ++ (⟨#[45]⟩ : ByteArray)) ++ (rdOf ByteArray.empty t231 (wrap64 (t219 - 1)))) ++ (⟨#[45]⟩ : ByteArray)) ++ t235) ++ (⟨#[32]⟩ : ByteArray)) ++ t236).size + 4 ≤ 9223372036854775807 then (some ((((((((((rdOf ByteArray.empty t225 t228) ++ (⟨#[44, 32]⟩ : ByteArray)) ++ t230) ++ (⟨#[45]⟩ : ByteArray)) ++ (rdOf ByteArray.empty t231 (wrap64 (t219 - 1)))) ++ (⟨#[45]⟩ : ByteArray)) ++ t235) ++ (⟨#[32]⟩ : ByteArray)) ++ t236) ++ (⟨#[32, 71, 77, 84]⟩ : ByteArray))) else (none)) else (none))) else (none)) else (none))) else (none)) else (none)) else (none)) else (none))) else (none)) else (none))) else (none)) else (none)) else (none))) = some r := H
    have A9 := Aside0.mk A90
    clear A90
    replace H := Option.bind_eq_some_iff.mp H
    obtain ⟨t228, A100, H⟩ := H
    replace H : (if 0 ≤ t228 then (if t228 < (t225.length : Int) then (if (rdOf ByteArray.empty t225 t228).size + 2 ≤ 9223372036854775807 then ((impl_digits.f t220 2).bind fun t230 => (if ((rdOf ByteArray.empty t225 t228) ++ (⟨#[44, 32]⟩ : ByteArray)).size + t230.size ≤ 9223372036854775807 then (if (((rdOf ByteArray.empty t225 t228) ++ (⟨#[44, 32]⟩ : ByteArray)) ++ t230).size + 1 ≤ 9223372036854775807 then ((impl_months.f).bind fun t231 => (if 0 ≤ (wrap64 (t219 - 1)) then (if (wrap64 (t219 - 1)) < (t231.length : Int) then (if ((((rdOf ByteArray.empty t225 t228) ++ (⟨#[44, 32]⟩ : ByteArray)) ++ t230) ++ (⟨#[45]⟩ : ByteArray)).size + (rdOf ByteArray.empty t231 (wrap64 (t219 - 1))).size ≤ 9223372036854775807 then (if (((((rdOf ByteArray.empty t225 t228) ++ (⟨#[44, 32]⟩ : ByteArray)) ++ t230) ++ (⟨#[45]⟩ : ByteArray)) ++ (rdOf ByteArray.empty t231 (wrap64 (t219 - 1)))).size + 1 ≤ 9223372036854775807 then ((impl_digits.f t218 2).bind fun t235 => (if ((((((rdOf ByteArray.empty t225 t228) ++ (⟨#[44, 32]⟩ : ByteArray)) ++ t230) ++ (⟨#[45]⟩ : ByteArray)) ++ (rdOf ByteArray.empty t231 (wrap64 (t219 - 1)))) ++ (⟨#[45]⟩ : ByteArray)).size + t235.size ≤ 9223372036854775807 then (if (((((((rdOf ByteArray.empty t225 t228) ++ (⟨#[44, 32]⟩ : ByteArray)) ++ t230) ++ (⟨#[45]⟩ : ByteArray)) ++ (rdOf ByteArray.empty t231 (wrap64 (t219 - 1)))) ++ (⟨#[45]⟩ : ByteArray)) ++ t235).size + 1 ≤ 9223372036854775807 then ((impl_clock.f t218 t219 t220 t221 t222 t223).bind fun t236 => (if ((((((((rdOf ByteArray.empty t225 t228) ++ (⟨#[44, 32]⟩ : ByteArray)) ++ t230) ++ (⟨#[45]⟩ : ByteArray)) ++ (rdOf ByteArray.empty t231 (wrap64 (t219 - 1)))) ++ (⟨#[45]⟩ : ByteArray)) ++ t235) ++ (⟨#[32]⟩ : ByteArray)).size + t236.size ≤ 9223372036854775807 then (if (((((((((rdOf ByteArray.empty t225 t228) ++ (⟨#[44, 32]⟩ : ByteArray)) ++ t230) ++ (⟨#[45]⟩ : ByteArray)) ++ (rdOf ByteArray.empty t231 (wrap64 (t219 - 1)))) ++ (⟨#[45]⟩ : ByteArray)) ++ t235) ++ (⟨#[32]⟩ : ByteArray)) ++ t236).size + 4 ≤ 9223372036854775807 then (some ((((((((((rdOf ByteArray.empty t225 t228) ++ (⟨#[44, 32]⟩ : ByteArray)) ++ t230) ++ (⟨#[45]⟩ : ByteArray)) ++ (rdOf ByteArray.empty t231 (wrap64 (t219 - 1)))) ++ (⟨#[45]⟩ : ByteArray)) ++ t235) ++ (⟨#[32]⟩ : ByteArray)) ++ t236) ++ (⟨#[32, 71, 77, 84]⟩ : ByteArray))) else (none)) else (none))) else (none)) else (none))) else (none)) else (none)) else (none)) else (none))) else (none)) else (none))) else (none)) else (none)) else (none)) = some r := H
    have A10 := Aside0.mk A100
    clear A100
    have c11 : 0 ≤ t228 := Classical.byContradiction fun h_ => by rw [if_neg h_] at H; exact absurd H (by simp)
    rw [if_pos c11] at H
    have c11b0 : decide (0 ≤ t228) = true := decide_eq_true c11
    clear c11
    have c12 : t228 < (t225.length : Int) := Classical.byContradiction fun h_ => by rw [if_neg h_] at H; exact absurd H (by simp)
    rw [if_pos c12] at H
    have c12b0 : decide (t228 < (t225.length : Int)) = true := decide_eq_true c12
    clear c12
    have c13 : (rdOf ByteArray.empty t225 t228).size + 2 ≤ 9223372036854775807 := Classical.byContradiction fun h_ => by rw [if_neg h_] at H; exact absurd H (by simp)
    rw [if_pos c13] at H
    have c13b0 := eq_true c13
    have c13b1 : decide ((rdOf ByteArray.empty t225 t228).size + 2 ≤ 9223372036854775807) = true := decide_eq_true c13
    try have c13b2 : (9223372036854775807 < (rdOf ByteArray.empty t225 t228).size + 2) = False := eq_false (Nat.not_lt.2 c13)
    replace H := Option.bind_eq_some_iff.mp H
    obtain ⟨t230, A140, H⟩ := H
    replace H : (if ((rdOf ByteArray.empty t225 t228) ++ (⟨#[44, 32]⟩ : ByteArray)).size + t230.size ≤ 9223372036854775807 then (if (((rdOf ByteArray.empty t225 t228) ++ (⟨#[44, 32]⟩ : ByteArray)) ++ t230).size + 1 ≤ 9223372036854775807 then ((impl_months.f).bind fun t231 => (if 0 ≤ (wrap64 (t219 - 1)) then (if (wrap64 (t219 - 1)) < (t231.length : Int) then (if ((((rdOf ByteArray.empty t225 t228) ++ (⟨#[44, 32]⟩ : ByteArray)) ++ t230) ++ (⟨#[45]⟩ : ByteArray)).size + (rdOf ByteArray.empty t231 (wrap64 (t219 - 1))).size ≤ 9223372036854775807 then (if (((((rdOf ByteArray.empty t225 t228) ++ (⟨#[44, 32]⟩ : ByteArray)) ++ t230) ++ (⟨#[45]⟩ : ByteArray)) ++ (rdOf ByteArray.empty t231 (wrap64 (t219 - 1)))).size + 1 ≤ 9223372036854775807 then ((impl_digits.f t218 2).bind fun t235 => (if ((((((rdOf ByteArray.empty t225 t228) ++ (⟨#[44, 32]⟩ : ByteArray)) ++ t230) ++ (⟨#[45]⟩ : ByteArray)) ++ (rdOf ByteArray.empty t231 (wrap64 (t219 - 1)))) ++ (⟨#[45]⟩ : ByteArray)).size + t235.size ≤ 9223372036854775807 then (if (((((((rdOf ByteArray.empty t225 t228) ++ (⟨#[44, 32]⟩ : ByteArray)) ++ t230) ++ (⟨#[45]⟩ : ByteArray)) ++ (rdOf ByteArray.empty t231 (wrap64 (t219 - 1)))) ++ (⟨#[45]⟩ : ByteArray)) ++ t235).size + 1 ≤ 9223372036854775807 then ((impl_clock.f t218 t219 t220 t221 t222 t223).bind fun t236 => (if ((((((((rdOf ByteArray.empty t225 t228) ++ (⟨#[44, 32]⟩ : ByteArray)) ++ t230) ++ (⟨#[45]⟩ : ByteArray)) ++ (rdOf ByteArray.empty t231 (wrap64 (t219 - 1)))) ++ (⟨#[45]⟩ : ByteArray)) ++ t235) ++ (⟨#[32]⟩ : ByteArray)).size + t236.size ≤ 9223372036854775807 then (if (((((((((rdOf ByteArray.empty t225 t228) ++ (⟨#[44, 32]⟩ : ByteArray)) ++ t230) ++ (⟨#[45]⟩ : ByteArray)) ++ (rdOf ByteArray.empty t231 (wrap64 (t219 - 1)))) ++ (⟨#[45]⟩ : ByteArray)) ++ t235) ++ (⟨#[32]⟩ : ByteArray)) ++ t236).size + 4 ≤ 9223372036854775807 then (some ((((((((((rdOf ByteArray.empty t225 t228) ++ (⟨#[44, 32]⟩ : ByteArray)) ++ t230) ++ (⟨#[45]⟩ : ByteArray)) ++ (rdOf ByteArray.empty t231 (wrap64 (t219 - 1)))) ++ (⟨#[45]⟩ : ByteArray)) ++ t235) ++ (⟨#[32]⟩ : ByteArray)) ++ t236) ++ (⟨#[32, 71, 77, 84]⟩ : ByteArray))) else (none)) else (none))) else (none)) else (none))) else (none)) else (none)) else (none)) else (none))) else (none)) else (none)) = some r := H
    have A14 := Aside0.mk A140
    clear A140
    have c15 : ((rdOf ByteArray.empty t225 t228) ++ (⟨#[44, 32]⟩ : ByteArray)).size + t230.size ≤ 9223372036854775807 := Classical.byContradiction fun h_ => by rw [if_neg h_] at H; exact absurd H (by simp)
    rw [if_pos c15] at H
    have c15b0 := eq_true c15
    have c15b1 : decide (((rdOf ByteArray.empty t225 t228) ++ (⟨#[44, 32]⟩ : ByteArray)).size + t230.size ≤ 9223372036854775807) = true := decide_eq_true c15
    try have c15b2 : (9223372036854775807 < ((rdOf ByteArray.empty t225 t228) ++ (⟨#[44, 32]⟩ : ByteArray)).size + t230.size) = False := eq_false (Nat.not_lt.2 c15)
    (try (have c15v2 : (9223372036854775807 < ((rdOf ByteArray.empty t225 t228).size + 2) + t230.size) = False := eq_false (by have h_ := c15; simp only [ByteArray.size_append, show (⟨#[44, 32]⟩ : ByteArray).size = 2 from rfl] at h_; omega)))
    (try (have c15y0 := c15b0; simp only [ByteArray.size_append] at c15y0))
    (try (have c15z0 := c15b0; simp only [ByteArray.size_append, Int.natCast_add] at c15z0))
    (try (have c15y1 := c15b1; simp only [ByteArray.size_append] at c15y1))
    (try (have c15z1 := c15b1; simp only [ByteArray.size_append, Int.natCast_add] at c15z1))
    have c16 : (((rdOf ByteArray.empty t225 t228) ++ (⟨#[44, 32]⟩ : ByteArray)) ++ t230).size + 1 ≤ 9223372036854775807 := Classical.byContradiction fun h_ => by rw [if_neg h_] at H; exact absurd H (by simp)
    rw [if_pos c16] at H
    have c16b0 := eq_true c16
    have c16b1 : decide ((((rdOf ByteArray.empty t225 t228) ++ (⟨#[44, 32]⟩ : ByteArray)) ++ t230).size + 1 ≤ 9223372036854775807) = true := decide_eq_true c16
    try have c16b2 : (9223372036854775807 < (((rdOf ByteArray.empty t225 t228) ++ (⟨#[44, 32]⟩ : ByteArray)) ++ t230).size + 1) = False := eq_false (Nat.not_lt.2 c16)
    (try (have c16v2 : (9223372036854775807 < (((rdOf ByteArray.empty t225 t228).size + 2) + t230.size) + 1) = False := eq_false (by have h_ := c16; simp only [ByteArray.size_append, show (⟨#[44, 32]⟩ : ByteArray).size = 2 from rfl] at h_; omega)))
    (try (have c16y0 := c16b0; simp only [ByteArray.size_append] at c16y0))
    (try (have c16z0 := c16b0; simp only [ByteArray.size_append, Int.natCast_add] at c16z0))
    (try (have c16y1 := c16b1; simp only [ByteArray.size_append] at c16y1))
    (try (have c16z1 := c16b1; simp only [ByteArray.size_append, Int.natCast_add] at c16z1))
    replace H := Option.bind_eq_some_iff.mp H
    obtain ⟨t231, A170, H⟩ := H
    replace H : (if 0 ≤ (wrap64 (t219 - 1)) then (if (wrap64 (t219 - 1)) < (t231.length : Int) then (if ((((rdOf ByteArray.empty t225 t228) ++ (⟨#[44, 32]⟩ : ByteArray)) ++ t230) ++ (⟨#[45]⟩ : ByteArray)).size + (rdOf ByteArray.empty t231 (wrap64 (t219 - 1))).size ≤ 9223372036854775807 then (if (((((rdOf ByteArray.empty t225 t228) ++ (⟨#[44, 32]⟩ : ByteArray)) ++ t230) ++ (⟨#[45]⟩ : ByteArray)) ++ (rdOf ByteArray.empty t231 (wrap64 (t219 - 1)))).size + 1 ≤ 9223372036854775807 then ((impl_digits.f t218 2).bind fun t235 => (if ((((((rdOf ByteArray.empty t225 t228) ++ (⟨#[44, 32]⟩ : ByteArray)) ++ t230) ++ (⟨#[45]⟩ : ByteArray)) ++ (rdOf ByteArray.empty t231 (wrap64 (t219 - 1)))) ++ (⟨#[45]⟩ : ByteArray)).size + t235.size ≤ 9223372036854775807 then (if (((((((rdOf ByteArray.empty t225 t228) ++ (⟨#[44, 32]⟩ : ByteArray)) ++ t230) ++ (⟨#[45]⟩ : ByteArray)) ++ (rdOf ByteArray.empty t231 (wrap64 (t219 - 1)))) ++ (⟨#[45]⟩ : ByteArray)) ++ t235).size + 1 ≤ 9223372036854775807 then ((impl_clock.f t218 t219 t220 t221 t222 t223).bind fun t236 => (if ((((((((rdOf ByteArray.empty t225 t228) ++ (⟨#[44, 32]⟩ : ByteArray)) ++ t230) ++ (⟨#[45]⟩ : ByteArray)) ++ (rdOf ByteArray.empty t231 (wrap64 (t219 - 1)))) ++ (⟨#[45]⟩ : ByteArray)) ++ t235) ++ (⟨#[32]⟩ : ByteArray)).size + t236.size ≤ 9223372036854775807 then (if (((((((((rdOf ByteArray.empty t225 t228) ++ (⟨#[44, 32]⟩ : ByteArray)) ++ t230) ++ (⟨#[45]⟩ : ByteArray)) ++ (rdOf ByteArray.empty t231 (wrap64 (t219 - 1)))) ++ (⟨#[45]⟩ : ByteArray)) ++ t235) ++ (⟨#[32]⟩ : ByteArray)) ++ t236).size + 4 ≤ 9223372036854775807 then (some ((((((((((rdOf ByteArray.empty t225 t228) ++ (⟨#[44, 32]⟩ : ByteArray)) ++ t230) ++ (⟨#[45]⟩ : ByteArray)) ++ (rdOf ByteArray.empty t231 (wrap64 (t219 - 1)))) ++ (⟨#[45]⟩ : ByteArray)) ++ t235) ++ (⟨#[32]⟩ : ByteArray)) ++ t236) ++ (⟨#[32, 71, 77, 84]⟩ : ByteArray))) else (none)) else (none))) else (none)) else (none))) else (none)) else (none)) else (none)) else (none)) = some r := H
    have A17 := Aside0.mk A170
    clear A170
    obtain ⟨ji18, hji18⟩ : ∃ j_ : Int, (wrap64 (t219 - 1)) = j_ := ⟨_, rfl⟩
    replace H : (if 0 ≤ (ji18) then (if (ji18) < (t231.length : Int) then (if ((((rdOf ByteArray.empty t225 t228) ++ (⟨#[44, 32]⟩ : ByteArray)) ++ t230) ++ (⟨#[45]⟩ : ByteArray)).size + (rdOf ByteArray.empty t231 (ji18)).size ≤ 9223372036854775807 then (if (((((rdOf ByteArray.empty t225 t228) ++ (⟨#[44, 32]⟩ : ByteArray)) ++ t230) ++ (⟨#[45]⟩ : ByteArray)) ++ (rdOf ByteArray.empty t231 (ji18))).size + 1 ≤ 9223372036854775807 then ((impl_digits.f t218 2).bind fun t235 => (if ((((((rdOf ByteArray.empty t225 t228) ++ (⟨#[44, 32]⟩ : ByteArray)) ++ t230) ++ (⟨#[45]⟩ : ByteArray)) ++ (rdOf ByteArray.empty t231 (ji18))) ++ (⟨#[45]⟩ : ByteArray)).size + t235.size ≤ 9223372036854775807 then (if (((((((rdOf ByteArray.empty t225 t228) ++ (⟨#[44, 32]⟩ : ByteArray)) ++ t230) ++ (⟨#[45]⟩ : ByteArray)) ++ (rdOf ByteArray.empty t231 (ji18))) ++ (⟨#[45]⟩ : ByteArray)) ++ t235).size + 1 ≤ 9223372036854775807 then ((impl_clock.f t218 t219 t220 t221 t222 t223).bind fun t236 => (if ((((((((rdOf ByteArray.empty t225 t228) ++ (⟨#[44, 32]⟩ : ByteArray)) ++ t230) ++ (⟨#[45]⟩ : ByteArray)) ++ (rdOf ByteArray.empty t231 (ji18))) ++ (⟨#[45]⟩ : ByteArray)) ++ t235) ++ (⟨#[32]⟩ : ByteArray)).size + t236.size ≤ 9223372036854775807 then (if (((((((((rdOf ByteArray.empty t225 t228) ++ (⟨#[44, 32]⟩ : ByteArray)) ++ t230) ++ (⟨#[45]⟩ : ByteArray)) ++ (rdOf ByteArray.empty t231 (ji18))) ++ (⟨#[45]⟩ : ByteArray)) ++ t235) ++ (⟨#[32]⟩ : ByteArray)) ++ t236).size + 4 ≤ 9223372036854775807 then (some ((((((((((rdOf ByteArray.empty t225 t228) ++ (⟨#[44, 32]⟩ : ByteArray)) ++ t230) ++ (⟨#[45]⟩ : ByteArray)) ++ (rdOf ByteArray.empty t231 (ji18))) ++ (⟨#[45]⟩ : ByteArray)) ++ t235) ++ (⟨#[32]⟩ : ByteArray)) ++ t236) ++ (⟨#[32, 71, 77, 84]⟩ : ByteArray))) else (none)) else (none))) else (none)) else (none))) else (none)) else (none)) else (none)) else (none)) = some r := by first | (rw [hji18] at H; exact H) | (simp only [hji18] at H ⊢; exact H)
    (try rw [hji18] at A8)
    (try rw [hji18] at A9)
    (try rw [hji18] at A10)
    (try rw [hji18] at A14)
    (try rw [hji18] at A17)
    have hji18w : (IntKind.i64.wrap (t219 - 1)) = ji18 := (i64_w _).trans hji18
    have c19 : 0 ≤ (ji18) := Classical.byContradiction fun h_ => by rw [if_neg h_] at H; exact absurd H (by simp)
    rw [if_pos c19] at H
    have c19b0 : decide (0 ≤ (ji18)) = true := decide_eq_true c19
    clear c19
    have c20 : (ji18) < (t231.length : Int) := Classical.byContradiction fun h_ => by rw [if_neg h_] at H; exact absurd H (by simp)
    rw [if_pos c20] at H
    have c20b0 : decide ((ji18) < (t231.length : Int)) = true := decide_eq_true c20
    clear c20
    have c21 : ((((rdOf ByteArray.empty t225 t228) ++ (⟨#[44, 32]⟩ : ByteArray)) ++ t230) ++ (⟨#[45]⟩ : ByteArray)).size + (rdOf ByteArray.empty t231 (ji18)).size ≤ 9223372036854775807 := Classical.byContradiction fun h_ => by rw [if_neg h_] at H; exact absurd H (by simp)
    rw [if_pos c21] at H
    have c21b0 := eq_true c21
    have c21b1 : decide (((((rdOf ByteArray.empty t225 t228) ++ (⟨#[44, 32]⟩ : ByteArray)) ++ t230) ++ (⟨#[45]⟩ : ByteArray)).size + (rdOf ByteArray.empty t231 (ji18)).size ≤ 9223372036854775807) = true := decide_eq_true c21
    try have c21b2 : (9223372036854775807 < ((((rdOf ByteArray.empty t225 t228) ++ (⟨#[44, 32]⟩ : ByteArray)) ++ t230) ++ (⟨#[45]⟩ : ByteArray)).size + (rdOf ByteArray.empty t231 (ji18)).size) = False := eq_false (Nat.not_lt.2 c21)
    (try (have c21v2 : (9223372036854775807 < ((((rdOf ByteArray.empty t225 t228).size + 2) + t230.size) + 1) + (rdOf ByteArray.empty t231 (ji18)).size) = False := eq_false (by have h_ := c21; simp only [ByteArray.size_append, show (⟨#[44, 32]⟩ : ByteArray).size = 2 from rfl, show (⟨#[45]⟩ : ByteArray).size = 1 from rfl] at h_; omega)))
    (try (have c21y0 := c21b0; simp only [ByteArray.size_append] at c21y0))
    (try (have c21z0 := c21b0; simp only [ByteArray.size_append, Int.natCast_add] at c21z0))
    (try (have c21y1 := c21b1; simp only [ByteArray.size_append] at c21y1))
    (try (have c21z1 := c21b1; simp only [ByteArray.size_append, Int.natCast_add] at c21z1))
    have c22 : (((((rdOf ByteArray.empty t225 t228) ++ (⟨#[44, 32]⟩ : ByteArray)) ++ t230) ++ (⟨#[45]⟩ : ByteArray)) ++ (rdOf ByteArray.empty t231 (ji18))).size + 1 ≤ 9223372036854775807 := Classical.byContradiction fun h_ => by rw [if_neg h_] at H; exact absurd H (by simp)
    rw [if_pos c22] at H
    have c22b0 := eq_true c22
    have c22b1 : decide ((((((rdOf ByteArray.empty t225 t228) ++ (⟨#[44, 32]⟩ : ByteArray)) ++ t230) ++ (⟨#[45]⟩ : ByteArray)) ++ (rdOf ByteArray.empty t231 (ji18))).size + 1 ≤ 9223372036854775807) = true := decide_eq_true c22
    try have c22b2 : (9223372036854775807 < (((((rdOf ByteArray.empty t225 t228) ++ (⟨#[44, 32]⟩ : ByteArray)) ++ t230) ++ (⟨#[45]⟩ : ByteArray)) ++ (rdOf ByteArray.empty t231 (ji18))).size + 1) = False := eq_false (Nat.not_lt.2 c22)
    (try (have c22v2 : (9223372036854775807 < (((((rdOf ByteArray.empty t225 t228).size + 2) + t230.size) + 1) + (rdOf ByteArray.empty t231 (ji18)).size) + 1) = False := eq_false (by have h_ := c22; simp only [ByteArray.size_append, show (⟨#[44, 32]⟩ : ByteArray).size = 2 from rfl, show (⟨#[45]⟩ : ByteArray).size = 1 from rfl] at h_; omega)))
    (try (have c22y0 := c22b0; simp only [ByteArray.size_append] at c22y0))
    (try (have c22z0 := c22b0; simp only [ByteArray.size_append, Int.natCast_add] at c22z0))
    (try (have c22y1 := c22b1; simp only [ByteArray.size_append] at c22y1))
    (try (have c22z1 := c22b1; simp only [ByteArray.size_append, Int.natCast_add] at c22z1))
    replace H := Option.bind_eq_some_iff.mp H
    obtain ⟨t235, A230, H⟩ := H
    replace H : (if ((((((rdOf ByteArray.empty t225 t228) ++ (⟨#[44, 32]⟩ : ByteArray)) ++ t230) ++ (⟨#[45]⟩ : ByteArray)) ++ (rdOf ByteArray.empty t231 (ji18))) ++ (⟨#[45]⟩ : ByteArray)).size + t235.size ≤ 9223372036854775807 then (if (((((((rdOf ByteArray.empty t225 t228) ++ (⟨#[44, 32]⟩ : ByteArray)) ++ t230) ++ (⟨#[45]⟩ : ByteArray)) ++ (rdOf ByteArray.empty t231 (ji18))) ++ (⟨#[45]⟩ : ByteArray)) ++ t235).size + 1 ≤ 9223372036854775807 then ((impl_clock.f t218 t219 t220 t221 t222 t223).bind fun t236 => (if ((((((((rdOf ByteArray.empty t225 t228) ++ (⟨#[44, 32]⟩ : ByteArray)) ++ t230) ++ (⟨#[45]⟩ : ByteArray)) ++ (rdOf ByteArray.empty t231 (ji18))) ++ (⟨#[45]⟩ : ByteArray)) ++ t235) ++ (⟨#[32]⟩ : ByteArray)).size + t236.size ≤ 9223372036854775807 then (if (((((((((rdOf ByteArray.empty t225 t228) ++ (⟨#[44, 32]⟩ : ByteArray)) ++ t230) ++ (⟨#[45]⟩ : ByteArray)) ++ (rdOf ByteArray.empty t231 (ji18))) ++ (⟨#[45]⟩ : ByteArray)) ++ t235) ++ (⟨#[32]⟩ : ByteArray)) ++ t236).size + 4 ≤ 9223372036854775807 then (some ((((((((((rdOf ByteArray.empty t225 t228) ++ (⟨#[44, 32]⟩ : ByteArray)) ++ t230) ++ (⟨#[45]⟩ : ByteArray)) ++ (rdOf ByteArray.empty t231 (ji18))) ++ (⟨#[45]⟩ : ByteArray)) ++ t235) ++ (⟨#[32]⟩ : ByteArray)) ++ t236) ++ (⟨#[32, 71, 77, 84]⟩ : ByteArray))) else (none)) else (none))) else (none)) else (none)) = some r := H
    have A23 := Aside0.mk A230
    clear A230
    have c24 : ((((((rdOf ByteArray.empty t225 t228) ++ (⟨#[44, 32]⟩ : ByteArray)) ++ t230) ++ (⟨#[45]⟩ : ByteArray)) ++ (rdOf ByteArray.empty t231 (ji18))) ++ (⟨#[45]⟩ : ByteArray)).size + t235.size ≤ 9223372036854775807 := Classical.byContradiction fun h_ => by rw [if_neg h_] at H; exact absurd H (by simp)
    rw [if_pos c24] at H
    have c24b0 := eq_true c24
    have c24b1 : decide (((((((rdOf ByteArray.empty t225 t228) ++ (⟨#[44, 32]⟩ : ByteArray)) ++ t230) ++ (⟨#[45]⟩ : ByteArray)) ++ (rdOf ByteArray.empty t231 (ji18))) ++ (⟨#[45]⟩ : ByteArray)).size + t235.size ≤ 9223372036854775807) = true := decide_eq_true c24
    try have c24b2 : (9223372036854775807 < ((((((rdOf ByteArray.empty t225 t228) ++ (⟨#[44, 32]⟩ : ByteArray)) ++ t230) ++ (⟨#[45]⟩ : ByteArray)) ++ (rdOf ByteArray.empty t231 (ji18))) ++ (⟨#[45]⟩ : ByteArray)).size + t235.size) = False := eq_false (Nat.not_lt.2 c24)
    (try (have c24v2 : (9223372036854775807 < ((((((rdOf ByteArray.empty t225 t228).size + 2) + t230.size) + 1) + (rdOf ByteArray.empty t231 (ji18)).size) + 1) + t235.size) = False := eq_false (by have h_ := c24; simp only [ByteArray.size_append, show (⟨#[44, 32]⟩ : ByteArray).size = 2 from rfl, show (⟨#[45]⟩ : ByteArray).size = 1 from rfl] at h_; omega)))
    (try (have c24y0 := c24b0; simp only [ByteArray.size_append] at c24y0))
    (try (have c24z0 := c24b0; simp only [ByteArray.size_append, Int.natCast_add] at c24z0))
    (try (have c24y1 := c24b1; simp only [ByteArray.size_append] at c24y1))
    (try (have c24z1 := c24b1; simp only [ByteArray.size_append, Int.natCast_add] at c24z1))
    have c25 : (((((((rdOf ByteArray.empty t225 t228) ++ (⟨#[44, 32]⟩ : ByteArray)) ++ t230) ++ (⟨#[45]⟩ : ByteArray)) ++ (rdOf ByteArray.empty t231 (ji18))) ++ (⟨#[45]⟩ : ByteArray)) ++ t235).size + 1 ≤ 9223372036854775807 := Classical.byContradiction fun h_ => by rw [if_neg h_] at H; exact absurd H (by simp)
    rw [if_pos c25] at H
    have c25b0 := eq_true c25
    have c25b1 : decide ((((((((rdOf ByteArray.empty t225 t228) ++ (⟨#[44, 32]⟩ : ByteArray)) ++ t230) ++ (⟨#[45]⟩ : ByteArray)) ++ (rdOf ByteArray.empty t231 (ji18))) ++ (⟨#[45]⟩ : ByteArray)) ++ t235).size + 1 ≤ 9223372036854775807) = true := decide_eq_true c25
    try have c25b2 : (9223372036854775807 < (((((((rdOf ByteArray.empty t225 t228) ++ (⟨#[44, 32]⟩ : ByteArray)) ++ t230) ++ (⟨#[45]⟩ : ByteArray)) ++ (rdOf ByteArray.empty t231 (ji18))) ++ (⟨#[45]⟩ : ByteArray)) ++ t235).size + 1) = False := eq_false (Nat.not_lt.2 c25)
    (try (have c25v2 : (9223372036854775807 < (((((((rdOf ByteArray.empty t225 t228).size + 2) + t230.size) + 1) + (rdOf ByteArray.empty t231 (ji18)).size) + 1) + t235.size) + 1) = False := eq_false (by have h_ := c25; simp only [ByteArray.size_append, show (⟨#[44, 32]⟩ : ByteArray).size = 2 from rfl, show (⟨#[45]⟩ : ByteArray).size = 1 from rfl] at h_; omega)))
    (try (have c25y0 := c25b0; simp only [ByteArray.size_append] at c25y0))
    (try (have c25z0 := c25b0; simp only [ByteArray.size_append, Int.natCast_add] at c25z0))
    (try (have c25y1 := c25b1; simp only [ByteArray.size_append] at c25y1))
    (try (have c25z1 := c25b1; simp only [ByteArray.size_append, Int.natCast_add] at c25z1))
    replace H := Option.bind_eq_some_iff.mp H
    obtain ⟨t236, A260, H⟩ := H
    replace H : (if ((((((((rdOf ByteArray.empty t225 t228) ++ (⟨#[44, 32]⟩ : ByteArray)) ++ t230) ++ (⟨#[45]⟩ : ByteArray)) ++ (rdOf ByteArray.empty t231 (ji18))) ++ (⟨#[45]⟩ : ByteArray)) ++ t235) ++ (⟨#[32]⟩ : ByteArray)).size + t236.size ≤ 9223372036854775807 then (if (((((((((rdOf ByteArray.empty t225 t228) ++ (⟨#[44, 32]⟩ : ByteArray)) ++ t230) ++ (⟨#[45]⟩ : ByteArray)) ++ (rdOf ByteArray.empty t231 (ji18))) ++ (⟨#[45]⟩ : ByteArray)) ++ t235) ++ (⟨#[32]⟩ : ByteArray)) ++ t236).size + 4 ≤ 9223372036854775807 then (some ((((((((((rdOf ByteArray.empty t225 t228) ++ (⟨#[44, 32]⟩ : ByteArray)) ++ t230) ++ (⟨#[45]⟩ : ByteArray)) ++ (rdOf ByteArray.empty t231 (ji18))) ++ (⟨#[45]⟩ : ByteArray)) ++ t235) ++ (⟨#[32]⟩ : ByteArray)) ++ t236) ++ (⟨#[32, 71, 77, 84]⟩ : ByteArray))) else (none)) else (none)) = some r := H
    have A26 := Aside0.mk A260
    clear A260
    have c27 : ((((((((rdOf ByteArray.empty t225 t228) ++ (⟨#[44, 32]⟩ : ByteArray)) ++ t230) ++ (⟨#[45]⟩ : ByteArray)) ++ (rdOf ByteArray.empty t231 (ji18))) ++ (⟨#[45]⟩ : ByteArray)) ++ t235) ++ (⟨#[32]⟩ : ByteArray)).size + t236.size ≤ 9223372036854775807 := Classical.byContradiction fun h_ => by rw [if_neg h_] at H; exact absurd H (by simp)
    rw [if_pos c27] at H
    have c27b0 := eq_true c27
    have c27b1 : decide (((((((((rdOf ByteArray.empty t225 t228) ++ (⟨#[44, 32]⟩ : ByteArray)) ++ t230) ++ (⟨#[45]⟩ : ByteArray)) ++ (rdOf ByteArray.empty t231 (ji18))) ++ (⟨#[45]⟩ : ByteArray)) ++ t235) ++ (⟨#[32]⟩ : ByteArray)).size + t236.size ≤ 9223372036854775807) = true := decide_eq_true c27
    try have c27b2 : (9223372036854775807 < ((((((((rdOf ByteArray.empty t225 t228) ++ (⟨#[44, 32]⟩ : ByteArray)) ++ t230) ++ (⟨#[45]⟩ : ByteArray)) ++ (rdOf ByteArray.empty t231 (ji18))) ++ (⟨#[45]⟩ : ByteArray)) ++ t235) ++ (⟨#[32]⟩ : ByteArray)).size + t236.size) = False := eq_false (Nat.not_lt.2 c27)
    (try (have c27v2 : (9223372036854775807 < ((((((((rdOf ByteArray.empty t225 t228).size + 2) + t230.size) + 1) + (rdOf ByteArray.empty t231 (ji18)).size) + 1) + t235.size) + 1) + t236.size) = False := eq_false (by have h_ := c27; simp only [ByteArray.size_append, show (⟨#[32]⟩ : ByteArray).size = 1 from rfl, show (⟨#[44, 32]⟩ : ByteArray).size = 2 from rfl, show (⟨#[45]⟩ : ByteArray).size = 1 from rfl] at h_; omega)))
    (try (have c27y0 := c27b0; simp only [ByteArray.size_append] at c27y0))
    (try (have c27z0 := c27b0; simp only [ByteArray.size_append, Int.natCast_add] at c27z0))
    (try (have c27y1 := c27b1; simp only [ByteArray.size_append] at c27y1))
    (try (have c27z1 := c27b1; simp only [ByteArray.size_append, Int.natCast_add] at c27z1))
    have c28 : (((((((((rdOf ByteArray.empty t225 t228) ++ (⟨#[44, 32]⟩ : ByteArray)) ++ t230) ++ (⟨#[45]⟩ : ByteArray)) ++ (rdOf ByteArray.empty t231 (ji18))) ++ (⟨#[45]⟩ : ByteArray)) ++ t235) ++ (⟨#[32]⟩ : ByteArray)) ++ t236).size + 4 ≤ 9223372036854775807 := Classical.byContradiction fun h_ => by rw [if_neg h_] at H; exact absurd H (by simp)
    rw [if_pos c28] at H
    have c28b0 := eq_true c28
    have c28b1 : decide ((((((((((rdOf ByteArray.empty t225 t228) ++ (⟨#[44, 32]⟩ : ByteArray)) ++ t230) ++ (⟨#[45]⟩ : ByteArray)) ++ (rdOf ByteArray.empty t231 (ji18))) ++ (⟨#[45]⟩ : ByteArray)) ++ t235) ++ (⟨#[32]⟩ : ByteArray)) ++ t236).size + 4 ≤ 9223372036854775807) = true := decide_eq_true c28
    try have c28b2 : (9223372036854775807 < (((((((((rdOf ByteArray.empty t225 t228) ++ (⟨#[44, 32]⟩ : ByteArray)) ++ t230) ++ (⟨#[45]⟩ : ByteArray)) ++ (rdOf ByteArray.empty t231 (ji18))) ++ (⟨#[45]⟩ : ByteArray)) ++ t235) ++ (⟨#[32]⟩ : ByteArray)) ++ t236).size + 4) = False := eq_false (Nat.not_lt.2 c28)
    (try (have c28v2 : (9223372036854775807 < (((((((((rdOf ByteArray.empty t225 t228).size + 2) + t230.size) + 1) + (rdOf ByteArray.empty t231 (ji18)).size) + 1) + t235.size) + 1) + t236.size) + 4) = False := eq_false (by have h_ := c28; simp only [ByteArray.size_append, show (⟨#[32]⟩ : ByteArray).size = 1 from rfl, show (⟨#[44, 32]⟩ : ByteArray).size = 2 from rfl, show (⟨#[45]⟩ : ByteArray).size = 1 from rfl] at h_; omega)))
    (try (have c28y0 := c28b0; simp only [ByteArray.size_append] at c28y0))
    (try (have c28z0 := c28b0; simp only [ByteArray.size_append, Int.natCast_add] at c28z0))
    (try (have c28y1 := c28b1; simp only [ByteArray.size_append] at c28y1))
    (try (have c28z1 := c28b1; simp only [ByteArray.size_append, Int.natCast_add] at c28z1))
    obtain rfl := Option.some.inj H
    try go_wp2_with (first | ((with_reducible refine gate_callee (f := 46) rfl ?_); refine goesL_ (some 14) rfl rfl Tryd.func46 (by kernel_rfl) rfl #[.int .i64 a0] rfl (by (try simp only [List.map_toArray, List.map_cons, List.map_nil]); first | done | rfl | (simp only [List.length_drop, List.length_take]; rfl)) ?_; (with_reducible refine (impl_civilOf.calls a0 t218 t219 t220 t221 t222 t223 _ A8.out).mono ?_); rintro e w29 ⟨rfl, hb⟩; refine ⟨_, rfl, ?_⟩; have n0_ := Aside0.mk (below_step (by repeat (first | (with_reducible first | exact HB.out | apply below_alloc | apply pw_below_drewN | apply below_drew1) | exact HB.out)) hb); clear HB; have HB := n0_; clear n0_; (try clear hb); (try clear hb2); (try clear hk); (try clear hi)) | ((with_reducible refine gate_dst (N := 3) rfl ?_); refine box_event ?hg (N := 3) ?hd (cs := #[.int .i64 0, .int .i64 0, .int .i64 0, .int .i64 0, .int .i64 0, .int .i64 0]) (t := 30) ?hr ?_; (case hd => rfl); (case hg => rfl); (case hr => first | (go_simp; done) | (go_simp; rfl)); intro gb224 hg w30 hbox hb; have n0_ := Aside0.mk (below_step (by repeat (first | (with_reducible first | exact HB.out | apply below_alloc | apply pw_below_drewN | apply below_drew1) | exact HB.out)) hb); have n1_ := Aside0.mk (hbox); have n2_ := Aside0.mk ((by rw [hg]; exact (below_size (by repeat (first | (with_reducible first | exact HB.out | apply below_alloc | apply pw_below_drewN | apply below_drew1) | exact HB.out))) : w.heap.size ≤ gb224)); have n3_ := Aside0.mk ((by rw [hg]; exact (below_size (by repeat (first | (with_reducible first | exact HB.out | apply below_alloc | apply pw_below_drewN | apply below_drew1) | exact HB.out))) : w.heap.size ≤ gb224)); clear HB; have HB := n0_; have BK224 := n1_; have GW224 := n2_; have GE224 := n3_; clear n0_ n1_ n2_ n3_; clear hb hbox hg; have hcz31_0 : w30.cell? ⟨gb224, 0, none⟩ = some (.int .i64 0) := (blk_cell BK224.out 0).trans rfl; have hcz31_1 : w30.cell? ⟨gb224, 1, none⟩ = some (.int .i64 0) := (blk_cell BK224.out 1).trans rfl; have hcz31_2 : w30.cell? ⟨gb224, 2, none⟩ = some (.int .i64 0) := (blk_cell BK224.out 2).trans rfl; have hcz31_3 : w30.cell? ⟨gb224, 3, none⟩ = some (.int .i64 0) := (blk_cell BK224.out 3).trans rfl; have hcz31_4 : w30.cell? ⟨gb224, 4, none⟩ = some (.int .i64 0) := (blk_cell BK224.out 4).trans rfl; have hcz31_5 : w30.cell? ⟨gb224, 5, none⟩ = some (.int .i64 0) := (blk_cell BK224.out 5).trans rfl; have hfz31_0 := blk_frozen BK224.out 0; have hfz31_1 := blk_frozen BK224.out 1; have hfz31_2 := blk_frozen BK224.out 2; have hfz31_3 := blk_frozen BK224.out 3; have hfz31_4 := blk_frozen BK224.out 4; have hfz31_5 := blk_frozen BK224.out 5))
    have n0_ : Aside0 (((((((w30.setCell ⟨gb224, 0, none⟩ (.int .i64 t218)).setCell ⟨gb224, 1, none⟩ (.int .i64 t219)).setCell ⟨gb224, 2, none⟩ (.int .i64 t220)).setCell ⟨gb224, 3, none⟩ (.int .i64 t221)).setCell ⟨gb224, 4, none⟩ (.int .i64 t222)).setCell ⟨gb224, 5, none⟩ (.int .i64 t223)).heap[gb224]? = some (.cells #[.int .i64 t218, .int .i64 t219, .int .i64 t220, .int .i64 t221, .int .i64 t222, .int .i64 t223] 30 (0, 0))) := ⟨by (with_reducible repeat (first | refine blk_drewN ?_ _ | refine blk_drew ?_ | refine blk_alloc ?_ _)); refine blk_put (cs := #[.int .i64 t218, .int .i64 t219, .int .i64 t220, .int .i64 t221, .int .i64 t222, .int .i64 0]) ?_ 5 _ rfl; (with_reducible repeat (first | refine blk_drewN ?_ _ | refine blk_drew ?_ | refine blk_alloc ?_ _)); refine blk_put (cs := #[.int .i64 t218, .int .i64 t219, .int .i64 t220, .int .i64 t221, .int .i64 0, .int .i64 0]) ?_ 4 _ rfl; (with_reducible repeat (first | refine blk_drewN ?_ _ | refine blk_drew ?_ | refine blk_alloc ?_ _)); refine blk_put (cs := #[.int .i64 t218, .int .i64 t219, .int .i64 t220, .int .i64 0, .int .i64 0, .int .i64 0]) ?_ 3 _ rfl; (with_reducible repeat (first | refine blk_drewN ?_ _ | refine blk_drew ?_ | refine blk_alloc ?_ _)); refine blk_put (cs := #[.int .i64 t218, .int .i64 t219, .int .i64 0, .int .i64 0, .int .i64 0, .int .i64 0]) ?_ 2 _ rfl; (with_reducible repeat (first | refine blk_drewN ?_ _ | refine blk_drew ?_ | refine blk_alloc ?_ _)); refine blk_put (cs := #[.int .i64 t218, .int .i64 0, .int .i64 0, .int .i64 0, .int .i64 0, .int .i64 0]) ?_ 1 _ rfl; (with_reducible repeat (first | refine blk_drewN ?_ _ | refine blk_drew ?_ | refine blk_alloc ?_ _)); refine blk_put (cs := #[.int .i64 0, .int .i64 0, .int .i64 0, .int .i64 0, .int .i64 0, .int .i64 0]) ?_ 0 _ rfl; (with_reducible repeat (first | refine blk_drewN ?_ _ | refine blk_drew ?_ | refine blk_alloc ?_ _)); exact BK224.out⟩
    have n1_ : Aside0 (Below w.heap.size w ((((((w30.setCell ⟨gb224, 0, none⟩ (.int .i64 t218)).setCell ⟨gb224, 1, none⟩ (.int .i64 t219)).setCell ⟨gb224, 2, none⟩ (.int .i64 t220)).setCell ⟨gb224, 3, none⟩ (.int .i64 t221)).setCell ⟨gb224, 4, none⟩ (.int .i64 t222)).setCell ⟨gb224, 5, none⟩ (.int .i64 t223))) := ⟨by repeat (first | (with_reducible first | exact HB.out | apply below_alloc | apply pw_below_drewN | apply below_drew1 | refine below_set ?_ GE224.out) | exact HB.out)⟩
    (try clear BK224)
    (try clear HB)
    generalize ((((((w30.setCell ⟨gb224, 0, none⟩ (.int .i64 t218)).setCell ⟨gb224, 1, none⟩ (.int .i64 t219)).setCell ⟨gb224, 2, none⟩ (.int .i64 t220)).setCell ⟨gb224, 3, none⟩ (.int .i64 t221)).setCell ⟨gb224, 4, none⟩ (.int .i64 t222)).setCell ⟨gb224, 5, none⟩ (.int .i64 t223)) = w32 at n0_ n1_ ⊢
    have BK224 := n0_
    have HB := n1_
    clear n0_ n1_
    have n0_ := Aside0.mk (blk_drew BK224.out)
    have n1_ := Aside0.mk (below_drew1 HB.out)
    clear BK224
    clear HB
    have BK224 := n0_
    have HB := n1_
    clear n0_ n1_
    refine start_ (n := 29) (S := fun w' => w'.cell? ⟨gb224, 0, none⟩ = some (.int .i64 t218) ∧ w'.cell? ⟨gb224, 1, none⟩ = some (.int .i64 t219) ∧ w'.cell? ⟨gb224, 2, none⟩ = some (.int .i64 t220) ∧ w'.cell? ⟨gb224, 3, none⟩ = some (.int .i64 t221) ∧ w'.cell? ⟨gb224, 4, none⟩ = some (.int .i64 t222) ∧ w'.cell? ⟨gb224, 5, none⟩ = some (.int .i64 t223) ∧ True ∧ True) (ds := []) #[false, false, false, false, false, false, false, false, false, false, false, false, false, false, false, false, false, false, false, false, false, false, false, false, false, false, false, false, false] (by kernel_rfl) rfl rfl ⟨(blk_cell BK224.out 0).trans rfl, (blk_cell BK224.out 1).trans rfl, (blk_cell BK224.out 2).trans rfl, (blk_cell BK224.out 3).trans rfl, (blk_cell BK224.out 4).trans rfl, (blk_cell BK224.out 5).trans rfl, trivial, trivial⟩ (fun hHeld => ?_); refine with_tabW impl_LongDate.tab4 impl_LongDate.bits4 (fun HT_ HW_ => ?_)
    generalize w32.drew = w33 at BK224 HB hHeld ⊢
    refine pure_ (i := 1) (N := some 16) (v := ?_) (a' := ?_) #[false, true, false, false, false, false, false, false, false, false, false, false, false, false, false, false, false, false, false, false, false, false, false, false, false, false, false, false, false] rfl rfl (any_of HT_.out (by kernel_rfl)) (fun _ _ _ h => h) (Or.inl ⟨by rfl, ?_⟩) ?_ ?_
    rotate_left
    ·
     intro w'
     go_simp
     with_reducible rfl
    rotate_left
    ·
     simp only [Act.put, List.setIfInBounds_toArray, List.set_cons_zero, List.set_cons_succ, i64_w, i32_w]
     rfl
    refine pure_ (i := 6) (N := some 21) (v := ?_) (a' := ?_) #[false, true, false, false, false, false, true, false, false, false, false, false, false, false, false, false, false, false, false, false, false, false, false, false, false, false, false, false, false] rfl rfl (any_of HT_.out (by kernel_rfl)) (fun _ _ _ h => h) (Or.inl ⟨by rfl, ?_⟩) ?_ ?_
    rotate_left
    ·
     intro w'
     go_simp
     with_reducible rfl
    rotate_left
    ·
     simp only [Act.put, List.setIfInBounds_toArray, List.set_cons_zero, List.set_cons_succ, i64_w, i32_w]
     rfl
    refine pure_ (i := 12) (N := some 27) (v := ?_) (a' := ?_) #[false, true, false, false, false, false, true, false, false, false, false, false, true, false, false, false, false, false, false, false, false, false, false, false, false, false, false, false, false] rfl rfl (any_of HT_.out (by kernel_rfl)) (fun _ _ _ h => h) (Or.inl ⟨by rfl, ?_⟩) ?_ ?_
    rotate_left
    ·
     intro w'
     go_simp
     with_reducible rfl
    rotate_left
    ·
     simp only [Act.put, List.setIfInBounds_toArray, List.set_cons_zero, List.set_cons_succ, i64_w, i32_w]
     rfl
    refine pure_ (i := 19) (N := some 34) (v := ?_) (a' := ?_) #[false, true, false, false, false, false, true, false, false, false, false, false, true, false, false, false, false, false, false, true, false, false, false, false, false, false, false, false, false] rfl rfl (any_of HT_.out (by kernel_rfl)) (fun _ _ _ h => h) (Or.inl ⟨by rfl, ?_⟩) ?_ ?_
    rotate_left
    ·
     intro w'
     go_simp
     with_reducible rfl
    rotate_left
    ·
     simp only [Act.put, List.setIfInBounds_toArray, List.set_cons_zero, List.set_cons_succ, i64_w, i32_w]
     rfl
    refine take_ (i := 7) (N := some 22) (v := ?_) (a' := ?_) #[false, true, false, false, false, false, true, true, false, false, false, false, true, false, false, false, false, false, false, true, false, false, false, false, false, false, false, false, false] rfl rfl (take_ofW HT_.out HW_.out (by kernel_rfl)) (fun _ _ _ h => h) (Or.inl ⟨by rfl, ?_⟩) hHeld ?_ ?_
    rotate_left
    ·
     rintro w' ⟨s0, s1, s2, s3, s4, s5, s6, s7⟩
     go_simp
     with_reducible rfl
    rotate_left
    ·
     simp only [Act.put, List.setIfInBounds_toArray, List.set_cons_zero, List.set_cons_succ, i64_w, i32_w]
     rfl
    refine take_ (i := 13) (N := some 28) (v := ?_) (a' := ?_) #[false, true, false, false, false, false, true, true, false, false, false, false, true, true, false, false, false, false, false, true, false, false, false, false, false, false, false, false, false] rfl rfl (take_ofW HT_.out HW_.out (by kernel_rfl)) (fun _ _ _ h => h) (Or.inl ⟨by rfl, ?_⟩) hHeld ?_ ?_
    rotate_left
    ·
     rintro w' ⟨s0, s1, s2, s3, s4, s5, s6, s7⟩
     go_simp
     with_reducible rfl
    rotate_left
    ·
     simp only [Act.put, List.setIfInBounds_toArray, List.set_cons_zero, List.set_cons_succ, i64_w, i32_w]
     rfl
    refine pure_ (i := 14) (N := some 29) (v := ?_) (a' := ?_) #[false, true, false, false, false, false, true, true, false, false, false, false, true, true, true, false, false, false, false, true, false, false, false, false, false, false, false, false, false] rfl rfl (any_of HT_.out (by kernel_rfl)) (fun _ _ _ h => h) (Or.inl ⟨by rfl, ?_⟩) ?_ ?_
    rotate_left
    ·
     intro w'
     go_simp
     with_reducible rfl
    rotate_left
    ·
     simp only [Act.put, List.setIfInBounds_toArray, List.set_cons_zero, List.set_cons_succ, i64_w, i32_w]
     rfl
    refine take_ (i := 20) (N := some 35) (v := ?_) (a' := ?_) #[false, true, false, false, false, false, true, true, false, false, false, false, true, true, true, false, false, false, false, true, true, false, false, false, false, false, false, false, false] rfl rfl (take_ofW HT_.out HW_.out (by kernel_rfl)) (fun _ _ _ h => h) (Or.inl ⟨by rfl, ?_⟩) hHeld ?_ ?_
    rotate_left
    ·
     rintro w' ⟨s0, s1, s2, s3, s4, s5, s6, s7⟩
     go_simp
     with_reducible rfl
    rotate_left
    ·
     simp only [Act.put, List.setIfInBounds_toArray, List.set_cons_zero, List.set_cons_succ, i64_w, i32_w]
     rfl
    refine take_ (i := 24) (N := some 39) (v := ?_) (a' := ?_) #[false, true, false, false, false, false, true, true, false, false, false, false, true, true, true, false, false, false, false, true, true, false, false, false, true, false, false, false, false] rfl rfl (take_ofW HT_.out HW_.out (by kernel_rfl)) (fun _ _ _ h => h) (Or.inl ⟨by rfl, ?_⟩) hHeld ?_ ?_
    rotate_left
    ·
     rintro w' ⟨s0, s1, s2, s3, s4, s5, s6, s7⟩
     go_simp
     with_reducible rfl
    rotate_left
    ·
     simp only [Act.put, List.setIfInBounds_toArray, List.set_cons_zero, List.set_cons_succ, i64_w, i32_w]
     rfl
    refine one_ (i := 0) (N := some 15) #[true, true, false, false, false, false, true, true, false, false, false, false, true, true, true, false, false, false, false, true, true, false, false, false, true, false, false, false, false] rfl rfl (one_of HT_.out (by kernel_rfl)) (by decide) (fun K hK => ?_)
    refine goes_ Tryd.func53 (by kernel_rfl) rfl #[] (by rfl) rfl rfl (by (try simp only [List.map_toArray, List.map_cons, List.map_nil]); first | done | rfl | (simp only [List.length_drop, List.length_take]; rfl)) ?_
    with_reducible refine (impl_days.calls  t225 _ A9.out).mono ?_
    rintro e w34 ⟨v226, rfl, ho0, hb⟩
    refine ⟨_, rfl, ?_⟩
    have n0_ := Aside0.mk (Kd.R_lower ho0 (below_size (by repeat (first | (with_reducible first | exact HB.out | apply below_alloc | apply pw_below_drewN | apply below_drew1 | refine below_set ?_ GE224.out) | exact HB.out))))
    have n1_ := Aside0.mk (blk_below (g := gb224) (o := .cells #[.int .i64 t218, .int .i64 t219, .int .i64 t220, .int .i64 t221, .int .i64 t222, .int .i64 t223] 30 (0, 0)) (by (with_reducible repeat (first | refine blk_drewN ?_ _ | refine blk_drew ?_ | refine blk_alloc ?_ _)); exact BK224.out) hb)
    have n2_ := Aside0.mk (below_step (by repeat (first | (with_reducible first | exact HB.out | apply below_alloc | apply pw_below_drewN | apply below_drew1 | refine below_set ?_ GE224.out) | exact HB.out)) hb)
    clear BK224
    clear HB
    have HO227 := n0_
    have BK224 := n1_
    have HB := n2_
    clear n0_ n1_ n2_
    (try clear hb)
    (try clear hb2)
    (try clear hk)
    (try clear hi)
    (try clear ho0)
    refine hK.out _ _ ⟨(blk_cell BK224.out 0).trans rfl, (blk_cell BK224.out 1).trans rfl, (blk_cell BK224.out 2).trans rfl, (blk_cell BK224.out 3).trans rfl, (blk_cell BK224.out 4).trans rfl, (blk_cell BK224.out 5).trans rfl, trivial, trivial⟩ (fun hHeld => ?_)
    clear hK K
    refine norm_ (a' := ?_) ?_ ?_
    rotate_left
    ·
     show Act.put _ (some 15) _ = _
     simp only [Act.put, List.setIfInBounds_toArray, List.set_cons_zero, List.set_cons_succ, i64_w, i32_w]
     rfl
    refine one_ (i := 2) (N := some 17) #[true, true, true, false, false, false, true, true, false, false, false, false, true, true, true, false, false, false, false, true, true, false, false, false, true, false, false, false, false] rfl rfl (one_of HT_.out (by kernel_rfl)) (by decide) (fun K hK => ?_)
    refine goes_ Tryd.func23 (by kernel_rfl) rfl #[.int .i64 a0] (by rfl) rfl rfl (by (try simp only [List.map_toArray, List.map_cons, List.map_nil]); first | done | rfl | (simp only [List.length_drop, List.length_take]; rfl)) ?_
    with_reducible refine (impl_Weekday.calls a0 t228 _ A10.out).mono ?_
    rintro e w' ⟨rfl, ⟨nd, rfl⟩⟩
    refine ⟨_, rfl, ?_⟩
    obtain ⟨Ao35, co35, eo35⟩ := Kd.R_slice HO227.out
    (first | subst eo35 | (injection eo35 with f1_ f2_ f3_; have f4_ := f1_.symm; have f5_ := f3_.symm; clear f1_ f2_ f3_; subst f4_; subst f5_))
    have p229 : 0 ≤ (t228 : Int) := of_decide_eq_true (by first | (with_reducible assumption) | assumption)
    have q229 : t228 < (t225.length : Int) := of_decide_eq_true (by first | (with_reducible assumption) | assumption)
    obtain ⟨ad229, e229, hx229_0⟩ := Kd.at_string (Kd.R_reads' HO227.out).2.2 t228 p229 q229
    cases e229
    replace p229 := eq_true p229
    replace q229 := eq_true q229
    refine hK.out _ _ ⟨(blk_cell BK224.out 0).trans rfl, (blk_cell BK224.out 1).trans rfl, (blk_cell BK224.out 2).trans rfl, (blk_cell BK224.out 3).trans rfl, (blk_cell BK224.out 4).trans rfl, (blk_cell BK224.out 5).trans rfl, trivial, trivial⟩ (fun hHeld => ?_)
    clear hK K
    refine norm_ (a' := ?_) ?_ ?_
    rotate_left
    ·
     show Act.put _ (some 17) _ = _
     simp only [Act.put, List.setIfInBounds_toArray, List.set_cons_zero, List.set_cons_succ, i64_w, i32_w]
     rfl
    refine grow_ (S' := fun w' => w'.cell? ⟨gb224, 0, none⟩ = some (.int .i64 t218) ∧ w'.cell? ⟨gb224, 1, none⟩ = some (.int .i64 t219) ∧ w'.cell? ⟨gb224, 2, none⟩ = some (.int .i64 t220) ∧ w'.cell? ⟨gb224, 3, none⟩ = some (.int .i64 t221) ∧ w'.cell? ⟨gb224, 4, none⟩ = some (.int .i64 t222) ∧ w'.cell? ⟨gb224, 5, none⟩ = some (.int .i64 t223) ∧ w'.cell? (ad229.add (t228).toNat) = some (.string (rdOf ByteArray.empty t225 t228)) ∧ True) (fun w' h_ => ⟨h_.1, h_.2.1, h_.2.2.1, h_.2.2.2.1, h_.2.2.2.2.1, h_.2.2.2.2.2.1, trivial, trivial⟩) ⟨hHeld.1, hHeld.2.1, hHeld.2.2.1, hHeld.2.2.2.1, hHeld.2.2.2.2.1, hHeld.2.2.2.2.2.1, hx229_0, trivial⟩ (fun hHeld => ?_)
    refine pure_ (i := 3) (N := some 18) (v := ?_) (a' := ?_) #[true, true, true, true, false, false, true, true, false, false, false, false, true, true, true, false, false, false, false, true, true, false, false, false, true, false, false, false, false] rfl rfl (any_of HT_.out (by kernel_rfl)) (fun _ _ _ h => h) (Or.inl ⟨by rfl, ?_⟩) ?_ ?_
    rotate_left
    ·
     intro w'
     go_simp
     with_reducible rfl
    rotate_left
    ·
     simp only [Act.put, List.setIfInBounds_toArray, List.set_cons_zero, List.set_cons_succ, i64_w, i32_w]
     rfl
    refine take_ (i := 4) (N := some 19) (v := ?_) (a' := ?_) #[true, true, true, true, true, false, true, true, false, false, false, false, true, true, true, false, false, false, false, true, true, false, false, false, true, false, false, false, false] rfl rfl (take_ofW HT_.out HW_.out (by kernel_rfl)) (fun _ _ _ h => h) (Or.inl ⟨by rfl, ?_⟩) hHeld ?_ ?_
    rotate_left
    ·
     rintro w' ⟨s0, s1, s2, s3, s4, s5, s6, s7⟩
     go_simp
     with_reducible rfl
    rotate_left
    ·
     simp only [Act.put, List.setIfInBounds_toArray, List.set_cons_zero, List.set_cons_succ, i64_w, i32_w]
     rfl
    refine pure_ (i := 5) (N := some 20) (v := ?_) (a' := ?_) #[true, true, true, true, true, true, true, true, false, false, false, false, true, true, true, false, false, false, false, true, true, false, false, false, true, false, false, false, false] rfl rfl (any_of HT_.out (by kernel_rfl)) (fun _ _ _ h => h) (Or.inl ⟨by rfl, ?_⟩) ?_ ?_
    rotate_left
    ·
     intro w'
     go_simp
     with_reducible rfl
    rotate_left
    ·
     simp only [Act.put, List.setIfInBounds_toArray, List.set_cons_zero, List.set_cons_succ, i64_w, i32_w]
     rfl
    refine one_ (i := 8) (N := some 23) #[true, true, true, true, true, true, true, true, true, false, false, false, true, true, true, false, false, false, false, true, true, false, false, false, true, false, false, false, false] rfl rfl (one_of HT_.out (by kernel_rfl)) (by decide) (fun K hK => ?_)
    refine goes_ Tryd.func54 (by kernel_rfl) rfl #[.int .i64 t220, .int .i64 2] (by rfl) rfl rfl (by (try simp only [List.map_toArray, List.map_cons, List.map_nil]); first | done | rfl | (simp only [List.length_drop, List.length_take]; rfl)) ?_
    with_reducible refine (impl_digits.calls t220 2 t230 _ A14.out).mono ?_
    rintro e w' ⟨rfl, ⟨nd, rfl⟩⟩
    refine ⟨_, rfl, ?_⟩
    refine hK.out _ _ ⟨(blk_cell BK224.out 0).trans rfl, (blk_cell BK224.out 1).trans rfl, (blk_cell BK224.out 2).trans rfl, (blk_cell BK224.out 3).trans rfl, (blk_cell BK224.out 4).trans rfl, (blk_cell BK224.out 5).trans rfl, hHeld.2.2.2.2.2.2.1, trivial⟩ (fun hHeld => ?_)
    clear hK K
    refine norm_ (a' := ?_) ?_ ?_
    rotate_left
    ·
     show Act.put _ (some 23) _ = _
     simp only [Act.put, List.setIfInBounds_toArray, List.set_cons_zero, List.set_cons_succ, i64_w, i32_w]
     rfl
    refine pure_ (i := 9) (N := some 24) (v := ?_) (a' := ?_) #[true, true, true, true, true, true, true, true, true, true, false, false, true, true, true, false, false, false, false, true, true, false, false, false, true, false, false, false, false] rfl rfl (any_of HT_.out (by kernel_rfl)) (fun _ _ _ h => h) (Or.inl ⟨by rfl, ?_⟩) ?_ ?_
    rotate_left
    ·
     intro w'
     go_simp
     with_reducible rfl
    rotate_left
    ·
     simp only [Act.put, List.setIfInBounds_toArray, List.set_cons_zero, List.set_cons_succ, i64_w, i32_w]
     rfl
    refine pure_ (i := 10) (N := some 25) (v := ?_) (a' := ?_) #[true, true, true, true, true, true, true, true, true, true, true, false, true, true, true, false, false, false, false, true, true, false, false, false, true, false, false, false, false] rfl rfl (any_of HT_.out (by kernel_rfl)) (fun _ _ _ h => h) (Or.inl ⟨by rfl, ?_⟩) ?_ ?_
    rotate_left
    ·
     intro w'
     go_simp
     with_reducible rfl
    rotate_left
    ·
     simp only [Act.put, List.setIfInBounds_toArray, List.set_cons_zero, List.set_cons_succ, i64_w, i32_w]
     rfl
    refine one_ (i := 11) (N := some 26) #[true, true, true, true, true, true, true, true, true, true, true, true, true, true, true, false, false, false, false, true, true, false, false, false, true, false, false, false, false] rfl rfl (one_of HT_.out (by kernel_rfl)) (by decide) (fun K hK => ?_)
    refine goes_ Tryd.func55 (by kernel_rfl) rfl #[] (by rfl) rfl rfl (by (try simp only [List.map_toArray, List.map_cons, List.map_nil]); first | done | rfl | (simp only [List.length_drop, List.length_take]; rfl)) ?_
    with_reducible refine (impl_months.calls  t231 _ A17.out).mono ?_
    rintro e w36 ⟨v232, rfl, ho0, hb⟩
    have HS6_ := (hb.cell (World.block_lt_of_cell? _ _ (hHeld.2.2.2.2.2.2.1))).trans (hHeld.2.2.2.2.2.2.1)
    refine ⟨_, rfl, ?_⟩
    have n0_ := Aside0.mk (Kd.R_elder' (by (with_reducible repeat (first | apply Kd.R_alloc | apply Kd.R_drewN | apply Kd.R_drew)); exact HO227.out) (Kd.R_base ho0) hb)
    have n1_ := Aside0.mk (Kd.R_lower (Kd.R_new' ho0 (Kd.R_lt (by (with_reducible repeat (first | apply Kd.R_alloc | apply Kd.R_drewN | apply Kd.R_drew)); exact HO227.out))) (below_size (by repeat (first | (with_reducible first | exact HB.out | apply below_alloc | apply pw_below_drewN | apply below_drew1 | refine below_set ?_ GE224.out) | exact HB.out))))
    have n2_ := Aside0.mk (blk_below (g := gb224) (o := .cells #[.int .i64 t218, .int .i64 t219, .int .i64 t220, .int .i64 t221, .int .i64 t222, .int .i64 t223] 30 (0, 0)) (by (with_reducible repeat (first | refine blk_drewN ?_ _ | refine blk_drew ?_ | refine blk_alloc ?_ _)); exact BK224.out) hb)
    have n3_ := Aside0.mk (below_step (by repeat (first | (with_reducible first | exact HB.out | apply below_alloc | apply pw_below_drewN | apply below_drew1 | refine below_set ?_ GE224.out) | exact HB.out)) hb)
    clear HO227
    clear BK224
    clear HB
    have HO227 := n0_
    have HO233 := n1_
    have BK224 := n2_
    have HB := n3_
    clear n0_ n1_ n2_ n3_
    (try clear hb)
    (try clear hb2)
    (try clear hk)
    (try clear hi)
    (try clear ho0)
    obtain ⟨Ao37, co37, eo37⟩ := Kd.R_slice HO233.out
    (first | subst eo37 | (injection eo37 with f1_ f2_ f3_; have f4_ := f1_.symm; have f5_ := f3_.symm; clear f1_ f2_ f3_; subst f4_; subst f5_))
    have p234 : 0 ≤ ((ji18) : Int) := of_decide_eq_true (by first | (with_reducible assumption) | assumption)
    have q234 : (ji18) < (t231.length : Int) := of_decide_eq_true (by first | (with_reducible assumption) | assumption)
    obtain ⟨ad234, e234, hx234_0⟩ := Kd.at_string (Kd.R_reads' HO233.out).2.2 (ji18) p234 q234
    cases e234
    replace p234 := eq_true p234
    replace q234 := eq_true q234
    refine hK.out _ _ ⟨(blk_cell BK224.out 0).trans rfl, (blk_cell BK224.out 1).trans rfl, (blk_cell BK224.out 2).trans rfl, (blk_cell BK224.out 3).trans rfl, (blk_cell BK224.out 4).trans rfl, (blk_cell BK224.out 5).trans rfl, HS6_, trivial⟩ (fun hHeld => ?_)
    clear hK K
    refine norm_ (a' := ?_) ?_ ?_
    rotate_left
    ·
     show Act.put _ (some 26) _ = _
     simp only [Act.put, List.setIfInBounds_toArray, List.set_cons_zero, List.set_cons_succ, i64_w, i32_w]
     rfl
    refine grow_ (S' := fun w' => w'.cell? ⟨gb224, 0, none⟩ = some (.int .i64 t218) ∧ w'.cell? ⟨gb224, 1, none⟩ = some (.int .i64 t219) ∧ w'.cell? ⟨gb224, 2, none⟩ = some (.int .i64 t220) ∧ w'.cell? ⟨gb224, 3, none⟩ = some (.int .i64 t221) ∧ w'.cell? ⟨gb224, 4, none⟩ = some (.int .i64 t222) ∧ w'.cell? ⟨gb224, 5, none⟩ = some (.int .i64 t223) ∧ w'.cell? (ad229.add (t228).toNat) = some (.string (rdOf ByteArray.empty t225 t228)) ∧ w'.cell? (ad234.add ((ji18)).toNat) = some (.string (rdOf ByteArray.empty t231 (ji18)))) (fun w' h_ => ⟨h_.1, h_.2.1, h_.2.2.1, h_.2.2.2.1, h_.2.2.2.2.1, h_.2.2.2.2.2.1, h_.2.2.2.2.2.2.1, trivial⟩) ⟨hHeld.1, hHeld.2.1, hHeld.2.2.1, hHeld.2.2.2.1, hHeld.2.2.2.2.1, hHeld.2.2.2.2.2.1, hHeld.2.2.2.2.2.2.1, hx234_0⟩ (fun hHeld => ?_)
    refine pure_ (i := 15) (N := some 30) (v := ?_) (a' := ?_) #[true, true, true, true, true, true, true, true, true, true, true, true, true, true, true, true, false, false, false, true, true, false, false, false, true, false, false, false, false] rfl rfl (any_of HT_.out (by kernel_rfl)) (fun _ _ _ h => h) (Or.inl ⟨by rfl, ?_⟩) ?_ ?_
    rotate_left
    ·
     intro w'
     go_simp
     with_reducible rfl
    rotate_left
    ·
     simp only [Act.put, List.setIfInBounds_toArray, List.set_cons_zero, List.set_cons_succ, i64_w, i32_w]
     rfl
    refine take_ (i := 16) (N := some 31) (v := ?_) (a' := ?_) #[true, true, true, true, true, true, true, true, true, true, true, true, true, true, true, true, true, false, false, true, true, false, false, false, true, false, false, false, false] rfl rfl (take_ofW HT_.out HW_.out (by kernel_rfl)) (fun _ _ _ h => h) (Or.inl ⟨by rfl, ?_⟩) hHeld ?_ ?_
    rotate_left
    ·
     rintro w' ⟨s0, s1, s2, s3, s4, s5, s6, s7⟩
     go_simp
     with_reducible rfl
    rotate_left
    ·
     simp only [Act.put, List.setIfInBounds_toArray, List.set_cons_zero, List.set_cons_succ, i64_w, i32_w]
     rfl
    refine pure_ (i := 17) (N := some 32) (v := ?_) (a' := ?_) #[true, true, true, true, true, true, true, true, true, true, true, true, true, true, true, true, true, true, false, true, true, false, false, false, true, false, false, false, false] rfl rfl (any_of HT_.out (by kernel_rfl)) (fun _ _ _ h => h) (Or.inl ⟨by rfl, ?_⟩) ?_ ?_
    rotate_left
    ·
     intro w'
     go_simp
     with_reducible rfl
    rotate_left
    ·
     simp only [Act.put, List.setIfInBounds_toArray, List.set_cons_zero, List.set_cons_succ, i64_w, i32_w]
     rfl
    refine pure_ (i := 18) (N := some 33) (v := ?_) (a' := ?_) #[true, true, true, true, true, true, true, true, true, true, true, true, true, true, true, true, true, true, true, true, true, false, false, false, true, false, false, false, false] rfl rfl (any_of HT_.out (by kernel_rfl)) (fun _ _ _ h => h) (Or.inl ⟨by rfl, ?_⟩) ?_ ?_
    rotate_left
    ·
     intro w'
     go_simp
     with_reducible rfl
    rotate_left
    ·
     simp only [Act.put, List.setIfInBounds_toArray, List.set_cons_zero, List.set_cons_succ, i64_w, i32_w]
     rfl
    refine one_ (i := 21) (N := some 36) #[true, true, true, true, true, true, true, true, true, true, true, true, true, true, true, true, true, true, true, true, true, true, false, false, true, false, false, false, false] rfl rfl (one_of HT_.out (by kernel_rfl)) (by decide) (fun K hK => ?_)
    refine goes_ Tryd.func54 (by kernel_rfl) rfl #[.int .i64 t218, .int .i64 2] (by rfl) rfl rfl (by (try simp only [List.map_toArray, List.map_cons, List.map_nil]); first | done | rfl | (simp only [List.length_drop, List.length_take]; rfl)) ?_
    with_reducible refine (impl_digits.calls t218 2 t235 _ A23.out).mono ?_
    rintro e w' ⟨rfl, ⟨nd, rfl⟩⟩
    refine ⟨_, rfl, ?_⟩
    refine hK.out _ _ ⟨(blk_cell BK224.out 0).trans rfl, (blk_cell BK224.out 1).trans rfl, (blk_cell BK224.out 2).trans rfl, (blk_cell BK224.out 3).trans rfl, (blk_cell BK224.out 4).trans rfl, (blk_cell BK224.out 5).trans rfl, hHeld.2.2.2.2.2.2.1, hHeld.2.2.2.2.2.2.2⟩ (fun hHeld => ?_)
    clear hK K
    refine norm_ (a' := ?_) ?_ ?_
    rotate_left
    ·
     show Act.put _ (some 36) _ = _
     simp only [Act.put, List.setIfInBounds_toArray, List.set_cons_zero, List.set_cons_succ, i64_w, i32_w]
     rfl
    refine pure_ (i := 22) (N := some 37) (v := ?_) (a' := ?_) #[true, true, true, true, true, true, true, true, true, true, true, true, true, true, true, true, true, true, true, true, true, true, true, false, true, false, false, false, false] rfl rfl (any_of HT_.out (by kernel_rfl)) (fun _ _ _ h => h) (Or.inl ⟨by rfl, ?_⟩) ?_ ?_
    rotate_left
    ·
     intro w'
     go_simp
     with_reducible rfl
    rotate_left
    ·
     simp only [Act.put, List.setIfInBounds_toArray, List.set_cons_zero, List.set_cons_succ, i64_w, i32_w]
     rfl
    refine pure_ (i := 23) (N := some 38) (v := ?_) (a' := ?_) #[true, true, true, true, true, true, true, true, true, true, true, true, true, true, true, true, true, true, true, true, true, true, true, true, true, false, false, false, false] rfl rfl (any_of HT_.out (by kernel_rfl)) (fun _ _ _ h => h) (Or.inl ⟨by rfl, ?_⟩) ?_ ?_
    rotate_left
    ·
     intro w'
     go_simp
     with_reducible rfl
    rotate_left
    ·
     simp only [Act.put, List.setIfInBounds_toArray, List.set_cons_zero, List.set_cons_succ, i64_w, i32_w]
     rfl
    refine one_ (i := 25) (N := some 40) #[true, true, true, true, true, true, true, true, true, true, true, true, true, true, true, true, true, true, true, true, true, true, true, true, true, true, false, false, false] rfl rfl (one_of HT_.out (by kernel_rfl)) (by decide) (fun K hK => ?_)
    refine goes_ Tryd.func56 (by kernel_rfl) rfl #[.agg #[.int .i64 t218, .int .i64 t219, .int .i64 t220, .int .i64 t221, .int .i64 t222, .int .i64 t223]] (by rfl) rfl rfl (by (try simp only [List.map_toArray, List.map_cons, List.map_nil]); first | done | rfl | (simp only [List.length_drop, List.length_take]; rfl)) ?_
    with_reducible refine (impl_clock.calls t218 t219 t220 t221 t222 t223 t236 _ A26.out).mono ?_
    rintro e w38 ⟨rfl, hb⟩
    have HS6_ := (hb.cell (World.block_lt_of_cell? _ _ (hHeld.2.2.2.2.2.2.1))).trans (hHeld.2.2.2.2.2.2.1)
    have HS7_ := (hb.cell (World.block_lt_of_cell? _ _ (hHeld.2.2.2.2.2.2.2))).trans (hHeld.2.2.2.2.2.2.2)
    refine ⟨_, rfl, ?_⟩
    have n0_ := Aside0.mk (Kd.R_below (by (with_reducible repeat (first | apply Kd.R_alloc | apply Kd.R_drewN | apply Kd.R_drew)); exact HO227.out) hb)
    have n1_ := Aside0.mk (Kd.R_below (by (with_reducible repeat (first | apply Kd.R_alloc | apply Kd.R_drewN | apply Kd.R_drew)); exact HO233.out) hb)
    have n2_ := Aside0.mk (blk_below (g := gb224) (o := .cells #[.int .i64 t218, .int .i64 t219, .int .i64 t220, .int .i64 t221, .int .i64 t222, .int .i64 t223] 30 (0, 0)) (by (with_reducible repeat (first | refine blk_drewN ?_ _ | refine blk_drew ?_ | refine blk_alloc ?_ _)); exact BK224.out) hb)
    have n3_ := Aside0.mk (below_step (by repeat (first | (with_reducible first | exact HB.out | apply below_alloc | apply pw_below_drewN | apply below_drew1 | refine below_set ?_ GE224.out) | exact HB.out)) hb)
    clear HO227
    clear HO233
    clear BK224
    clear HB
    have HO227 := n0_
    have HO233 := n1_
    have BK224 := n2_
    have HB := n3_
    clear n0_ n1_ n2_ n3_
    (try clear hb)
    (try clear hb2)
    (try clear hk)
    (try clear hi)
    refine hK.out _ _ ⟨(blk_cell BK224.out 0).trans rfl, (blk_cell BK224.out 1).trans rfl, (blk_cell BK224.out 2).trans rfl, (blk_cell BK224.out 3).trans rfl, (blk_cell BK224.out 4).trans rfl, (blk_cell BK224.out 5).trans rfl, HS6_, HS7_⟩ (fun hHeld => ?_)
    clear hK K
    refine norm_ (a' := ?_) ?_ ?_
    rotate_left
    ·
     show Act.put _ (some 40) _ = _
     simp only [Act.put, List.setIfInBounds_toArray, List.set_cons_zero, List.set_cons_succ, i64_w, i32_w]
     rfl
    refine pure_ (i := 26) (N := some 41) (v := ?_) (a' := ?_) #[true, true, true, true, true, true, true, true, true, true, true, true, true, true, true, true, true, true, true, true, true, true, true, true, true, true, true, false, false] rfl rfl (any_of HT_.out (by kernel_rfl)) (fun _ _ _ h => h) (Or.inl ⟨by rfl, ?_⟩) ?_ ?_
    rotate_left
    ·
     intro w'
     go_simp
     with_reducible rfl
    rotate_left
    ·
     simp only [Act.put, List.setIfInBounds_toArray, List.set_cons_zero, List.set_cons_succ, i64_w, i32_w]
     rfl
    refine pure_ (i := 27) (N := some 42) (v := ?_) (a' := ?_) #[true, true, true, true, true, true, true, true, true, true, true, true, true, true, true, true, true, true, true, true, true, true, true, true, true, true, true, true, false] rfl rfl (any_of HT_.out (by kernel_rfl)) (fun _ _ _ h => h) (Or.inl ⟨by rfl, ?_⟩) ?_ ?_
    rotate_left
    ·
     intro w'
     go_simp
     with_reducible rfl
    rotate_left
    ·
     simp only [Act.put, List.setIfInBounds_toArray, List.set_cons_zero, List.set_cons_succ, i64_w, i32_w]
     rfl
    refine pure_ (i := 28) (N := some 2) (v := ?_) (a' := ?_) #[true, true, true, true, true, true, true, true, true, true, true, true, true, true, true, true, true, true, true, true, true, true, true, true, true, true, true, true, true] rfl rfl (any_of HT_.out (by kernel_rfl)) (fun _ _ _ h => h) (Or.inl ⟨by rfl, ?_⟩) ?_ ?_
    rotate_left
    ·
     intro w'
     go_simp
     with_reducible rfl
    rotate_left
    ·
     simp only [Act.put, List.setIfInBounds_toArray, List.set_cons_zero, List.set_cons_succ, i64_w, i32_w]
     rfl
    refine done_ (done_of HT_.out (by kernel_rfl)) ?_
    try go_wp2
    go_ret
    exact ⟨by first | rfl | (simp [errW_none, errW_some] <;> rfl) | (simp only [← hji18]; first | rfl | (simp [errW_none, errW_some] <;> rfl)) | (simp [*, errW_none, errW_some] <;> rfl), by repeat (first | (with_reducible first | exact HB.out | apply below_alloc | apply pw_below_drewN | apply below_drew1 | refine below_set ?_ GE224.out) | exact HB.out)⟩

end Go.Proofs.YtgjbhdfncappdaaDoor.PFnExactReadHttpDate
