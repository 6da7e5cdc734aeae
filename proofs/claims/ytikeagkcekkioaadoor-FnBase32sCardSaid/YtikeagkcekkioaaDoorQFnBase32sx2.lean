-- Written by a program of this session.
import Derived.Test.YtikeagkcekkioaaDoorQFnBase32sx0
import Derived.Test.YtikeagkcekkioaaDoorQFnBase32sx1
namespace Go.Proofs.YtikeagkcekkioaaDoor.PFnBase32s
open Go.Proofs.YtikeagkcekkioaaDoor.Foreign
open Go.RowKit Go.Proofs.YtikeagkcekkioaaDoorW.PrintWords Go.Proofs.YtikeagkcekkioaaDoorW.PrintLast Go.Proofs.YtikeagkcekkioaaDoorW.PrintMore
attribute [local go_sem] max2_int min2_int max_two min_two max_three min_three max_four min_four   -- for this text's walks alone
set_option linter.unusedVariables false
set_option linter.unusedSimpArgs false

/-! ### impl_ReadBase32: function 34 -/
def impl_ReadBase32.l0 : Nat → ByteArray → List Int → Int → Int → Int → Option (ByteArray × Bool)
 | 0, _, _, _, _, _ => none
 | k + 1, x0, x4, x5, x6, x7 => if x7 < (x0.size : Int) then (if 0 ≤ x7 then ((strings_IndexByte.f (⟨#[65, 66, 67, 68, 69, 70, 71, 72, 73, 74, 75, 76, 77, 78, 79, 80, 81, 82, 83, 84, 85, 86, 87, 88, 89, 90, 50, 51, 52, 53, 54, 55]⟩ : ByteArray) (bt x0 x7)).bind fun t142 => (if t142 < 0 then (some ((⟨#[]⟩ : ByteArray), false)) else (if (wrap64 (x6 + 5)) ≥ 8 then (if 0 ≤ (wrap64 ((wrap64 (x6 + 5)) - 8)) then (if x4.length < 140737488355328 then (impl_ReadBase32.l0 k x0 (x4 ++ [(shr .i64 (Go.bits .and .i64 (Go.bits .or .i64 (wrap64 (x5 * 32)) t142) 4095) (wrap64 ((wrap64 (x6 + 5)) - 8))) % 256]) (Go.bits .and .i64 (Go.bits .or .i64 (wrap64 (x5 * 32)) t142) 4095) (wrap64 ((wrap64 (x6 + 5)) - 8)) (wrap64 (x7 + 1))) else (none)) else (none)) else (impl_ReadBase32.l0 k x0 x4 (Go.bits .and .i64 (Go.bits .or .i64 (wrap64 (x5 * 32)) t142) 4095) (wrap64 (x6 + 5)) (wrap64 (x7 + 1)))))) else (none)) else (if (x4.length : Int) > 4000 then (some ((⟨#[]⟩ : ByteArray), false)) else ((impl_base32.f k (strOfNums x4)).bind fun t141 => (if t141.toList = x0.toList then (some (strOfNums x4, true)) else (some ((⟨#[]⟩ : ByteArray), false)))))
def impl_ReadBase32.f (k : Nat) (a0 : ByteArray) : Option (ByteArray × Bool) := impl_ReadBase32.l0 k a0 ([] : List Int) 0 0 0
theorem impl_ReadBase32.mono_l : ∀ k, (∀ y0 y1 y2 y3 y4, LeO (impl_ReadBase32.l0 k y0 y1 y2 y3 y4) (impl_ReadBase32.l0 (k + 1) y0 y1 y2 y3 y4))
 | 0 => fun _ _ _ _ _ r h => by simp [impl_ReadBase32.l0] at h
 | k + 1 => by
  have ih0 := impl_ReadBase32.mono_l k
  ·
   intro y0 y1 y2 y3 y4
   unfold impl_ReadBase32.l0
   repeat' first
   | (with_reducible exact ih0 _ _ _ _ _)
   | (with_reducible exact impl_base32.mono _ _)
   | (with_reducible exact LeO.refl _)
   | (with_reducible exact LeO.none _)
   | (with_reducible refine LeO.ite ?_ ?_)
   | (with_reducible refine LeO.bind ?_ (fun _ => ?_))
   | exact ih0 _ _ _ _ _
   | exact impl_base32.mono _ _
   | exact LeO.none _
   | refine LeO.ite ?_ ?_
   | refine LeO.bind ?_ (fun _ => ?_)
theorem impl_ReadBase32.mono : ∀ a0 k, LeO (impl_ReadBase32.f k a0) (impl_ReadBase32.f (k + 1) a0) := by
 intro a0 k
 have ih0 := impl_ReadBase32.mono_l k
 unfold impl_ReadBase32.f
 repeat' first
   | (with_reducible exact ih0 _ _ _ _ _)
   | (with_reducible exact impl_base32.mono _ _)
   | (with_reducible exact LeO.refl _)
   | (with_reducible exact LeO.none _)
   | (with_reducible refine LeO.ite ?_ ?_)
   | (with_reducible refine LeO.bind ?_ (fun _ => ?_))
   | exact ih0 _ _ _ _ _
   | exact impl_base32.mono _ _
   | exact LeO.none _
   | refine LeO.ite ?_ ?_
   | refine LeO.bind ?_ (fun _ => ?_)
set_option maxHeartbeats 8000000 in
set_option maxRecDepth 100000 in
theorem impl_ReadBase32.calls (k : Nat) (a0 : ByteArray) (r1 : ByteArray) (r2 : Bool) (w : World) (h : impl_ReadBase32.f k a0 = some (r1, r2)) :
  Calls Tryd.prog 34 #[.string a0] w fun e w' => e = .returned (.tuple #[.string r1, .bool r2]) ∧ Below w.heap.size w w' := by
 have HB := Aside0.mk (Below.refl w.heap.size w)
 have H : (impl_ReadBase32.l0 k a0 ([] : List Int) 0 0 0) = some (r1, r2) := h
 clear h
 have H' := Aside0.mk H
 clear H
 go_enter Tryd.func34, Tryd.ntmps34
 go_wp2
 go_loopg [4, 5, 6, 7] k (fun kq v4 v5 v6 v7 w' => ∃ (x4_1 : List Int) (x5_1 : Int) (x6_1 : Int) (x7_1 : Int), v5 = .int .i64 x5_1 ∧ v6 = .int .i64 x6_1 ∧ v7 = .int .i64 x7_1 ∧ Aside0 (impl_ReadBase32.l0 kq a0 x4_1 x5_1 x6_1 x7_1 = some (r1, r2)) ∧ Aside0 (kq ≤ k) ∧ Aside0 (Kd.R (Kd.int .u8) 5 w' w.heap.size (fun _ => True) v4 x4_1) ∧ Aside0 (Below w.heap.size w w'))
 case atStart => exact ⟨(([] : List Int)), (0), (0), (0), (by first | rfl | (simp; done) | (simp [*]; done)), (by first | rfl | (simp; done) | (simp [*]; done)), (by first | rfl | (simp; done) | (simp [*]; done)), H', ⟨Nat.le_refl _⟩, ⟨by first | exact Kd.R_nil _ _ _ _ _ | exact Kd.N_nil _ _ _ _ _ | exact Kd.V_nil _ _ _ _ _ | exact Kd.Q_nil _ _ _ _ _ | exact Kd.S_nil _ _ _ _ _⟩, ⟨by repeat (first | (with_reducible first | exact HB.out | apply below_alloc | apply pw_below_drewN | apply below_drew1) | exact HB.out)⟩⟩
 case round =>
  clear H'
  obtain ⟨x4_1, x5_1, x6_1, x7_1, rfl, rfl, rfl, HA, HK1, HO_4, HB⟩ := hrel
  cases gk with
  | zero => exact absurd HA.out (by simp [impl_ReadBase32.l0])
  | succ k1 =>
   have H := HA.out
   clear HA
   simp only [impl_ReadBase32.l0] at H
   by_cases c2 : x7_1 < (a0.size : Int)
   ·
    rw [if_pos c2] at H
    have c2b0 : decide (x7_1 < (a0.size : Int)) = true := decide_eq_true c2
    clear c2
    have c3 : 0 ≤ x7_1 := Classical.byContradiction fun h_ => by rw [if_neg h_] at H; exact absurd H (by simp)
    rw [if_pos c3] at H
    have c3b0 : decide (0 ≤ x7_1) = true := decide_eq_true c3
    clear c3
    replace H := Option.bind_eq_some_iff.mp H
    obtain ⟨t142, A50, H⟩ := H
    replace H : (if t142 < 0 then (some ((⟨#[]⟩ : ByteArray), false)) else (if (wrap64 (x6_1 + 5)) ≥ 8 then (if 0 ≤ (wrap64 ((wrap64 (x6_1 + 5)) - 8)) then (if x4_1.length < 140737488355328 then (impl_ReadBase32.l0 k1 a0 (x4_1 ++ [(shr .i64 (Go.bits .and .i64 (Go.bits .or .i64 (wrap64 (x5_1 * 32)) t142) 4095) (wrap64 ((wrap64 (x6_1 + 5)) - 8))) % 256]) (Go.bits .and .i64 (Go.bits .or .i64 (wrap64 (x5_1 * 32)) t142) 4095) (wrap64 ((wrap64 (x6_1 + 5)) - 8)) (wrap64 (x7_1 + 1))) else (none)) else (none)) else (impl_ReadBase32.l0 k1 a0 x4_1 (Go.bits .and .i64 (Go.bits .or .i64 (wrap64 (x5_1 * 32)) t142) 4095) (wrap64 (x6_1 + 5)) (wrap64 (x7_1 + 1))))) = some (r1, r2) := H
    have A5 := Aside0.mk A50
    clear A50
    by_cases c6 : t142 < 0
    ·
     rw [if_pos c6] at H
     have c6b0 : decide (t142 < 0) = true := decide_eq_true c6
     clear c6
     simp only [Option.some.injEq, Prod.mk.injEq] at H
     obtain ⟨rfl, rfl⟩ := H
     have p4 : 0 ≤ (x7_1 : Int) := of_decide_eq_true (by first | (with_reducible assumption) | assumption)
     have q4 : x7_1 < (a0.size : Int) := of_decide_eq_true (by first | (with_reducible assumption) | assumption)
     have hx4 := bt_at a0 x7_1
     replace p4 := eq_true p4
     replace q4 := eq_true q4
     go_wp2_with (first | ((with_reducible refine gate_callee (f := 60) rfl ?_); refine goesL_ (some 18) rfl rfl Tryd.func60 (by kernel_rfl) rfl #[.string (⟨#[65, 66, 67, 68, 69, 70, 71, 72, 73, 74, 75, 76, 77, 78, 79, 80, 81, 82, 83, 84, 85, 86, 87, 88, 89, 90, 50, 51, 52, 53, 54, 55]⟩ : ByteArray), .int .u8 (bt a0 x7_1)] rfl (by (try simp only [List.map_toArray, List.map_cons, List.map_nil]); first | done | rfl | (simp only [List.length_drop, List.length_take]; rfl)) ?_; (with_reducible refine (strings_IndexByte.calls (⟨#[65, 66, 67, 68, 69, 70, 71, 72, 73, 74, 75, 76, 77, 78, 79, 80, 81, 82, 83, 84, 85, 86, 87, 88, 89, 90, 50, 51, 52, 53, 54, 55]⟩ : ByteArray) (bt a0 x7_1) t142 _ A5.out).mono ?_); rintro e w' ⟨rfl, ⟨nd, rfl⟩⟩; refine ⟨_, rfl, ?_⟩))
     go_ret2
     exact ⟨by first | rfl | (simp [errW_none, errW_some] <;> rfl) | (simp [*, errW_none, errW_some] <;> rfl), by repeat (first | (with_reducible first | exact HB.out | apply below_alloc | apply pw_below_drewN | apply below_drew1) | exact HB.out)⟩
    ·
     rw [if_neg c6] at H
     have c6b0 : decide (t142 < 0) = false := decide_eq_false c6
     clear c6
     by_cases c7 : (wrap64 (x6_1 + 5)) ≥ 8
     ·
      rw [if_pos c7] at H
      have c7b0 : decide (8 ≤ (wrap64 (x6_1 + 5))) = true := decide_eq_true c7
      clear c7
      obtain ⟨ji8, hji8⟩ : ∃ j_ : Int, (wrap64 ((wrap64 (x6_1 + 5)) - 8)) = j_ := ⟨_, rfl⟩
      replace H : (if 0 ≤ (ji8) then (if x4_1.length < 140737488355328 then (impl_ReadBase32.l0 k1 a0 (x4_1 ++ [(shr .i64 (Go.bits .and .i64 (Go.bits .or .i64 (wrap64 (x5_1 * 32)) t142) 4095) (ji8)) % 256]) (Go.bits .and .i64 (Go.bits .or .i64 (wrap64 (x5_1 * 32)) t142) 4095) ji8 (wrap64 (x7_1 + 1))) else (none)) else (none)) = some (r1, r2) := by first | (rw [hji8] at H; exact H) | (simp only [hji8] at H ⊢; exact H)
      (try rw [hji8] at A5)
      have hji8w : (IntKind.i64.wrap ((wrap64 (x6_1 + 5)) - 8)) = ji8 := (i64_w _).trans hji8
      have c9 : 0 ≤ (ji8) := Classical.byContradiction fun h_ => by rw [if_neg h_] at H; exact absurd H (by simp)
      rw [if_pos c9] at H
      have c9b0 := eq_true c9
      have c9b1 : decide (0 ≤ (ji8)) = true := decide_eq_true c9
      clear c9
      obtain ⟨ji10, hji10⟩ : ∃ j_ : Int, (shr .i64 (Go.bits .and .i64 (Go.bits .or .i64 (wrap64 (x5_1 * 32)) t142) 4095) (ji8)) = j_ := ⟨_, rfl⟩
      replace H : (if x4_1.length < 140737488355328 then (impl_ReadBase32.l0 k1 a0 (x4_1 ++ [(ji10) % 256]) (Go.bits .and .i64 (Go.bits .or .i64 (wrap64 (x5_1 * 32)) t142) 4095) ji8 (wrap64 (x7_1 + 1))) else (none)) = some (r1, r2) := by first | (rw [hji10] at H; exact H) | (simp only [hji10] at H ⊢; exact H)
      (try rw [hji10] at A5)
      have hji10_ : ((Go.bits .and .i64 (Go.bits .or .i64 (wrap64 (x5_1 * 32)) t142) 4095) / 2 ^ min (ji8).toNat 64) = ji10 := hji10
      have hji10z : (ji8) ≤ 64 → ((Go.bits .and .i64 (Go.bits .or .i64 (wrap64 (x5_1 * 32)) t142) 4095) / 2 ^ (ji8).toNat) = ji10 := shr_small hji10
      have c11 : x4_1.length < 140737488355328 := Classical.byContradiction fun h_ => by rw [if_neg h_] at H; exact absurd H (by simp)
      rw [if_pos c11] at H
      have LMc11 := Aside0.mk c11
      clear c11
      obtain ⟨y143, hy143⟩ : ∃ y_ : List Int, y_ = (x4_1 ++ [(ji10) % 256]) := ⟨_, rfl⟩
      replace H : (impl_ReadBase32.l0 k1 a0 y143 (Go.bits .and .i64 (Go.bits .or .i64 (wrap64 (x5_1 * 32)) t142) 4095) ji8 (wrap64 (x7_1 + 1))) = some (r1, r2) := by first | (rw [hy143]; with_reducible exact H) | (have H2_ := (Option.bind_some _ _).symm.trans H; rw [hy143]; with_reducible exact H2_) | (have H2_ := (Option.bind_some _ _).symm.trans H; with_reducible exact H2_) | with_reducible exact H | (rw [hy143]; exact H) | exact H
      have Ny143 := Aside0.mk hy143
      clear hy143
      have H' := Aside0.mk H
      clear H
      have p4 : 0 ≤ (x7_1 : Int) := of_decide_eq_true (by first | (with_reducible assumption) | assumption)
      have q4 : x7_1 < (a0.size : Int) := of_decide_eq_true (by first | (with_reducible assumption) | assumption)
      have hx4 := bt_at a0 x7_1
      replace p4 := eq_true p4
      replace q4 := eq_true q4
      go_wp2_with (first | ((with_reducible refine gate_callee (f := 60) rfl ?_); refine goesL_ (some 18) rfl rfl Tryd.func60 (by kernel_rfl) rfl #[.string (⟨#[65, 66, 67, 68, 69, 70, 71, 72, 73, 74, 75, 76, 77, 78, 79, 80, 81, 82, 83, 84, 85, 86, 87, 88, 89, 90, 50, 51, 52, 53, 54, 55]⟩ : ByteArray), .int .u8 (bt a0 x7_1)] rfl (by (try simp only [List.map_toArray, List.map_cons, List.map_nil]); first | done | rfl | (simp only [List.length_drop, List.length_take]; rfl)) ?_; (with_reducible refine (strings_IndexByte.calls (⟨#[65, 66, 67, 68, 69, 70, 71, 72, 73, 74, 75, 76, 77, 78, 79, 80, 81, 82, 83, 84, 85, 86, 87, 88, 89, 90, 50, 51, 52, 53, 54, 55]⟩ : ByteArray) (bt a0 x7_1) t142 _ A5.out).mono ?_); rintro e w' ⟨rfl, ⟨nd, rfl⟩⟩; refine ⟨_, rfl, ?_⟩) | ((with_reducible refine gate_builtin (b := .append) (xs := #[.tmp 32, .tmp 37]) rfl ?_); at_builtin; refine Kd.R_append (Kd.int .u8) (w0 := w) w.heap.size rfl (.tmp 32) (.tmp 37) 22 5 (.int .u8 0) 1 rfl Tryd.underlying22 info5 rfl (by decide) (by omega) u4 x4_1 ((ji10) % 256) [.int .u8 ((ji10) % 256)] (fun _ => True) (fun _ => False) rfl rfl ?aP (fun _ hk => hk.elim) ?aF ?aO ?aB ?aS ?aL ?_; (case aP => exact rfl); (case aB => exact (by repeat (first | (with_reducible first | exact HB.out | apply below_alloc | apply pw_below_drewN | apply below_drew1) | exact HB.out))); (case aF => exact (fun _ _ => trivial)); (case aO => exact (by (with_reducible repeat (first | apply Kd.R_alloc | apply Kd.R_drewN | apply Kd.R_drew)); exact HO_4.out)); (case aS => exact (below_size (by repeat (first | (with_reducible first | exact HB.out | apply below_alloc | apply pw_below_drewN | apply below_drew1) | exact HB.out)))); (case aL => have := LMc11.out; omega); intro v144 w12 ho hb hg hat; rw [← Ny143.out] at ho; have n0_ := Aside0.mk (hb); have n1_ := Aside0.mk (ho); clear HB; clear HO_4; have HB := n0_; have HO145 := n1_; clear n0_ n1_; clear ho hb hg hat))
      go_roundg k1
      case measure => have := HK1.out; omega
      case rel => exact ⟨(y143), (Go.bits .and .i64 (Go.bits .or .i64 (wrap64 (x5_1 * 32)) t142) 4095), (ji8), (wrap64 (x7_1 + 1)), (by first | rfl | (simp; done) | (simp [*]; done)), (by first | rfl | (simp; done) | (simp only [← hji8] <;> (first | rfl | simp)) | (simp [*]; done)), (by first | rfl | (simp; done) | (simp [*]; done)), H', ⟨by have := HK1.out; omega⟩, ⟨by (with_reducible repeat (first | apply Kd.R_alloc | apply Kd.R_drewN | apply Kd.R_drew)); exact HO145.out⟩, ⟨by repeat (first | (with_reducible first | exact HB.out | apply below_alloc | apply pw_below_drewN | apply below_drew1) | exact HB.out)⟩⟩
     ·
      rw [if_neg c7] at H
      have c7b0 : decide (8 ≤ (wrap64 (x6_1 + 5))) = false := decide_eq_false c7
      clear c7
      have H' := Aside0.mk H
      clear H
      have p4 : 0 ≤ (x7_1 : Int) := of_decide_eq_true (by first | (with_reducible assumption) | assumption)
      have q4 : x7_1 < (a0.size : Int) := of_decide_eq_true (by first | (with_reducible assumption) | assumption)
      have hx4 := bt_at a0 x7_1
      replace p4 := eq_true p4
      replace q4 := eq_true q4
      go_wp2_with (first | ((with_reducible refine gate_callee (f := 60) rfl ?_); refine goesL_ (some 18) rfl rfl Tryd.func60 (by kernel_rfl) rfl #[.string (⟨#[65, 66, 67, 68, 69, 70, 71, 72, 73, 74, 75, 76, 77, 78, 79, 80, 81, 82, 83, 84, 85, 86, 87, 88, 89, 90, 50, 51, 52, 53, 54, 55]⟩ : ByteArray), .int .u8 (bt a0 x7_1)] rfl (by (try simp only [List.map_toArray, List.map_cons, List.map_nil]); first | done | rfl | (simp only [List.length_drop, List.length_take]; rfl)) ?_; (with_reducible refine (strings_IndexByte.calls (⟨#[65, 66, 67, 68, 69, 70, 71, 72, 73, 74, 75, 76, 77, 78, 79, 80, 81, 82, 83, 84, 85, 86, 87, 88, 89, 90, 50, 51, 52, 53, 54, 55]⟩ : ByteArray) (bt a0 x7_1) t142 _ A5.out).mono ?_); rintro e w' ⟨rfl, ⟨nd, rfl⟩⟩; refine ⟨_, rfl, ?_⟩))
      go_roundg k1
      case measure => have := HK1.out; omega
      case rel => exact ⟨(x4_1), (Go.bits .and .i64 (Go.bits .or .i64 (wrap64 (x5_1 * 32)) t142) 4095), (wrap64 (x6_1 + 5)), (wrap64 (x7_1 + 1)), (by first | rfl | (simp; done) | (simp [*]; done)), (by first | rfl | (simp; done) | (simp [*]; done)), (by first | rfl | (simp; done) | (simp [*]; done)), H', ⟨by have := HK1.out; omega⟩, ⟨by (with_reducible repeat (first | apply Kd.R_alloc | apply Kd.R_drewN | apply Kd.R_drew)); exact HO_4.out⟩, ⟨by repeat (first | (with_reducible first | exact HB.out | apply below_alloc | apply pw_below_drewN | apply below_drew1) | exact HB.out)⟩⟩
   ·
    rw [if_neg c2] at H
    have c2b0 : decide (x7_1 < (a0.size : Int)) = false := decide_eq_false c2
    clear c2
    by_cases c13 : (x4_1.length : Int) > 4000
    ·
     rw [if_pos c13] at H
     have c13b0 : decide (4000 < (x4_1.length : Int)) = true := decide_eq_true c13
     have c13b1 : decide (4000 < x4_1.length) = true := decide_eq_true (by omega)
     clear c13
     simp only [Option.some.injEq, Prod.mk.injEq] at H
     obtain ⟨rfl, rfl⟩ := H
     obtain ⟨Ao14, co14, eo14⟩ := Kd.R_slice HO_4.out
     subst eo14
     go_wp2
     go_ret2
     exact ⟨by first | rfl | (simp [errW_none, errW_some] <;> rfl) | (simp [*, errW_none, errW_some] <;> rfl), by repeat (first | (with_reducible first | exact HB.out | apply below_alloc | apply pw_below_drewN | apply below_drew1) | exact HB.out)⟩
    ·
     rw [if_neg c13] at H
     have c13b0 : decide (4000 < (x4_1.length : Int)) = false := decide_eq_false c13
     have c13b1 : decide (4000 < x4_1.length) = false := decide_eq_false (by omega)
     clear c13
     replace H := Option.bind_eq_some_iff.mp H
     obtain ⟨t141, A150, H⟩ := H
     replace H : (if t141.toList = a0.toList then (some (strOfNums x4_1, true)) else (some ((⟨#[]⟩ : ByteArray), false))) = some (r1, r2) := H
     have A15 := Aside0.mk A150
     clear A150
     by_cases c16 : t141.toList = a0.toList
     ·
      rw [if_pos c16] at H
      have c16b0 : (t141.toList == a0.toList) = true := beq_iff_eq.mpr c16
      have c16b1 : (t141.toList != a0.toList) = false := bne_eq_false_iff_eq.mpr c16
      clear c16
      simp only [Option.some.injEq, Prod.mk.injEq] at H
      obtain ⟨rfl, rfl⟩ := H
      obtain ⟨Ao17, co17, eo17⟩ := Kd.R_slice HO_4.out
      subst eo17
      have hcv18 := own_string (P := Tryd.prog) Tryd.underlying22 Tryd.underlying5 Tryd.underlying9 (Kd.own_of_R HO_4.out)
      go_wp2_with (first | (go_at_call 61; (with_reducible refine (impl_base32.calls k1 (strOfNums x4_1) t141 _ A15.out).mono ?_); rintro e w19 ⟨rfl, hb⟩; have n0_ := Aside0.mk (Kd.R_below (by (with_reducible repeat (first | apply Kd.R_alloc | apply Kd.R_drewN | apply Kd.R_drew)); exact HO_4.out) hb); have n1_ := Aside0.mk (below_step (by repeat (first | (with_reducible first | exact HB.out | apply below_alloc | apply pw_below_drewN | apply below_drew1) | exact HB.out)) hb); clear HO_4; clear HB; have HO_4 := n0_; have HB := n1_; clear n0_ n1_; (try clear hb); (try clear hb2); (try clear hk); (try clear hi); have hcv20 := own_string (P := Tryd.prog) Tryd.underlying22 Tryd.underlying5 Tryd.underlying9 (Kd.own_of_R HO_4.out)))
      go_ret2
      exact ⟨by first | rfl | (simp [errW_none, errW_some] <;> rfl) | (simp [*, errW_none, errW_some] <;> rfl), by repeat (first | (with_reducible first | exact HB.out | apply below_alloc | apply pw_below_drewN | apply below_drew1) | exact HB.out)⟩
     ·
      rw [if_neg c16] at H
      have c16b0 : (t141.toList == a0.toList) = false := beq_eq_false_iff_ne.mpr c16
      have c16b1 : (t141.toList != a0.toList) = true := bne_iff_ne.mpr c16
      simp only [Option.some.injEq, Prod.mk.injEq] at H
      obtain ⟨rfl, rfl⟩ := H
      obtain ⟨Ao21, co21, eo21⟩ := Kd.R_slice HO_4.out
      subst eo21
      have hcv22 := own_string (P := Tryd.prog) Tryd.underlying22 Tryd.underlying5 Tryd.underlying9 (Kd.own_of_R HO_4.out)
      go_wp2_with (first | (go_at_call 61; (with_reducible refine (impl_base32.calls k1 (strOfNums x4_1) t141 _ A15.out).mono ?_); rintro e w23 ⟨rfl, hb⟩; have n0_ := Aside0.mk (Kd.R_below (by (with_reducible repeat (first | apply Kd.R_alloc | apply Kd.R_drewN | apply Kd.R_drew)); exact HO_4.out) hb); have n1_ := Aside0.mk (below_step (by repeat (first | (with_reducible first | exact HB.out | apply below_alloc | apply pw_below_drewN | apply below_drew1) | exact HB.out)) hb); clear HO_4; clear HB; have HO_4 := n0_; have HB := n1_; clear n0_ n1_; (try clear hb); (try clear hb2); (try clear hk); (try clear hi)))
      go_ret2
      exact ⟨by first | rfl | (simp [errW_none, errW_some] <;> rfl) | (simp [*, errW_none, errW_some] <;> rfl), by repeat (first | (with_reducible first | exact HB.out | apply below_alloc | apply pw_below_drewN | apply below_drew1) | exact HB.out)⟩

/-! ### spec_l1of: function 38 -/
def spec_l1of.l0 : Nat → Int → ByteArray → List Int → Int → List Int → Int → Int → Option (ByteArray × Int × Int)
 | 0, _, _, _, _, _, _, _ => none
 | k + 1, x1, x2, x7, x8, x1000, x1001, x1002 => if x8 < x1 then ((spec_l1Below.f x1000 x1001 x1002 (x2.size : Int)).bind fun bt146 => (if 0 ≤ bt146.1 then (if bt146.1 < (x2.size : Int) then (if x7.length < 140737488355328 then (spec_l1of.l0 k x1 x2 (x7 ++ [bt x2 bt146.1]) (wrap64 (x8 + 1)) x1000 bt146.2.1 bt146.2.2) else (none)) else (none)) else (none))) else (some (strOfNums x7, x1001, x1002))
def spec_l1of.f (k : Nat) (s0_0 : List Int) (s0_1 : Int) (s0_2 : Int) (a1 : Int) (a2 : ByteArray) : Option (ByteArray × Int × Int) := spec_l1of.l0 k a1 a2 ([] : List Int) 0 s0_0 s0_1 s0_2
theorem spec_l1of.mono_l : ∀ k, (∀ y0 y1 y2 y3 y4 y5 y6, LeO (spec_l1of.l0 k y0 y1 y2 y3 y4 y5 y6) (spec_l1of.l0 (k + 1) y0 y1 y2 y3 y4 y5 y6))
 | 0 => fun _ _ _ _ _ _ _ r h => by simp [spec_l1of.l0] at h
 | k + 1 => by
  have ih0 := spec_l1of.mono_l k
  ·
   intro y0 y1 y2 y3 y4 y5 y6
   unfold spec_l1of.l0
   repeat' first
   | (with_reducible exact ih0 _ _ _ _ _ _ _)
   | (with_reducible exact LeO.refl _)
   | (with_reducible exact LeO.none _)
   | (with_reducible refine LeO.ite ?_ ?_)
   | (with_reducible refine LeO.bind ?_ (fun _ => ?_))
   | exact ih0 _ _ _ _ _ _ _
   | exact LeO.none _
   | refine LeO.ite ?_ ?_
   | refine LeO.bind ?_ (fun _ => ?_)
theorem spec_l1of.mono : ∀ a0 a1 a2 a3 a4 k, LeO (spec_l1of.f k a0 a1 a2 a3 a4) (spec_l1of.f (k + 1) a0 a1 a2 a3 a4) := by
 intro a0 a1 a2 a3 a4 k
 have ih0 := spec_l1of.mono_l k
 unfold spec_l1of.f
 repeat' first
   | (with_reducible exact ih0 _ _ _ _ _ _ _)
   | (with_reducible exact LeO.refl _)
   | (with_reducible exact LeO.none _)
   | (with_reducible refine LeO.ite ?_ ?_)
   | (with_reducible refine LeO.bind ?_ (fun _ => ?_))
   | exact ih0 _ _ _ _ _ _ _
   | exact LeO.none _
   | refine LeO.ite ?_ ?_
   | refine LeO.bind ?_ (fun _ => ?_)
set_option maxHeartbeats 8000000 in
set_option maxRecDepth 100000 in
theorem spec_l1of.calls (k : Nat) (g : Nat) (s0_0 : List Int) (s0_1 : Int) (s0_2 : Int) (a1 : Int) (a2 : ByteArray) (r1 : ByteArray) (r2 : Int) (r3 : Int) (w0 w : World) (hI : IsS71 w0 w g s0_0 s0_1 s0_2) (hB : Below w0.heap.size w0 w) (h : spec_l1of.f k s0_0 s0_1 s0_2 a1 a2 = some (r1, r2, r3)) :
  Calls Tryd.prog 38 #[.pointer (some ⟨g, 0, none⟩), .int .i64 a1, .string a2] w fun e w' => e = .returned (.string r1) ∧ IsS71 w0 w' g s0_0 r2 r3 ∧ Below w0.heap.size w0 w' ∧ KeepBut w w' g none := by
 have HI0 := Aside0.mk hI
 have HK := Aside0.mk (KeepBut.refl w g none)
 have HL := Aside0.mk hB.size
 clear hI
 have HW0 := Aside0.mk hB.size
 have HB := Aside0.mk hB
 clear hB
 have H : (spec_l1of.l0 k a1 a2 ([] : List Int) 0 s0_0 s0_1 s0_2) = some (r1, r2, r3) := h
 clear h
 have H' := Aside0.mk H
 clear H
 go_enter Tryd.func38, Tryd.ntmps38
 go_wp2
 go_loopg [7, 8] k (fun kq v7 v8 w' => ∃ (x7_1 : List Int) (x8_1 : Int) (x1001_1 : Int) (x1002_1 : Int), v8 = .int .i64 x8_1 ∧ Aside0 (spec_l1of.l0 kq a1 a2 x7_1 x8_1 s0_0 x1001_1 x1002_1 = some (r1, r2, r3)) ∧ Aside0 (kq ≤ k) ∧ Aside0 (Kd.R (Kd.int .u8) 5 w' w.heap.size (fun _ => True) v7 x7_1) ∧ Aside0 (IsS71 w0 w' g s0_0 x1001_1 x1002_1) ∧ Aside0 (KeepBut w w' g none) ∧ Aside0 (Below w0.heap.size w0 w'))
 case atStart => exact ⟨(([] : List Int)), (0), (s0_1), (s0_2), (by first | rfl | (simp; done) | (simp [*]; done)), H', ⟨Nat.le_refl _⟩, ⟨by first | exact Kd.R_nil _ _ _ _ _ | exact Kd.N_nil _ _ _ _ _ | exact Kd.V_nil _ _ _ _ _ | exact Kd.Q_nil _ _ _ _ _ | exact Kd.S_nil _ _ _ _ _⟩, ⟨by repeat (first | (with_reducible first | exact HI0.out | apply IsS71.alloc | apply IsS71.drewN | apply IsS71.drew | apply IsS71.set_1 | apply IsS71.set_2) | exact HI0.out)⟩, ⟨by repeat (first | (with_reducible first | exact HK.out | apply KeepBut.set_ | apply keep_drewN | apply keep_drew | apply keep_alloc) | exact HK.out)⟩, ⟨by repeat (first | (with_reducible first | exact HB.out | apply below_alloc | apply pw_below_drewN | apply below_drew1 | refine below_set ?_ (IsS71.ge HI0.out)) | exact HB.out)⟩⟩
 case round =>
  clear H'
  try clear p2
  try clear c3
  obtain ⟨x7_1, x8_1, x1001_1, x1002_1, rfl, HA, HK1, HO_7, HI0, HK, HB⟩ := hrel
  cases gk with
  | zero => exact absurd HA.out (by simp [spec_l1of.l0])
  | succ k1 =>
   have H := HA.out
   clear HA
   simp only [spec_l1of.l0] at H
   by_cases c4 : x8_1 < a1
   ·
    rw [if_pos c4] at H
    have c4b0 : decide (x8_1 < a1) = true := decide_eq_true c4
    clear c4
    replace H := Option.bind_eq_some_iff.mp H
    obtain ⟨⟨t146, t147, t148⟩, A50, H⟩ := H
    replace H : (if 0 ≤ t146 then (if t146 < (a2.size : Int) then (if x7_1.length < 140737488355328 then (spec_l1of.l0 k1 a1 a2 (x7_1 ++ [bt a2 t146]) (wrap64 (x8_1 + 1)) s0_0 t147 t148) else (none)) else (none)) else (none)) = some (r1, r2, r3) := H
    have A5 := Aside0.mk A50
    clear A50
    have c6 : 0 ≤ t146 := Classical.byContradiction fun h_ => by rw [if_neg h_] at H; exact absurd H (by simp)
    rw [if_pos c6] at H
    have c6b0 : decide (0 ≤ t146) = true := decide_eq_true c6
    clear c6
    have c7 : t146 < (a2.size : Int) := Classical.byContradiction fun h_ => by rw [if_neg h_] at H; exact absurd H (by simp)
    rw [if_pos c7] at H
    have c7b0 : decide (t146 < (a2.size : Int)) = true := decide_eq_true c7
    clear c7
    have c9 : x7_1.length < 140737488355328 := Classical.byContradiction fun h_ => by rw [if_neg h_] at H; exact absurd H (by simp)
    rw [if_pos c9] at H
    have LMc9 := Aside0.mk c9
    clear c9
    obtain ⟨y149, hy149⟩ : ∃ y_ : List Int, y_ = (x7_1 ++ [bt a2 t146]) := ⟨_, rfl⟩
    replace H : (spec_l1of.l0 k1 a1 a2 y149 (wrap64 (x8_1 + 1)) s0_0 t147 t148) = some (r1, r2, r3) := by first | (rw [hy149]; with_reducible exact H) | (have H2_ := (Option.bind_some _ _).symm.trans H; rw [hy149]; with_reducible exact H2_) | (have H2_ := (Option.bind_some _ _).symm.trans H; with_reducible exact H2_) | with_reducible exact H | (rw [hy149]; exact H) | exact H
    have Ny149 := Aside0.mk hy149
    clear hy149
    have H' := Aside0.mk H
    clear H
    go_wp2_with (first | ((with_reducible refine gate_callee (f := 39) rfl ?_); refine goesL_ (some 19) rfl rfl Tryd.func39 (by kernel_rfl) rfl #[.pointer (some ⟨g, 0, none⟩), .int .i64 (a2.size : Int)] rfl (by (try simp only [List.map_toArray, List.map_cons, List.map_nil]); first | done | rfl | (simp only [List.length_drop, List.length_take]; rfl)) ?_; (with_reducible refine (spec_l1Below.calls g s0_0 x1001_1 x1002_1 (a2.size : Int) t146 t147 t148 w0 _ ?side1 ?side2 A5.out).mono ?_); (case side1 => repeat (first | (with_reducible first | exact HI0.out | apply IsS71.alloc | apply IsS71.drewN | apply IsS71.drew | apply IsS71.set_1 | apply IsS71.set_2) | exact HI0.out)); (case side2 => repeat (first | (with_reducible first | exact HB.out | apply below_alloc | apply pw_below_drewN | apply below_drew1 | refine below_set ?_ (IsS71.ge HI0.out)) | exact HB.out)); rintro e w10 ⟨rfl, hi, hb, hk⟩; refine ⟨_, rfl, ?_⟩; have n0_ := Aside0.mk (Kd.R_mono (Kd.R_keep (IsS71.apart (show IsS71 w0 _ g s0_0 x1001_1 x1002_1 from by repeat (first | (with_reducible first | exact HI0.out | apply IsS71.alloc | apply IsS71.drewN | apply IsS71.drew | apply IsS71.set_1 | apply IsS71.set_2) | exact HI0.out)) (by (with_reducible repeat (first | apply Kd.R_alloc | apply Kd.R_drewN | apply Kd.R_drew)); exact HO_7.out) (by decide)) hk (fun _ h => h.2)) (fun _ h => h.1)); have n1_ := Aside0.mk (KeepBut.trans (by repeat (first | (with_reducible first | exact HK.out | apply KeepBut.set_ | apply keep_drewN | apply keep_drew | apply keep_alloc) | exact HK.out)) hk (.inl rfl)); have n2_ := Aside0.mk (hb); have n3_ := Aside0.mk (hi); clear HO_7; clear HK; clear HB; clear HI0; have HO_7 := n0_; have HK := n1_; have HB := n2_; have HI0 := n3_; clear n0_ n1_ n2_ n3_; (try clear hb); (try clear hb2); (try clear hk); (try clear hi); have p8 : 0 ≤ (t146 : Int) := of_decide_eq_true (by first | (with_reducible assumption) | assumption); have q8 : t146 < (a2.size : Int) := of_decide_eq_true (by first | (with_reducible assumption) | assumption); have hx8 := bt_at a2 t146; replace p8 := eq_true p8; replace q8 := eq_true q8) | ((with_reducible refine gate_builtin (b := .append) (xs := #[.tmp 14, .tmp 21]) rfl ?_); at_builtin; refine Kd.R_append (Kd.int .u8) w.heap.size rfl (.tmp 14) (.tmp 21) 22 5 (.int .u8 0) 1 rfl Tryd.underlying22 info5 rfl (by decide) (by omega) u7 x7_1 (bt a2 t146) [.int .u8 (bt a2 t146)] (fun _ => True) (fun _ => False) rfl rfl ?aP (fun _ hk => hk.elim) ?aF ?aO (Below.refl _ _) ?aS ?aL ?_; (case aP => exact rfl); (case aF => exact (fun _ _ => trivial)); (case aO => exact (by (with_reducible repeat (first | apply Kd.R_alloc | apply Kd.R_drewN | apply Kd.R_drew)); exact HO_7.out)); (case aS => exact (keep_size (w := w) (g := g) (row := none) (by repeat (first | (with_reducible first | exact HK.out | apply KeepBut.set_ | apply keep_drewN | apply keep_drew | apply keep_alloc) | exact HK.out)))); (case aL => have := LMc9.out; omega); intro v150 w11 ho hb hg hat; rw [← Ny149.out] at ho; have n0_ := Aside0.mk (IsS71.grown (by repeat (first | (with_reducible first | exact HI0.out | apply IsS71.alloc | apply IsS71.drewN | apply IsS71.drew | apply IsS71.set_1 | apply IsS71.set_2) | exact HI0.out)) hg (IsS71.own_ne HI0.out HO_7.out (by decide))); have n1_ := Aside0.mk (below_weaken (by repeat (first | (with_reducible first | exact HB.out | apply below_alloc | apply pw_below_drewN | apply below_drew1 | refine below_set ?_ (IsS71.ge HI0.out)) | exact HB.out)) HL.out hb); have n2_ := Aside0.mk (KeepBut.trans (by repeat (first | (with_reducible first | exact HK.out | apply KeepBut.set_ | apply keep_drewN | apply keep_drew | apply keep_alloc) | exact HK.out)) (KeepBut.of_grown hg g) (Kd.R_base2 HO_7.out)); have n3_ := Aside0.mk (ho); clear HI0; clear HB; clear HK; clear HO_7; have HI0 := n0_; have HB := n1_; have HK := n2_; have HO151 := n3_; clear n0_ n1_ n2_ n3_; clear ho hb hg hat))
    go_roundg k1
    case measure => have := HK1.out; omega
    case rel => exact ⟨(y149), (wrap64 (x8_1 + 1)), (t147), (t148), (by first | rfl | (simp; done) | (simp [*]; done)), H', ⟨by have := HK1.out; omega⟩, ⟨by (with_reducible repeat (first | apply Kd.R_alloc | apply Kd.R_drewN | apply Kd.R_drew)); exact HO151.out⟩, ⟨by repeat (first | (with_reducible first | exact HI0.out | apply IsS71.alloc | apply IsS71.drewN | apply IsS71.drew | apply IsS71.set_1 | apply IsS71.set_2) | exact HI0.out)⟩, ⟨by repeat (first | (with_reducible first | exact HK.out | apply KeepBut.set_ | apply keep_drewN | apply keep_drew | apply keep_alloc) | exact HK.out)⟩, ⟨by repeat (first | (with_reducible first | exact HB.out | apply below_alloc | apply pw_below_drewN | apply below_drew1 | refine below_set ?_ (IsS71.ge HI0.out)) | exact HB.out)⟩⟩
   ·
    rw [if_neg c4] at H
    have c4b0 : decide (x8_1 < a1) = false := decide_eq_false c4
    clear c4
    simp only [Option.some.injEq, Prod.mk.injEq] at H
    obtain ⟨rfl, rfl, rfl⟩ := H
    have hcv12 := own_string (P := Tryd.prog) Tryd.underlying22 Tryd.underlying5 Tryd.underlying9 (Kd.own_of_R HO_7.out)
    go_wp2
    go_ret
    exact ⟨by first | rfl | (simp [errW_none, errW_some] <;> rfl) | (simp [*, errW_none, errW_some] <;> rfl), by repeat (first | (with_reducible first | exact HI0.out | apply IsS71.alloc | apply IsS71.drewN | apply IsS71.drew | apply IsS71.set_1 | apply IsS71.set_2) | exact HI0.out), by repeat (first | (with_reducible first | exact HB.out | apply below_alloc | apply pw_below_drewN | apply below_drew1 | refine below_set ?_ (IsS71.ge HI0.out)) | exact HB.out), by repeat (first | (with_reducible first | exact HK.out | apply KeepBut.set_ | apply keep_drewN | apply keep_drew | apply keep_alloc) | exact HK.out)⟩

theorem keep_bytes {w w1 w2 : World} {g : Nat} (h : KeepBut w w1 g none) (hb : Below w1.heap.size w1 w2) : KeepBut w w2 g none :=
  ⟨Nat.le_trans h.1 hb.size, fun i hi hg hr => by rw [hb.block i (Nat.lt_of_lt_of_le hi h.1)]; exact h.2 i hi hg hr⟩
theorem xor8 (a b : Int) : 0 ≤ Go.bits .xor .u8 a b ∧ Go.bits .xor .u8 a b < 256 := by
  show 0 ≤ IntKind.u8.wrap ((BitVec.ofInt 8 a ^^^ BitVec.ofInt 8 b).toNat : Int) ∧ IntKind.u8.wrap ((BitVec.ofInt 8 a ^^^ BitVec.ofInt 8 b).toNat : Int) < 256
  rw [IntKind.wrap_u8]; omega
theorem keep_cell_new {w W : World} {g b : Nat} (h : KeepBut w W g none) (hb : w.heap.size ≤ b) (n : Nat) (v : Value) : KeepBut w (W.setCell ⟨b, n, none⟩ v) g none :=
  ⟨by rw [World.size_setCell]; exact h.1, fun i hi hg hr => by rw [Below.heap_setCell _ _ _ _ (by show i ≠ b; omega)]; exact h.2 i hi hg hr⟩
structure RowAt (W : World) (b : Nat) (l : List Int) : Prop where
  cell : ∀ j, j < l.length → W.cell? ⟨b, j, none⟩ = some (.int .u8 (l.getD j 0))
  free : ∀ j, j < l.length → W.frozen? ⟨b, j, none⟩ = false
theorem RowAt.keep {W W1 : World} {b g : Nat} {l : List Int} (h : RowAt W b l) (hlt : b < W.heap.size) (hk : KeepBut W W1 g none) (hne : b ≠ g) : RowAt W1 b l where
  cell := fun j hj => by rw [← h.cell j hj]; exact World.cell?_of_block (a := ⟨b, j, none⟩) (hk.2 b hlt hne (by simp))
  free := fun j hj => by rw [← h.free j hj]; exact World.frozen?_of_block (a := ⟨b, j, none⟩) (hk.2 b hlt hne (by simp))
theorem RowAt.set {W : World} {b : Nat} {l : List Int} (h : RowAt W b l) (i : Nat) (hi : i < l.length) (v : Int) : RowAt (W.setCell ⟨b, i, none⟩ (.int .u8 v)) b (l.set i v) where
  cell := by
    intro j hj
    rw [List.length_set] at hj
    by_cases e : j = i
    · subst e
      rw [World.cell?_setCell_same _ _ _ (h.cell j hj)]
      congr 2
      simp [List.getD, List.getElem?_set, hi]
    · rw [World.cell?_setCell_other _ _ _ _ (addr_ne (fun x => e x.symm)), h.cell j hj]
      congr 2
      simp [List.getD, List.getElem?_set, Ne.symm e]
  free := by
    intro j hj
    rw [List.length_set] at hj
    rw [World.frozen?_setCell]; exact h.free j hj
theorem RowAt.text {W : World} {b : Nat} {l : List Int} (h : RowAt W b l) (hb : ∀ x ∈ l, 0 ≤ x ∧ x < 256) (cap : Nat) :
    (convert 22 9 (.slice (some ⟨b, 0, none⟩) l.length cap)).run Tryd.prog W = .ok (.string (strOfNums l)) W := by
  have hl : (l.map fun x => UInt8.ofNat x.toNat).length = l.length := by simp
  have := run_convert_bytes_back (P := Tryd.prog) W 22 9 5 ⟨b, 0, none⟩ cap (l.map fun x => UInt8.ofNat x.toNat) Tryd.underlying22 Tryd.underlying5 Tryd.underlying9 (by
    intro j hj
    rw [hl] at hj
    have hc := h.cell j hj
    have e : (Addr.add ⟨b, 0, none⟩ j : Addr) = ⟨b, j, none⟩ := by simp [Addr.add]; try (intro e; exact e.symm)
    rw [e, hc]
    have hx := hb (l[j]) (List.getElem_mem hj)
    congr 2
    simp [List.getD, List.getElem?_eq_getElem hj, UInt8.toNat_ofNat']
    omega)
  rw [hl] at this
  rw [this]; rfl
theorem conv_one (W : World) (v : Int) (h0 : 0 ≤ v) (h1 : v < 256) : (convert 22 9 (.slice (some ⟨W.heap.size, 0, none⟩) 1 1)).run Tryd.prog (W.alloc (.cells #[.int .u8 v] 5)) = .ok (.string (strOfNums [v])) (W.alloc (.cells #[.int .u8 v] 5)) := by
  have := run_convert_bytes_back (P := Tryd.prog) (W.alloc (.cells #[.int .u8 v] 5)) 22 9 5 ⟨W.heap.size, 0, none⟩ 1 [UInt8.ofNat v.toNat] Tryd.underlying22 Tryd.underlying5 Tryd.underlying9 (by
    intro j hj
    obtain rfl : j = 0 := by simpa using hj
    rw [show (Addr.add ⟨W.heap.size, 0, none⟩ 0 : Addr) = ⟨W.heap.size, 0, none⟩ by simp [Addr.add], World.cell?_alloc_at _ _ _ _ (by simp)]
    simp [UInt8.toNat_ofNat']
    omega)
  exact this
def spec_l1bend.f (s0_0 : List Int) (s0_1 : Int) (s0_2 : Int) (a1 : ByteArray) : Option (ByteArray × Int × Int) :=
  if a1.size ≤ 140737488351232 then
    (spec_l1Below.f s0_0 s0_1 s0_2 ((a1.size : Int) + 1)).bind fun p =>
      if 0 ≤ p.1 ∧ p.1 ≤ a1.size then
        (spec_l1Below.f s0_0 p.2.1 p.2.2 4).bind fun q =>
          if q.1 = 0 then (spec_l1Byte.f s0_0 q.2.1 q.2.2).bind fun x => some (a1.extract 0 p.1.toNat ++ strOfNums [IntKind.u8.wrap x.1] ++ a1.extract p.1.toNat a1.size, x.2.1, x.2.2)
          else if q.1 = 1 then some (a1.extract 0 p.1.toNat, q.2.1, q.2.2)
          else if q.1 = 2 ∧ p.1 < a1.size then some (a1.extract 0 p.1.toNat ++ a1.extract (p.1.toNat + 1) a1.size, q.2.1, q.2.2)
          else if p.1 < a1.size then (spec_l1Below.f s0_0 q.2.1 q.2.2 8).bind fun x => if 0 ≤ x.1 ∧ x.1 < 8 then some (strOfNums ((bytesOf a1).set p.1.toNat (Go.bits .xor .u8 ((bytesOf a1).getD p.1.toNat 0) (IntKind.u8.wrap (2 ^ x.1.toNat)))), x.2.1, x.2.2) else none
          else some (a1 ++ (⟨#[48]⟩ : ByteArray), q.2.1, q.2.2)
      else none
  else none
set_option maxHeartbeats 2000000 in
set_option maxRecDepth 100000 in
theorem spec_l1bend.calls (g : Nat) (s0_0 : List Int) (s0_1 : Int) (s0_2 : Int) (a1 : ByteArray) (r1 : ByteArray) (r2 : Int) (r3 : Int) (w0 w : World) (hI : IsS71 w0 w g s0_0 s0_1 s0_2) (hB : Below w0.heap.size w0 w) (h : spec_l1bend.f s0_0 s0_1 s0_2 a1 = some (r1, r2, r3)) :
    Calls Tryd.prog 41 #[.pointer (some ⟨g, 0, none⟩), .string a1] w fun e w' => e = .returned (.string r1) ∧ IsS71 w0 w' g s0_0 r2 r3 ∧ Below w0.heap.size w0 w' ∧ KeepBut w w' g none := by
  unfold spec_l1bend.f at h
  split at h
  case isFalse => cases h
  rename_i hz
  obtain ⟨⟨p, i1, h1⟩, e1, h⟩ := Option.bind_eq_some_iff.mp h
  replace h : (if 0 ≤ p ∧ p ≤ a1.size then _ else _) = _ := h
  split at h
  case isFalse => cases h
  rename_i hp
  obtain ⟨⟨q, i2, h2⟩, e2, h⟩ := Option.bind_eq_some_iff.mp h
  obtain ⟨hp0, hp1⟩ := hp
  obtain ⟨n, rfl⟩ := Int.eq_ofNat_of_zero_le hp0
  clear hp0
  have H1 : Aside (spec_l1Below.f s0_0 s0_1 s0_2 ((a1.size : Int) + 1) = some ((n : Int), i1, h1)) := e1
  have H2 : Aside (spec_l1Below.f s0_0 i1 h1 4 = some (q, i2, h2)) := e2
  have HI : Aside (IsS71 w0 w g s0_0 s0_1 s0_2) := hI
  have HB : Aside (Below w0.heap.size w0 w) := hB
  have hn : n ≤ a1.size := by omega
  clear e1 e2 hI hB hp1
  replace h : (if q = 0 then _ else _) = _ := h
  by_cases c0 : q = 0
  · rw [if_pos c0] at h
    obtain ⟨⟨x, i3, h3⟩, e3, h⟩ := Option.bind_eq_some_iff.mp h
    have H3 : Aside (spec_l1Byte.f s0_0 i2 h2 = some (x, i3, h3)) := e3
    clear e3
    simp only [Option.some.injEq, Prod.mk.injEq] at h
    obtain ⟨rfl, rfl, rfl⟩ := h
    subst c0
    go_enter Tryd.func41, Tryd.ntmps41
    go_wp2_with (first
      | (go_at_call 39; refine (spec_l1Below.calls g _ _ _ _ _ _ _ w0 _ HI.out HB.out H1.out).mono ?_; rintro e w1 ⟨rfl, hI1, hB1, hK1⟩; have HI1 : Aside (IsS71 w0 w1 g s0_0 i1 h1) := hI1; have HB1 : Aside (Below w0.heap.size w0 w1) := hB1; have HK1 : Aside (KeepBut w w1 g none) := hK1; clear hI1 hB1 hK1 HI HB)
      | (go_at_call 39; refine (spec_l1Below.calls g _ _ _ _ _ _ _ w0 _ HI1.out HB1.out H2.out).mono ?_; rintro e w2 ⟨rfl, hI2, hB2, hK2⟩; have HI2 : Aside (IsS71 w0 w2 g s0_0 i2 h2) := hI2; have HB2 : Aside (Below w0.heap.size w0 w2) := hB2; have HK2 : Aside (KeepBut w w2 g none) := HK1.out.trans hK2 (.inl rfl); clear hI2 hB2 hK2 HI1 HB1 HK1))
    have hcv1 : ∀ W : World, (convert 22 9 (.slice (some ⟨W.heap.size, 0, none⟩) 1 1)).run Tryd.prog (W.alloc (.cells #[.int .u8 (IntKind.u8.wrap x)] 5)) = .ok (.string (strOfNums [IntKind.u8.wrap x])) (W.alloc (.cells #[.int .u8 (IntKind.u8.wrap x)] 5)) := fun W => conv_one W _ (by rw [IntKind.wrap_u8]; omega) (by rw [IntKind.wrap_u8]; omega)
    have hs0 : (strOfNums [IntKind.u8.wrap x]).size = 1 := strOfNums_size _
    have hs1 : (9223372036854775807 < n + 1) = False := eq_false (by omega)
    have hs2 : (9223372036854775807 < n + 1 + (a1.size - n)) = False := eq_false (by omega)
    go_region_with (go_at_call 59; refine (spec_l1Byte.calls g _ _ _ _ _ _ w0 _ ?hi ?hb H3.out).mono ?_; (case hi => (repeat (with_reducible first | exact HI2.out | apply IsS71.alloc | apply IsS71.drew))); (case hb => (repeat (with_reducible first | exact HB2.out | apply below_alloc | apply below_drew1))); rintro e w3 ⟨rfl, hI3, hB3, hK3⟩; have HI3 : Aside (IsS71 w0 w3 g s0_0 i3 h3) := hI3; have HB3 : Aside (Below w0.heap.size w0 w3) := hB3; have HK3 : Aside (KeepBut w w3 g none) := KeepBut.trans (keep_bytes HK2.out (by repeat (with_reducible first | exact Below.refl _ _ | apply below_alloc | apply below_drew1))) hK3 (.inl rfl); clear hI3 hB3 hK3)
    go_wp2
    go_ret
    exact ⟨rfl, by repeat (with_reducible first | exact HI3.out | apply IsS71.alloc | apply IsS71.drewN | apply IsS71.drew), by repeat (with_reducible first | exact HB3.out | apply below_alloc | apply pw_below_drewN | apply below_drew1), by repeat (with_reducible first | exact HK3.out | apply keep_alloc | apply keep_drewN | apply keep_drew)⟩
  · rw [if_neg c0] at h
    have q0 : (q == 0) = false := beq_eq_false_iff_ne.mpr c0
    have CALLS : True := trivial
    by_cases c1 : q = 1
    · rw [if_pos c1] at h
      simp only [Option.some.injEq, Prod.mk.injEq] at h
      obtain ⟨rfl, rfl, rfl⟩ := h
      subst c1
      clear q0 c0
      go_enter Tryd.func41, Tryd.ntmps41
      go_wp2_with (first
      | (go_at_call 39; refine (spec_l1Below.calls g _ _ _ _ _ _ _ w0 _ HI.out HB.out H1.out).mono ?_; rintro e w1 ⟨rfl, hI1, hB1, hK1⟩; have HI1 : Aside (IsS71 w0 w1 g s0_0 i1 h1) := hI1; have HB1 : Aside (Below w0.heap.size w0 w1) := hB1; have HK1 : Aside (KeepBut w w1 g none) := hK1; clear hI1 hB1 hK1 HI HB)
      | (go_at_call 39; refine (spec_l1Below.calls g _ _ _ _ _ _ _ w0 _ HI1.out HB1.out H2.out).mono ?_; rintro e w2 ⟨rfl, hI2, hB2, hK2⟩; have HI2 : Aside (IsS71 w0 w2 g s0_0 i2 h2) := hI2; have HB2 : Aside (Below w0.heap.size w0 w2) := hB2; have HK2 : Aside (KeepBut w w2 g none) := HK1.out.trans hK2 (.inl rfl); clear hI2 hB2 hK2 HI1 HB1 HK1))
      go_wp2
      go_ret
      exact ⟨rfl, by repeat (with_reducible first | exact HI2.out | apply IsS71.alloc | apply IsS71.drewN | apply IsS71.drew), by repeat (with_reducible first | exact HB2.out | apply below_alloc | apply pw_below_drewN | apply below_drew1), by repeat (with_reducible first | exact HK2.out | apply keep_alloc | apply keep_drewN | apply keep_drew)⟩
    · rw [if_neg c1] at h
      have q1 : (q == 1) = false := beq_eq_false_iff_ne.mpr c1
      by_cases c2 : q = 2 ∧ (n : Int) < (a1.size : Int)
      · rw [if_pos c2] at h
        simp only [Option.some.injEq, Prod.mk.injEq] at h
        obtain ⟨rfl, rfl, rfl⟩ := h
        obtain ⟨rfl, c3⟩ := c2
        clear q0 c0 q1 c1
        have hs1 : (9223372036854775807 < n + (a1.size - (n + 1))) = False := eq_false (by omega)
        go_enter Tryd.func41, Tryd.ntmps41
        go_wp2_with (first
        | (go_at_call 39; refine (spec_l1Below.calls g _ _ _ _ _ _ _ w0 _ HI.out HB.out H1.out).mono ?_; rintro e w1 ⟨rfl, hI1, hB1, hK1⟩; have HI1 : Aside (IsS71 w0 w1 g s0_0 i1 h1) := hI1; have HB1 : Aside (Below w0.heap.size w0 w1) := hB1; have HK1 : Aside (KeepBut w w1 g none) := hK1; clear hI1 hB1 hK1 HI HB)
        | (go_at_call 39; refine (spec_l1Below.calls g _ _ _ _ _ _ _ w0 _ HI1.out HB1.out H2.out).mono ?_; rintro e w2 ⟨rfl, hI2, hB2, hK2⟩; have HI2 : Aside (IsS71 w0 w2 g s0_0 i2 h2) := hI2; have HB2 : Aside (Below w0.heap.size w0 w2) := hB2; have HK2 : Aside (KeepBut w w2 g none) := HK1.out.trans hK2 (.inl rfl); clear hI2 hB2 hK2 HI1 HB1 HK1))
        go_region
        go_wp2
        go_ret
        exact ⟨rfl, by repeat (with_reducible first | exact HI2.out | apply IsS71.alloc | apply IsS71.drewN | apply IsS71.drew), by repeat (with_reducible first | exact HB2.out | apply below_alloc | apply pw_below_drewN | apply below_drew1), by repeat (with_reducible first | exact HK2.out | apply keep_alloc | apply keep_drewN | apply keep_drew)⟩
      · rw [if_neg c2] at h
        by_cases c3 : (n : Int) < (a1.size : Int)
        · have q2 : (q == 2) = false := beq_eq_false_iff_ne.mpr (fun e => c2 ⟨e, c3⟩)
          rw [if_pos c3] at h
          obtain ⟨⟨x, i3, h3⟩, e3, h⟩ := Option.bind_eq_some_iff.mp h
          have H3 : Aside (spec_l1Below.f s0_0 i2 h2 8 = some (x, i3, h3)) := e3
          clear e3
          replace h : (if 0 ≤ x ∧ x < 8 then _ else _) = _ := h
          split at h
          case isFalse => cases h
          rename_i hx8
          simp only [Option.some.injEq, Prod.mk.injEq] at h
          obtain ⟨rfl, rfl, rfl⟩ := h
          obtain ⟨x0, x8⟩ := hx8
          clear c0 c1 c2
          have hcvA : ∀ W, (convert 9 22 (.string a1)).run Tryd.prog W = .ok (.slice (some ⟨W.heap.size, 0, none⟩) a1.size (grownCap W a1.size 0 5)) (Lib.bytesWorld W 5 a1) := fun W => Lib.run_convert_string_bytes (P := Tryd.prog) W 9 22 5 a1 Tryd.underlying9 Tryd.underlying22 Tryd.underlying5
          go_enter Tryd.func41, Tryd.ntmps41
          go_wp2_with (first
          | (go_at_call 39; refine (spec_l1Below.calls g _ _ _ _ _ _ _ w0 _ HI.out HB.out H1.out).mono ?_; rintro e w1 ⟨rfl, hI1, hB1, hK1⟩; have HI1 : Aside (IsS71 w0 w1 g s0_0 i1 h1) := hI1; have HB1 : Aside (Below w0.heap.size w0 w1) := hB1; have HK1 : Aside (KeepBut w w1 g none) := hK1; clear hI1 hB1 hK1 HI HB)
          | (go_at_call 39; refine (spec_l1Below.calls g _ _ _ _ _ _ _ w0 _ HI1.out HB1.out H2.out).mono ?_; rintro e w2 ⟨rfl, hI2, hB2, hK2⟩; have HI2 : Aside (IsS71 w0 w2 g s0_0 i2 h2) := hI2; have HB2 : Aside (Below w0.heap.size w0 w2) := hB2; have HK2 : Aside (KeepBut w w2 g none) := HK1.out.trans hK2 (.inl rfl); clear hI2 hB2 hK2 HI1 HB1 HK1))
          have HR0 : Aside (RowAt (Lib.bytesWorld w2 5 a1) w2.heap.size (bytesOf a1)) := ⟨(BytesAt.start w2 5 a1).cell, (BytesAt.start w2 5 a1).free⟩
          have HI3 : Aside (IsS71 w0 (Lib.bytesWorld w2 5 a1) g s0_0 i2 h2) := HI2.out.below (Lib.bytesWorld_below _ _ _)
          have HB3 : Aside (Below w0.heap.size w0 (Lib.bytesWorld w2 5 a1)) := HB2.out.trans ((Lib.bytesWorld_below _ _ _).mono HB2.out.size)
          have HK3 : Aside (KeepBut w (Lib.bytesWorld w2 5 a1) g none) := keep_bytes HK2.out (Lib.bytesWorld_below _ _ _)
          have HZ3 : Aside (w2.heap.size < (Lib.bytesWorld w2 5 a1).heap.size) := by show _ < _; rw [Lib.bytesWorld_size]; omega
          have HLE : Aside (w0.heap.size ≤ w2.heap.size) := HB2.out.size
          have HLW : Aside (w.heap.size ≤ w2.heap.size) := HK2.out.1
          have HNE : Aside (w2.heap.size ≠ g) := Nat.ne_of_gt HI2.out.lt
          have HLN : Aside (n < (bytesOf a1).length) := by show _ < _; rw [bytesOf_length]; omega
          have hcell := HR0.out.cell n HLN.out
          have hfree := HR0.out.free n HLN.out
          obtain ⟨W3, hW3⟩ : ∃ W3, Lib.bytesWorld w2 5 a1 = W3 := ⟨_, rfl⟩
          rw [hW3] at HR0 HI3 HB3 HK3 HZ3 hcell hfree ⊢
          clear hW3 hcvA HI2 HB2 HK2
          have HSZ : Aside ((bytesOf a1).length = a1.size) := bytesOf_length a1
          obtain ⟨d, hd⟩ : ∃ d, (bytesOf a1).getD n 0 = d := ⟨_, rfl⟩
          rw [hd] at hcell
          have HD : Aside ((bytesOf a1).getD n 0 = d) := hd
          clear hd
          go_region_with (go_at_call 39; refine (spec_l1Below.calls g _ _ _ _ _ _ _ w0 _ ?hi ?hb H3.out).mono ?_; (case hi => (repeat (with_reducible first | exact HI3.out | apply IsS71.alloc | apply IsS71.drew))); (case hb => (repeat (with_reducible first | exact HB3.out | apply below_alloc | apply below_drew1))); rintro e w4 ⟨rfl, hI4, hB4, hK4⟩; have HI4 : Aside (IsS71 w0 w4 g s0_0 i3 h3) := hI4; have HB4 : Aside (Below w0.heap.size w0 w4) := hB4; have HK4 : Aside (KeepBut w w4 g none) := KeepBut.trans HK3.out hK4 (.inl rfl); have HR4 : Aside (RowAt w4 w2.heap.size (bytesOf a1)) := HR0.out.keep HZ3.out hK4 HNE.out; have hc4 := HR4.out.cell n HLN.out; rw [HD.out] at hc4; have hf4 := HR4.out.free n HLN.out; clear hI4 hB4 hK4)
          all_goals (
            have hv := xor8 d (IntKind.u8.wrap (2 ^ x.toNat))
            have hR5 := HR4.out.set n HLN.out (Go.bits .xor .u8 d (IntKind.u8.wrap (2 ^ x.toNat)))
            have hcv := hR5.text (by
              intro y hy
              rcases List.mem_or_eq_of_mem_set hy with h | h
              · exact bytesOf_bd a1 y h
              · rw [h]; exact hv) (grownCap w2 a1.size 0 5)
            rw [List.length_set, HSZ.out] at hcv
            clear hR5 hv
            go_wp2
            go_ret
            exact ⟨by rw [show ((n : Int)).toNat = n from rfl, HD.out, IntKind.wrap_u8]; rfl, HI4.out.far HNE.out.symm _, HB4.out.setCell HLE.out _, keep_cell_new HK4.out HLW.out _ _⟩)
        · rw [if_neg c3] at h
          simp only [Option.some.injEq, Prod.mk.injEq] at h
          obtain ⟨rfl, rfl, rfl⟩ := h
          obtain rfl : n = a1.size := by omega
          clear c0 c1 c2
          have hs1 : (9223372036854775807 < a1.size + 1) = False := eq_false (by omega)
          by_cases q2 : q = 2
          · subst q2
            clear q0 q1
            go_enter Tryd.func41, Tryd.ntmps41
            go_wp2_with (first
            | (go_at_call 39; refine (spec_l1Below.calls g _ _ _ _ _ _ _ w0 _ HI.out HB.out H1.out).mono ?_; rintro e w1 ⟨rfl, hI1, hB1, hK1⟩; have HI1 : Aside (IsS71 w0 w1 g s0_0 i1 h1) := hI1; have HB1 : Aside (Below w0.heap.size w0 w1) := hB1; have HK1 : Aside (KeepBut w w1 g none) := hK1; clear hI1 hB1 hK1 HI HB)
            | (go_at_call 39; refine (spec_l1Below.calls g _ _ _ _ _ _ _ w0 _ HI1.out HB1.out H2.out).mono ?_; rintro e w2 ⟨rfl, hI2, hB2, hK2⟩; have HI2 : Aside (IsS71 w0 w2 g s0_0 i2 h2) := hI2; have HB2 : Aside (Below w0.heap.size w0 w2) := hB2; have HK2 : Aside (KeepBut w w2 g none) := HK1.out.trans hK2 (.inl rfl); clear hI2 hB2 hK2 HI1 HB1 HK1))
            go_wp2
            go_ret
            exact ⟨rfl, by repeat (with_reducible first | exact HI2.out | apply IsS71.alloc | apply IsS71.drewN | apply IsS71.drew), by repeat (with_reducible first | exact HB2.out | apply below_alloc | apply pw_below_drewN | apply below_drew1), by repeat (with_reducible first | exact HK2.out | apply keep_alloc | apply keep_drewN | apply keep_drew)⟩
          · have q3 : (q == 2) = false := beq_eq_false_iff_ne.mpr q2
            clear q2
            go_enter Tryd.func41, Tryd.ntmps41
            go_wp2_with (first
            | (go_at_call 39; refine (spec_l1Below.calls g _ _ _ _ _ _ _ w0 _ HI.out HB.out H1.out).mono ?_; rintro e w1 ⟨rfl, hI1, hB1, hK1⟩; have HI1 : Aside (IsS71 w0 w1 g s0_0 i1 h1) := hI1; have HB1 : Aside (Below w0.heap.size w0 w1) := hB1; have HK1 : Aside (KeepBut w w1 g none) := hK1; clear hI1 hB1 hK1 HI HB)
            | (go_at_call 39; refine (spec_l1Below.calls g _ _ _ _ _ _ _ w0 _ HI1.out HB1.out H2.out).mono ?_; rintro e w2 ⟨rfl, hI2, hB2, hK2⟩; have HI2 : Aside (IsS71 w0 w2 g s0_0 i2 h2) := hI2; have HB2 : Aside (Below w0.heap.size w0 w2) := hB2; have HK2 : Aside (KeepBut w w2 g none) := HK1.out.trans hK2 (.inl rfl); clear hI2 hB2 hK2 HI1 HB1 HK1))
            go_wp2
            go_ret
            exact ⟨rfl, by repeat (with_reducible first | exact HI2.out | apply IsS71.alloc | apply IsS71.drewN | apply IsS71.drew), by repeat (with_reducible first | exact HB2.out | apply below_alloc | apply pw_below_drewN | apply below_drew1), by repeat (with_reducible first | exact HK2.out | apply keep_alloc | apply keep_drewN | apply keep_drew)⟩


/-! ### spec_l1bit: function 76 -/
def spec_l1bit.f (a0 : ByteArray) (a1 : Int) : Option (Int) := if (wrap64 (Int.tdiv a1 8)) ≥ (a0.size : Int) then (some 0) else (if 0 ≤ (wrap64 (Int.tdiv a1 8)) then (if (wrap64 (Int.tdiv a1 8)) < (a0.size : Int) then (if 0 ≤ (wrap64 (7 - (Int.tmod a1 8))) then (some (Go.bits .and .i64 (shr .i64 (wrap64 (bt a0 (wrap64 (Int.tdiv a1 8)))) (wrap64 (7 - (Int.tmod a1 8)))) 1)) else (none)) else (none)) else (none))
set_option maxHeartbeats 8000000 in
set_option maxRecDepth 100000 in
theorem spec_l1bit.calls (a0 : ByteArray) (a1 : Int) (r : Int) (w : World) (h : spec_l1bit.f a0 a1 = some r) :
  Calls Tryd.prog 76 #[.string a0, .int .i64 a1] w fun e w' => e = .returned (.int .i64 r) ∧ Drawn0 w w' := by
 have H : (if (wrap64 (Int.tdiv a1 8)) ≥ (a0.size : Int) then (some 0) else (if 0 ≤ (wrap64 (Int.tdiv a1 8)) then (if (wrap64 (Int.tdiv a1 8)) < (a0.size : Int) then (if 0 ≤ (wrap64 (7 - (Int.tmod a1 8))) then (some (Go.bits .and .i64 (shr .i64 (wrap64 (bt a0 (wrap64 (Int.tdiv a1 8)))) (wrap64 (7 - (Int.tmod a1 8)))) 1)) else (none)) else (none)) else (none))) = some r := h
 clear h
 by_cases c3 : (wrap64 (Int.tdiv a1 8)) ≥ (a0.size : Int)
 ·
  rw [if_pos c3] at H
  have c3b0 : decide ((a0.size : Int) ≤ (wrap64 (Int.tdiv a1 8))) = true := decide_eq_true c3
  clear c3
  obtain rfl := Option.some.inj H
  go_enter Tryd.func76, Tryd.ntmps76
  go_wp2
  go_ret
  exact ⟨by first | rfl | (simp; done) | (simp [*]; done), by repeat (first | exact Drawn0.refl _ | apply Drawn0.step)⟩
 ·
  rw [if_neg c3] at H
  have c3b0 : decide ((a0.size : Int) ≤ (wrap64 (Int.tdiv a1 8))) = false := decide_eq_false c3
  clear c3
  obtain ⟨ji4, hji4⟩ : ∃ j_ : Int, (wrap64 (Int.tdiv a1 8)) = j_ := ⟨_, rfl⟩
  replace H : (if 0 ≤ (ji4) then (if (ji4) < (a0.size : Int) then (if 0 ≤ (wrap64 (7 - (Int.tmod a1 8))) then (some (Go.bits .and .i64 (shr .i64 (wrap64 (bt a0 (ji4))) (wrap64 (7 - (Int.tmod a1 8)))) 1)) else (none)) else (none)) else (none)) = some r := by first | (rw [hji4] at H; exact H) | (simp only [hji4] at H ⊢; exact H)
  (try rw [hji4] at c3b0)
  have hji4w : (IntKind.i64.wrap (Int.tdiv a1 8)) = ji4 := (i64_w _).trans hji4
  have c5 : 0 ≤ (ji4) := Classical.byContradiction fun h_ => by rw [if_neg h_] at H; exact absurd H (by simp)
  rw [if_pos c5] at H
  have c5b0 : decide (0 ≤ (ji4)) = true := decide_eq_true c5
  clear c5
  have c6 : (ji4) < (a0.size : Int) := Classical.byContradiction fun h_ => by rw [if_neg h_] at H; exact absurd H (by simp)
  rw [if_pos c6] at H
  have c6b0 : decide ((ji4) < (a0.size : Int)) = true := decide_eq_true c6
  clear c6
  obtain ⟨ji8, hji8⟩ : ∃ j_ : Int, (wrap64 (7 - (Int.tmod a1 8))) = j_ := ⟨_, rfl⟩
  replace H : (if 0 ≤ (ji8) then (some (Go.bits .and .i64 (shr .i64 (wrap64 (bt a0 (ji4))) (ji8)) 1)) else (none)) = some r := by first | (rw [hji8] at H; exact H) | (simp only [hji8] at H ⊢; exact H)
  have hji8w : (IntKind.i64.wrap (7 - (Int.tmod a1 8))) = ji8 := (i64_w _).trans hji8
  have c9 : 0 ≤ (ji8) := Classical.byContradiction fun h_ => by rw [if_neg h_] at H; exact absurd H (by simp)
  rw [if_pos c9] at H
  have c9b0 := eq_true c9
  have c9b1 : decide (0 ≤ (ji8)) = true := decide_eq_true c9
  clear c9
  obtain ⟨ji10, hji10⟩ : ∃ j_ : Int, (shr .i64 (wrap64 (bt a0 (ji4))) (ji8)) = j_ := ⟨_, rfl⟩
  replace H : (some (Go.bits .and .i64 (ji10) 1)) = some r := by first | (rw [hji10] at H; exact H) | (simp only [hji10] at H ⊢; exact H)
  have hji10_ : ((wrap64 (bt a0 (ji4))) / 2 ^ min (ji8).toNat 64) = ji10 := hji10
  have hji10z : (ji8) ≤ 64 → ((wrap64 (bt a0 (ji4))) / 2 ^ (ji8).toNat) = ji10 := shr_small hji10
  obtain rfl := Option.some.inj H
  have p7 : 0 ≤ ((ji4) : Int) := of_decide_eq_true (by first | (with_reducible assumption) | assumption)
  have q7 : (ji4) < (a0.size : Int) := of_decide_eq_true (by first | (with_reducible assumption) | assumption)
  have hx7 := bt_at a0 (ji4)
  replace p7 := eq_true p7
  replace q7 := eq_true q7
  go_enter Tryd.func76, Tryd.ntmps76
  go_wp2
  go_ret
  exact ⟨by first | rfl | (simp; done) | (simp only [← hji4, ← hji8, ← hji10] <;> (first | rfl | simp)) | (simp [*]; done), by repeat (first | exact Drawn0.refl _ | apply Drawn0.step)⟩

/-! ### spec_Base32: function 62 -/
mutual
def spec_Base32.l0 : Nat → ByteArray → List Int → Int → Option (ByteArray)
 | 0, _, _, _ => none
 | k + 1, x0, x3, x4 => if x4 < (wrap64 (8 * (x0.size : Int))) then (spec_Base32.l1 k x0 x3 x4 0 0) else (some (strOfNums x3))
def spec_Base32.l1 : Nat → ByteArray → List Int → Int → Int → Int → Option (ByteArray)
 | 0, _, _, _, _, _ => none
 | k + 1, x0, x3, x4, x5, x6 => if x6 < 5 then ((spec_l1bit.f x0 (wrap64 (x4 + x6))).bind fun t152 => (spec_Base32.l1 k x0 x3 x4 (wrap64 ((wrap64 (2 * x5)) + t152)) (wrap64 (x6 + 1)))) else (if 0 ≤ x5 then (if x5 < 32 then (if x3.length < 140737488355328 then (spec_Base32.l0 k x0 (x3 ++ [bt (⟨#[65, 66, 67, 68, 69, 70, 71, 72, 73, 74, 75, 76, 77, 78, 79, 80, 81, 82, 83, 84, 85, 86, 87, 88, 89, 90, 50, 51, 52, 53, 54, 55]⟩ : ByteArray) x5]) (wrap64 (x4 + 5))) else (none)) else (none)) else (none))
end
def spec_Base32.f (k : Nat) (a0 : ByteArray) : Option (ByteArray) := if (a0.size : Int) > 4000 then (some (⟨#[]⟩ : ByteArray)) else (spec_Base32.l0 k a0 ([] : List Int) 0)
theorem spec_Base32.mono_l : ∀ k, (∀ y0 y1 y2, LeO (spec_Base32.l0 k y0 y1 y2) (spec_Base32.l0 (k + 1) y0 y1 y2)) ∧ (∀ y0 y1 y2 y3 y4, LeO (spec_Base32.l1 k y0 y1 y2 y3 y4) (spec_Base32.l1 (k + 1) y0 y1 y2 y3 y4))
 | 0 => ⟨fun _ _ _ r h => by simp [spec_Base32.l0] at h, fun _ _ _ _ _ r h => by simp [spec_Base32.l1] at h⟩
 | k + 1 => by
  obtain ⟨ih0, ih1⟩ := spec_Base32.mono_l k
  refine ⟨?_, ?_⟩
  ·
   intro y0 y1 y2
   unfold spec_Base32.l0
   repeat' first
   | (with_reducible exact ih0 _ _ _)
   | (with_reducible exact ih1 _ _ _ _ _)
   | (with_reducible exact LeO.refl _)
   | (with_reducible exact LeO.none _)
   | (with_reducible refine LeO.ite ?_ ?_)
   | (with_reducible refine LeO.bind ?_ (fun _ => ?_))
   | exact ih0 _ _ _
   | exact ih1 _ _ _ _ _
   | exact LeO.none _
   | refine LeO.ite ?_ ?_
   | refine LeO.bind ?_ (fun _ => ?_)
  ·
   intro y0 y1 y2 y3 y4
   unfold spec_Base32.l1
   repeat' first
   | (with_reducible exact ih0 _ _ _)
   | (with_reducible exact ih1 _ _ _ _ _)
   | (with_reducible exact LeO.refl _)
   | (with_reducible exact LeO.none _)
   | (with_reducible refine LeO.ite ?_ ?_)
   | (with_reducible refine LeO.bind ?_ (fun _ => ?_))
   | exact ih0 _ _ _
   | exact ih1 _ _ _ _ _
   | exact LeO.none _
   | refine LeO.ite ?_ ?_
   | refine LeO.bind ?_ (fun _ => ?_)
theorem spec_Base32.mono : ∀ a0 k, LeO (spec_Base32.f k a0) (spec_Base32.f (k + 1) a0) := by
 intro a0 k
 obtain ⟨ih0, ih1⟩ := spec_Base32.mono_l k
 unfold spec_Base32.f
 repeat' first
   | (with_reducible exact ih0 _ _ _)
   | (with_reducible exact ih1 _ _ _ _ _)
   | (with_reducible exact LeO.refl _)
   | (with_reducible exact LeO.none _)
   | (with_reducible refine LeO.ite ?_ ?_)
   | (with_reducible refine LeO.bind ?_ (fun _ => ?_))
   | exact ih0 _ _ _
   | exact ih1 _ _ _ _ _
   | exact LeO.none _
   | refine LeO.ite ?_ ?_
   | refine LeO.bind ?_ (fun _ => ?_)
set_option maxHeartbeats 8000000 in
set_option maxRecDepth 100000 in
theorem spec_Base32.calls (k : Nat) (a0 : ByteArray) (r : ByteArray) (w : World) (h : spec_Base32.f k a0 = some r) :
  Calls Tryd.prog 62 #[.string a0] w fun e w' => e = .returned (.string r) ∧ Below w.heap.size w w' := by
 have HB := Aside0.mk (Below.refl w.heap.size w)
 have H : (if (a0.size : Int) > 4000 then (some (⟨#[]⟩ : ByteArray)) else (spec_Base32.l0 k a0 ([] : List Int) 0)) = some r := h
 clear h
 by_cases c2 : (a0.size : Int) > 4000
 ·
  rw [if_pos c2] at H
  have c2b0 : decide (4000 < (a0.size : Int)) = true := decide_eq_true c2
  have c2b1 : decide (4000 < a0.size) = true := decide_eq_true (by omega)
  clear c2
  obtain rfl := Option.some.inj H
  go_enter Tryd.func62, Tryd.ntmps62
  go_wp2
  go_ret
  exact ⟨by first | rfl | (simp [errW_none, errW_some] <;> rfl) | (simp [*, errW_none, errW_some] <;> rfl), by repeat (first | (with_reducible first | exact HB.out | apply below_alloc | apply pw_below_drewN | apply below_drew1) | exact HB.out)⟩
 ·
  rw [if_neg c2] at H
  have c2b0 : decide (4000 < (a0.size : Int)) = false := decide_eq_false c2
  have c2b1 : decide (4000 < a0.size) = false := decide_eq_false (by omega)
  clear c2
  have H' := Aside0.mk H
  clear H
  go_enter Tryd.func62, Tryd.ntmps62
  go_wp2
  go_loopg [3, 4] k (fun kq v3 v4 w' => ∃ (x3_1 : List Int) (x4_1 : Int), v4 = .int .i64 x4_1 ∧ Aside0 (spec_Base32.l0 kq a0 x3_1 x4_1 = some r) ∧ Aside0 (kq ≤ k) ∧ Aside0 (Kd.R (Kd.int .u8) 5 w' w.heap.size (fun _ => True) v3 x3_1) ∧ Aside0 (Below w.heap.size w w'))
  case atStart => exact ⟨(([] : List Int)), (0), (by first | rfl | (simp; done) | (simp [*]; done)), H', ⟨Nat.le_refl _⟩, ⟨by first | exact Kd.R_nil _ _ _ _ _ | exact Kd.N_nil _ _ _ _ _ | exact Kd.V_nil _ _ _ _ _ | exact Kd.Q_nil _ _ _ _ _ | exact Kd.S_nil _ _ _ _ _⟩, ⟨by repeat (first | (with_reducible first | exact HB.out | apply below_alloc | apply pw_below_drewN | apply below_drew1) | exact HB.out)⟩⟩
  case round =>
   clear H'
   try clear c2
   try clear c2b0
   try clear c2b1
   try clear p2
   obtain ⟨x3_1, x4_1, rfl, HA, HK1, HO_3, HB⟩ := hrel
   cases gk with
   | zero => exact absurd HA.out (by simp [spec_Base32.l0])
   | succ k1 =>
    have H := HA.out
    clear HA
    simp only [spec_Base32.l0] at H
    by_cases c3 : x4_1 < (wrap64 (8 * (a0.size : Int)))
    ·
     rw [if_pos c3] at H
     have c3b0 : decide (x4_1 < (wrap64 (8 * (a0.size : Int)))) = true := decide_eq_true c3
     clear c3
     have H' := Aside0.mk H
     clear H
     go_wp2
     go_loopg [5, 6] k1 (fun kq v5 v6 w' => ∃ (x5_2 : Int) (x6_2 : Int), v5 = .int .i64 x5_2 ∧ v6 = .int .i64 x6_2 ∧ Aside0 (spec_Base32.l1 kq a0 x3_1 x4_1 x5_2 x6_2 = some r) ∧ Aside0 (kq ≤ k1) ∧ Aside0 (Kd.R (Kd.int .u8) 5 w' w.heap.size (fun _ => True) u3 x3_1) ∧ Aside0 (Below w.heap.size w w'))
     case atStart => exact ⟨(0), (0), (by first | rfl | (simp; done) | (simp [*]; done)), (by first | rfl | (simp; done) | (simp [*]; done)), H', ⟨Nat.le_refl _⟩, ⟨by (with_reducible repeat (first | apply Kd.R_alloc | apply Kd.R_drewN | apply Kd.R_drew)); exact HO_3.out⟩, ⟨by repeat (first | (with_reducible first | exact HB.out | apply below_alloc | apply pw_below_drewN | apply below_drew1) | exact HB.out)⟩⟩
     case round =>
      clear H'
      try clear c2
      try clear c2b0
      try clear c2b1
      try clear p2
      try clear c3
      try clear c3b0
      try clear p2
      obtain ⟨x5_2, x6_2, rfl, rfl, HA, HK2, HO_3, HB⟩ := hrel
      cases gk with
      | zero => exact absurd HA.out (by simp [spec_Base32.l1])
      | succ k2 =>
       have H := HA.out
       clear HA
       simp only [spec_Base32.l1] at H
       by_cases c4 : x6_2 < 5
       ·
        rw [if_pos c4] at H
        have c4b0 : decide (x6_2 < 5) = true := decide_eq_true c4
        clear c4
        replace H := Option.bind_eq_some_iff.mp H
        obtain ⟨t152, A50, H⟩ := H
        replace H : (spec_Base32.l1 k2 a0 x3_1 x4_1 (wrap64 ((wrap64 (2 * x5_2)) + t152)) (wrap64 (x6_2 + 1))) = some r := H
        have A5 := Aside0.mk A50
        clear A50
        have H' := Aside0.mk H
        clear H
        go_wp2_with (first | ((with_reducible refine gate_callee (f := 76) rfl ?_); refine goesL_ (some 27) rfl rfl Tryd.func76 (by kernel_rfl) rfl #[.string a0, .int .i64 (wrap64 (x4_1 + x6_2))] rfl (by (try simp only [List.map_toArray, List.map_cons, List.map_nil]); first | done | rfl | (simp only [List.length_drop, List.length_take]; rfl)) ?_; (with_reducible refine (spec_l1bit.calls a0 (wrap64 (x4_1 + x6_2)) t152 _ A5.out).mono ?_); rintro e w' ⟨rfl, ⟨nd, rfl⟩⟩; refine ⟨_, rfl, ?_⟩))
        go_roundg k2
        case measure => have := HK1.out; have := HK2.out; omega
        case rel => exact ⟨(wrap64 ((wrap64 (2 * x5_2)) + t152)), (wrap64 (x6_2 + 1)), (by first | rfl | (simp; done) | (simp [*]; done)), (by first | rfl | (simp; done) | (simp [*]; done)), H', ⟨by have := HK1.out; have := HK2.out; omega⟩, ⟨by (with_reducible repeat (first | apply Kd.R_alloc | apply Kd.R_drewN | apply Kd.R_drew)); exact HO_3.out⟩, ⟨by repeat (first | (with_reducible first | exact HB.out | apply below_alloc | apply pw_below_drewN | apply below_drew1) | exact HB.out)⟩⟩
       ·
        rw [if_neg c4] at H
        have c4b0 : decide (x6_2 < 5) = false := decide_eq_false c4
        clear c4
        have c6 : 0 ≤ x5_2 := Classical.byContradiction fun h_ => by rw [if_neg h_] at H; exact absurd H (by simp)
        rw [if_pos c6] at H
        have c6b0 : decide (0 ≤ x5_2) = true := decide_eq_true c6
        clear c6
        have c7 : x5_2 < 32 := Classical.byContradiction fun h_ => by rw [if_neg h_] at H; exact absurd H (by simp)
        rw [if_pos c7] at H
        have c7b0 : decide (x5_2 < 32) = true := decide_eq_true c7
        clear c7
        have c9 : x3_1.length < 140737488355328 := Classical.byContradiction fun h_ => by rw [if_neg h_] at H; exact absurd H (by simp)
        rw [if_pos c9] at H
        have LMc9 := Aside0.mk c9
        clear c9
        obtain ⟨y153, hy153⟩ : ∃ y_ : List Int, y_ = (x3_1 ++ [bt (⟨#[65, 66, 67, 68, 69, 70, 71, 72, 73, 74, 75, 76, 77, 78, 79, 80, 81, 82, 83, 84, 85, 86, 87, 88, 89, 90, 50, 51, 52, 53, 54, 55]⟩ : ByteArray) x5_2]) := ⟨_, rfl⟩
        replace H : (spec_Base32.l0 k2 a0 y153 (wrap64 (x4_1 + 5))) = some r := by first | (rw [hy153]; with_reducible exact H) | (have H2_ := (Option.bind_some _ _).symm.trans H; rw [hy153]; with_reducible exact H2_) | (have H2_ := (Option.bind_some _ _).symm.trans H; with_reducible exact H2_) | with_reducible exact H | (rw [hy153]; exact H) | exact H
        have Ny153 := Aside0.mk hy153
        clear hy153
        have H' := Aside0.mk H
        clear H
        have p8 : 0 ≤ (x5_2 : Int) := of_decide_eq_true (by first | (with_reducible assumption) | assumption)
        have q8 : x5_2 < (32 : Int) := of_decide_eq_true (by first | (with_reducible assumption) | assumption)
        have hx8 := bt_at (⟨#[65, 66, 67, 68, 69, 70, 71, 72, 73, 74, 75, 76, 77, 78, 79, 80, 81, 82, 83, 84, 85, 86, 87, 88, 89, 90, 50, 51, 52, 53, 54, 55]⟩ : ByteArray) x5_2
        replace p8 := eq_true p8
        replace q8 := eq_true q8
        go_wp2_with (first | ((with_reducible refine gate_builtin (b := .append) (xs := #[.tmp 29, .tmp 32]) rfl ?_); at_builtin; refine Kd.R_append (Kd.int .u8) (w0 := w) w.heap.size rfl (.tmp 29) (.tmp 32) 22 5 (.int .u8 0) 1 rfl Tryd.underlying22 info5 rfl (by decide) (by omega) u3 x3_1 (bt (⟨#[65, 66, 67, 68, 69, 70, 71, 72, 73, 74, 75, 76, 77, 78, 79, 80, 81, 82, 83, 84, 85, 86, 87, 88, 89, 90, 50, 51, 52, 53, 54, 55]⟩ : ByteArray) x5_2) [.int .u8 (bt (⟨#[65, 66, 67, 68, 69, 70, 71, 72, 73, 74, 75, 76, 77, 78, 79, 80, 81, 82, 83, 84, 85, 86, 87, 88, 89, 90, 50, 51, 52, 53, 54, 55]⟩ : ByteArray) x5_2)] (fun _ => True) (fun _ => False) rfl rfl ?aP (fun _ hk => hk.elim) ?aF ?aO ?aB ?aS ?aL ?_; (case aP => exact rfl); (case aB => exact (by repeat (first | (with_reducible first | exact HB.out | apply below_alloc | apply pw_below_drewN | apply below_drew1) | exact HB.out))); (case aF => exact (fun _ _ => trivial)); (case aO => exact (by (with_reducible repeat (first | apply Kd.R_alloc | apply Kd.R_drewN | apply Kd.R_drew)); exact HO_3.out)); (case aS => exact (below_size (by repeat (first | (with_reducible first | exact HB.out | apply below_alloc | apply pw_below_drewN | apply below_drew1) | exact HB.out)))); (case aL => have := LMc9.out; omega); intro v154 w10 ho hb hg hat; rw [← Ny153.out] at ho; have n0_ := Aside0.mk (hb); have n1_ := Aside0.mk (ho); clear HB; clear HO_3; have HB := n0_; have HO155 := n1_; clear n0_ n1_; clear ho hb hg hat))
        go_roundg k2
        case measure => have := HK1.out; have := HK2.out; omega
        case rel => exact ⟨(y153), (wrap64 (x4_1 + 5)), (by first | rfl | (simp; done) | (simp [*]; done)), H', ⟨by have := HK1.out; have := HK2.out; omega⟩, ⟨by (with_reducible repeat (first | apply Kd.R_alloc | apply Kd.R_drewN | apply Kd.R_drew)); exact HO155.out⟩, ⟨by repeat (first | (with_reducible first | exact HB.out | apply below_alloc | apply pw_below_drewN | apply below_drew1) | exact HB.out)⟩⟩
    ·
     rw [if_neg c3] at H
     have c3b0 : decide (x4_1 < (wrap64 (8 * (a0.size : Int)))) = false := decide_eq_false c3
     clear c3
     obtain rfl := Option.some.inj H
     have hcv11 := own_string (P := Tryd.prog) Tryd.underlying22 Tryd.underlying5 Tryd.underlying9 (Kd.own_of_R HO_3.out)
     go_wp2
     go_ret
     exact ⟨by first | rfl | (simp [errW_none, errW_some] <;> rfl) | (simp [*, errW_none, errW_some] <;> rfl), by repeat (first | (with_reducible first | exact HB.out | apply below_alloc | apply pw_below_drewN | apply below_drew1) | exact HB.out)⟩

/-! ### spec_DrawReadBase32: function 36 -/
def spec_DrawReadBase32.f (k : Nat) (l0 : List Int) : Option (ByteArray) := (spec_l1New.f k l0).bind fun bt156 => ((spec_DrawBase32.f k l0).bind fun t160 => ((spec_Base32.f k t160).bind fun t161 => ((spec_l1Below.f bt156.1 bt156.2.1 bt156.2.2 4).bind fun bt162 => (if bt162.1 = 0 then ((spec_l1bend.f bt156.1 bt162.2.1 bt162.2.2 t161).bind fun bt165 => (some bt165.1)) else (if bt162.1 = 1 then ((spec_l1Below.f bt156.1 bt162.2.1 bt162.2.2 12).bind fun bt168 => ((spec_l1of.f k bt156.1 bt168.2.1 bt168.2.2 bt168.1 (⟨#[65, 66, 89, 90, 50, 51, 54, 55]⟩ : ByteArray)).bind fun bt171 => (some bt171.1))) else (some t161))))))
theorem spec_DrawReadBase32.mono : ∀ a0 k, LeO (spec_DrawReadBase32.f k a0) (spec_DrawReadBase32.f (k + 1) a0) := by
 intro a0 k
 unfold spec_DrawReadBase32.f
 repeat' first
   | (with_reducible exact spec_Base32.mono _ _)
   | (with_reducible exact spec_DrawBase32.mono _ _)
   | (with_reducible exact spec_l1New.mono _ _)
   | (with_reducible exact spec_l1of.mono _ _ _ _ _ _)
   | (with_reducible exact LeO.refl _)
   | (with_reducible exact LeO.none _)
   | (with_reducible refine LeO.ite ?_ ?_)
   | (with_reducible refine LeO.bind ?_ (fun _ => ?_))
   | exact spec_Base32.mono _ _
   | exact spec_DrawBase32.mono _ _
   | exact spec_l1New.mono _ _
   | exact spec_l1of.mono _ _ _ _ _ _
   | exact LeO.none _
   | refine LeO.ite ?_ ?_
   | refine LeO.bind ?_ (fun _ => ?_)
set_option maxHeartbeats 8000000 in
set_option maxRecDepth 100000 in
theorem spec_DrawReadBase32.calls (k : Nat) (A0 : Option Addr) (c0 : Nat) (l0 : List Int) (r : ByteArray) (w : World) (hr0 : Kd.C (Kd.int .u8) w A0 l0.length l0) (hc0 : l0.length ≤ c0) (h : spec_DrawReadBase32.f k l0 = some r) :
  Calls Tryd.prog 36 #[.slice A0 l0.length c0] w fun e w' => e = .returned (.string r) ∧ Below w.heap.size w w' := by
 have HR0 := Aside0.mk hr0
 have HC0 := Aside0.mk hc0
 clear hr0 hc0
 have HB := Aside0.mk (Below.refl w.heap.size w)
 have H : ((spec_l1New.f k l0).bind fun bt156 => ((spec_DrawBase32.f k l0).bind fun t160 => ((spec_Base32.f k t160).bind fun t161 => ((spec_l1Below.f bt156.1 bt156.2.1 bt156.2.2 4).bind fun bt162 => (if bt162.1 = 0 then ((spec_l1bend.f bt156.1 bt162.2.1 bt162.2.2 t161).bind fun bt165 => (some bt165.1)) else (if bt162.1 = 1 then ((spec_l1Below.f bt156.1 bt162.2.1 bt162.2.2 12).bind fun bt168 => ((spec_l1of.f k bt156.1 bt168.2.1 bt168.2.2 bt168.1 (⟨#[65, 66, 89, 90, 50, 51, 54, 55]⟩ : ByteArray)).bind fun bt171 => (some bt171.1))) else (some t161))))))) = some r := h
 clear h
 replace H := Option.bind_eq_some_iff.mp H
 obtain ⟨⟨t156, t157, t158⟩, A20, H⟩ := H
 replace H : ((spec_DrawBase32.f k l0).bind fun t160 => ((spec_Base32.f k t160).bind fun t161 => ((spec_l1Below.f t156 t157 t158 4).bind fun bt162 => (if bt162.1 = 0 then ((spec_l1bend.f t156 bt162.2.1 bt162.2.2 t161).bind fun bt165 => (some bt165.1)) else (if bt162.1 = 1 then ((spec_l1Below.f t156 bt162.2.1 bt162.2.2 12).bind fun bt168 => ((spec_l1of.f k t156 bt168.2.1 bt168.2.2 bt168.1 (⟨#[65, 66, 89, 90, 50, 51, 54, 55]⟩ : ByteArray)).bind fun bt171 => (some bt171.1))) else (some t161)))))) = some r := H
 have A2 := Aside0.mk A20
 clear A20
 replace H := Option.bind_eq_some_iff.mp H
 obtain ⟨t160, A30, H⟩ := H
 replace H : ((spec_Base32.f k t160).bind fun t161 => ((spec_l1Below.f t156 t157 t158 4).bind fun bt162 => (if bt162.1 = 0 then ((spec_l1bend.f t156 bt162.2.1 bt162.2.2 t161).bind fun bt165 => (some bt165.1)) else (if bt162.1 = 1 then ((spec_l1Below.f t156 bt162.2.1 bt162.2.2 12).bind fun bt168 => ((spec_l1of.f k t156 bt168.2.1 bt168.2.2 bt168.1 (⟨#[65, 66, 89, 90, 50, 51, 54, 55]⟩ : ByteArray)).bind fun bt171 => (some bt171.1))) else (some t161))))) = some r := H
 have A3 := Aside0.mk A30
 clear A30
 replace H := Option.bind_eq_some_iff.mp H
 obtain ⟨t161, A40, H⟩ := H
 replace H : ((spec_l1Below.f t156 t157 t158 4).bind fun bt162 => (if bt162.1 = 0 then ((spec_l1bend.f t156 bt162.2.1 bt162.2.2 t161).bind fun bt165 => (some bt165.1)) else (if bt162.1 = 1 then ((spec_l1Below.f t156 bt162.2.1 bt162.2.2 12).bind fun bt168 => ((spec_l1of.f k t156 bt168.2.1 bt168.2.2 bt168.1 (⟨#[65, 66, 89, 90, 50, 51, 54, 55]⟩ : ByteArray)).bind fun bt171 => (some bt171.1))) else (some t161)))) = some r := H
 have A4 := Aside0.mk A40
 clear A40
 replace H := Option.bind_eq_some_iff.mp H
 obtain ⟨⟨t162, t163, t164⟩, A50, H⟩ := H
 replace H : (if t162 = 0 then ((spec_l1bend.f t156 t163 t164 t161).bind fun bt165 => (some bt165.1)) else (if t162 = 1 then ((spec_l1Below.f t156 t163 t164 12).bind fun bt168 => ((spec_l1of.f k t156 bt168.2.1 bt168.2.2 bt168.1 (⟨#[65, 66, 89, 90, 50, 51, 54, 55]⟩ : ByteArray)).bind fun bt171 => (some bt171.1))) else (some t161))) = some r := H
 have A5 := Aside0.mk A50
 clear A50
 by_cases c6 : t162 = 0
 ·
  rw [if_pos c6] at H
  have c6b0 : (t162 == 0) = true := beq_iff_eq.mpr c6
  have c6b1 : (t162 != 0) = false := bne_eq_false_iff_eq.mpr c6
  clear c6
  replace H := Option.bind_eq_some_iff.mp H
  obtain ⟨⟨t165, t166, t167⟩, A70, H⟩ := H
  replace H : (some t165) = some r := H
  have A7 := Aside0.mk A70
  clear A70
  obtain rfl := Option.some.inj H
  go_enter Tryd.func36, Tryd.ntmps36
  go_wp2_with (first | ((with_reducible refine gate_callee (f := 37) rfl ?_); refine goesL_ (some 6) rfl rfl Tryd.func37 (by kernel_rfl) rfl #[.slice A0 l0.length c0] rfl (by (try simp only [List.map_toArray, List.map_cons, List.map_nil]); first | done | rfl | (simp only [List.length_drop, List.length_take]; rfl)) ?_; (with_reducible refine (spec_l1New.calls k _ _ l0 t156 t157 t158 w _ ?side1 ?side2 ?side3 A2.out).mono ?_); (case side1 => repeat (first | (with_reducible first | exact HB.out | apply below_alloc | apply pw_below_drewN | apply below_drew1) | exact HB.out)); (case side2 => exact HR0.out); (case side3 => exact HC0.out); rintro e w8 ⟨g159, rfl, hi, hb, hb2⟩; refine ⟨_, rfl, ?_⟩; have n0_ := Aside0.mk (hb); have n1_ := Aside0.mk (hi); clear HB; have HB := n0_; have HI159 := n1_; clear n0_ n1_; (try clear hb); (try clear hb2); (try clear hk); (try clear hi)) | ((with_reducible refine gate_callee (f := 33) rfl ?_); refine goesL_ (some 8) rfl rfl Tryd.func33 (by kernel_rfl) rfl #[.slice A0 l0.length c0] rfl (by (try simp only [List.map_toArray, List.map_cons, List.map_nil]); first | done | rfl | (simp only [List.length_drop, List.length_take]; rfl)) ?_; (with_reducible refine (spec_DrawBase32.calls k _ _ l0 t160 _ ?side1 ?side2 A3.out).mono ?_); (case side1 => repeat (first | exact (Kd.C_below HR0.out HB.out) | (with_reducible refine Kd.C_alloc ?_ _) | (with_reducible refine Kd.C_drewN ?_ _) | (with_reducible refine Kd.C_drew ?_))); (case side2 => exact HC0.out); rintro e w9 ⟨rfl, hb⟩; refine ⟨_, rfl, ?_⟩; have n0_ := Aside0.mk (IsS71.below (by repeat (first | (with_reducible first | exact HI159.out | apply IsS71.alloc | apply IsS71.drewN | apply IsS71.drew | apply IsS71.set_1 | apply IsS71.set_2) | exact HI159.out)) hb); have n1_ := Aside0.mk (below_step (by repeat (first | (with_reducible first | exact HB.out | apply below_alloc | apply pw_below_drewN | apply below_drew1 | refine below_set ?_ (IsS71.ge HI159.out)) | exact HB.out)) hb); clear HI159; clear HB; have HI159 := n0_; have HB := n1_; clear n0_ n1_; (try clear hb); (try clear hb2); (try clear hk); (try clear hi)) | ((with_reducible refine gate_callee (f := 62) rfl ?_); refine goesL_ (some 9) rfl rfl Tryd.func62 (by kernel_rfl) rfl #[.string t160] rfl (by (try simp only [List.map_toArray, List.map_cons, List.map_nil]); first | done | rfl | (simp only [List.length_drop, List.length_take]; rfl)) ?_; (with_reducible refine (spec_Base32.calls k t160 t161 _ A4.out).mono ?_); rintro e w10 ⟨rfl, hb⟩; refine ⟨_, rfl, ?_⟩; have n0_ := Aside0.mk (IsS71.below (by repeat (first | (with_reducible first | exact HI159.out | apply IsS71.alloc | apply IsS71.drewN | apply IsS71.drew | apply IsS71.set_1 | apply IsS71.set_2) | exact HI159.out)) hb); have n1_ := Aside0.mk (below_step (by repeat (first | (with_reducible first | exact HB.out | apply below_alloc | apply pw_below_drewN | apply below_drew1 | refine below_set ?_ (IsS71.ge HI159.out)) | exact HB.out)) hb); clear HI159; clear HB; have HI159 := n0_; have HB := n1_; clear n0_ n1_; (try clear hb); (try clear hb2); (try clear hk); (try clear hi)) | ((with_reducible refine gate_callee (f := 39) rfl ?_); refine goesL_ (some 11) rfl rfl Tryd.func39 (by kernel_rfl) rfl #[.pointer (some ⟨g159, 0, none⟩), .int .i64 4] rfl (by (try simp only [List.map_toArray, List.map_cons, List.map_nil]); first | done | rfl | (simp only [List.length_drop, List.length_take]; rfl)) ?_; (with_reducible refine (spec_l1Below.calls g159 t156 t157 t158 4 t162 t163 t164 w _ ?side1 ?side2 A5.out).mono ?_); (case side1 => repeat (first | (with_reducible first | exact HI159.out | apply IsS71.alloc | apply IsS71.drewN | apply IsS71.drew | apply IsS71.set_1 | apply IsS71.set_2) | exact HI159.out)); (case side2 => repeat (first | (with_reducible first | exact HB.out | apply below_alloc | apply pw_below_drewN | apply below_drew1 | refine below_set ?_ (IsS71.ge HI159.out)) | exact HB.out)); rintro e w11 ⟨rfl, hi, hb, hk⟩; refine ⟨_, rfl, ?_⟩; have n0_ := Aside0.mk (hb); have n1_ := Aside0.mk (hi); clear HB; clear HI159; have HB := n0_; have HI159 := n1_; clear n0_ n1_; (try clear hb); (try clear hb2); (try clear hk); (try clear hi)) | ((with_reducible refine gate_callee (f := 41) rfl ?_); refine goesL_ (some 16) rfl rfl Tryd.func41 (by kernel_rfl) rfl #[.pointer (some ⟨g159, 0, none⟩), .string t161] rfl (by (try simp only [List.map_toArray, List.map_cons, List.map_nil]); first | done | rfl | (simp only [List.length_drop, List.length_take]; rfl)) ?_; (with_reducible refine (spec_l1bend.calls g159 t156 t163 t164 t161 t165 t166 t167 w _ ?side1 ?side2 A7.out).mono ?_); (case side1 => repeat (first | (with_reducible first | exact HI159.out | apply IsS71.alloc | apply IsS71.drewN | apply IsS71.drew | apply IsS71.set_1 | apply IsS71.set_2) | exact HI159.out)); (case side2 => repeat (first | (with_reducible first | exact HB.out | apply below_alloc | apply pw_below_drewN | apply below_drew1 | refine below_set ?_ (IsS71.ge HI159.out)) | exact HB.out)); rintro e w12 ⟨rfl, hi, hb, hk⟩; refine ⟨_, rfl, ?_⟩; have n0_ := Aside0.mk (hb); have n1_ := Aside0.mk (hi); clear HB; clear HI159; have HB := n0_; have HI159 := n1_; clear n0_ n1_; (try clear hb); (try clear hb2); (try clear hk); (try clear hi)))
  go_ret
  exact ⟨by first | rfl | (simp [errW_none, errW_some] <;> rfl) | (simp [*, errW_none, errW_some] <;> rfl), by repeat (first | (with_reducible first | exact HB.out | apply below_alloc | apply pw_below_drewN | apply below_drew1 | refine below_set ?_ (IsS71.ge HI159.out)) | exact HB.out)⟩
 ·
  rw [if_neg c6] at H
  have c6b0 : (t162 == 0) = false := beq_eq_false_iff_ne.mpr c6
  have c6b1 : (t162 != 0) = true := bne_iff_ne.mpr c6
  by_cases c13 : t162 = 1
  ·
   rw [if_pos c13] at H
   have c13b0 : (t162 == 1) = true := beq_iff_eq.mpr c13
   have c13b1 : (t162 != 1) = false := bne_eq_false_iff_eq.mpr c13
   clear c13
   replace H := Option.bind_eq_some_iff.mp H
   obtain ⟨⟨t168, t169, t170⟩, A140, H⟩ := H
   replace H : ((spec_l1of.f k t156 t169 t170 t168 (⟨#[65, 66, 89, 90, 50, 51, 54, 55]⟩ : ByteArray)).bind fun bt171 => (some bt171.1)) = some r := H
   have A14 := Aside0.mk A140
   clear A140
   replace H := Option.bind_eq_some_iff.mp H
   obtain ⟨⟨t171, t172, t173⟩, A150, H⟩ := H
   replace H : (some t171) = some r := H
   have A15 := Aside0.mk A150
   clear A150
   obtain rfl := Option.some.inj H
   go_enter Tryd.func36, Tryd.ntmps36
   go_wp2_with (first | ((with_reducible refine gate_callee (f := 37) rfl ?_); refine goesL_ (some 6) rfl rfl Tryd.func37 (by kernel_rfl) rfl #[.slice A0 l0.length c0] rfl (by (try simp only [List.map_toArray, List.map_cons, List.map_nil]); first | done | rfl | (simp only [List.length_drop, List.length_take]; rfl)) ?_; (with_reducible refine (spec_l1New.calls k _ _ l0 t156 t157 t158 w _ ?side1 ?side2 ?side3 A2.out).mono ?_); (case side1 => repeat (first | (with_reducible first | exact HB.out | apply below_alloc | apply pw_below_drewN | apply below_drew1) | exact HB.out)); (case side2 => exact HR0.out); (case side3 => exact HC0.out); rintro e w16 ⟨g159, rfl, hi, hb, hb2⟩; refine ⟨_, rfl, ?_⟩; have n0_ := Aside0.mk (hb); have n1_ := Aside0.mk (hi); clear HB; have HB := n0_; have HI159 := n1_; clear n0_ n1_; (try clear hb); (try clear hb2); (try clear hk); (try clear hi)) | ((with_reducible refine gate_callee (f := 33) rfl ?_); refine goesL_ (some 8) rfl rfl Tryd.func33 (by kernel_rfl) rfl #[.slice A0 l0.length c0] rfl (by (try simp only [List.map_toArray, List.map_cons, List.map_nil]); first | done | rfl | (simp only [List.length_drop, List.length_take]; rfl)) ?_; (with_reducible refine (spec_DrawBase32.calls k _ _ l0 t160 _ ?side1 ?side2 A3.out).mono ?_); (case side1 => repeat (first | exact (Kd.C_below HR0.out HB.out) | (with_reducible refine Kd.C_alloc ?_ _) | (with_reducible refine Kd.C_drewN ?_ _) | (with_reducible refine Kd.C_drew ?_))); (case side2 => exact HC0.out); rintro e w17 ⟨rfl, hb⟩; refine ⟨_, rfl, ?_⟩; have n0_ := Aside0.mk (IsS71.below (by repeat (first | (with_reducible first | exact HI159.out | apply IsS71.alloc | apply IsS71.drewN | apply IsS71.drew | apply IsS71.set_1 | apply IsS71.set_2) | exact HI159.out)) hb); have n1_ := Aside0.mk (below_step (by repeat (first | (with_reducible first | exact HB.out | apply below_alloc | apply pw_below_drewN | apply below_drew1 | refine below_set ?_ (IsS71.ge HI159.out)) | exact HB.out)) hb); clear HI159; clear HB; have HI159 := n0_; have HB := n1_; clear n0_ n1_; (try clear hb); (try clear hb2); (try clear hk); (try clear hi)) | ((with_reducible refine gate_callee (f := 62) rfl ?_); refine goesL_ (some 9) rfl rfl Tryd.func62 (by kernel_rfl) rfl #[.string t160] rfl (by (try simp only [List.map_toArray, List.map_cons, List.map_nil]); first | done | rfl | (simp only [List.length_drop, List.length_take]; rfl)) ?_; (with_reducible refine (spec_Base32.calls k t160 t161 _ A4.out).mono ?_); rintro e w18 ⟨rfl, hb⟩; refine ⟨_, rfl, ?_⟩; have n0_ := Aside0.mk (IsS71.below (by repeat (first | (with_reducible first | exact HI159.out | apply IsS71.alloc | apply IsS71.drewN | apply IsS71.drew | apply IsS71.set_1 | apply IsS71.set_2) | exact HI159.out)) hb); have n1_ := Aside0.mk (below_step (by repeat (first | (with_reducible first | exact HB.out | apply below_alloc | apply pw_below_drewN | apply below_drew1 | refine below_set ?_ (IsS71.ge HI159.out)) | exact HB.out)) hb); clear HI159; clear HB; have HI159 := n0_; have HB := n1_; clear n0_ n1_; (try clear hb); (try clear hb2); (try clear hk); (try clear hi)) | ((with_reducible refine gate_callee (f := 39) rfl ?_); refine goesL_ (some 11) rfl rfl Tryd.func39 (by kernel_rfl) rfl #[.pointer (some ⟨g159, 0, none⟩), .int .i64 4] rfl (by (try simp only [List.map_toArray, List.map_cons, List.map_nil]); first | done | rfl | (simp only [List.length_drop, List.length_take]; rfl)) ?_; (with_reducible refine (spec_l1Below.calls g159 t156 t157 t158 4 t162 t163 t164 w _ ?side1 ?side2 A5.out).mono ?_); (case side1 => repeat (first | (with_reducible first | exact HI159.out | apply IsS71.alloc | apply IsS71.drewN | apply IsS71.drew | apply IsS71.set_1 | apply IsS71.set_2) | exact HI159.out)); (case side2 => repeat (first | (with_reducible first | exact HB.out | apply below_alloc | apply pw_below_drewN | apply below_drew1 | refine below_set ?_ (IsS71.ge HI159.out)) | exact HB.out)); rintro e w19 ⟨rfl, hi, hb, hk⟩; refine ⟨_, rfl, ?_⟩; have n0_ := Aside0.mk (hb); have n1_ := Aside0.mk (hi); clear HB; clear HI159; have HB := n0_; have HI159 := n1_; clear n0_ n1_; (try clear hb); (try clear hb2); (try clear hk); (try clear hi)) | ((with_reducible refine gate_callee (f := 39) rfl ?_); refine goesL_ (some 21) rfl rfl Tryd.func39 (by kernel_rfl) rfl #[.pointer (some ⟨g159, 0, none⟩), .int .i64 12] rfl (by (try simp only [List.map_toArray, List.map_cons, List.map_nil]); first | done | rfl | (simp only [List.length_drop, List.length_take]; rfl)) ?_; (with_reducible refine (spec_l1Below.calls g159 t156 t163 t164 12 t168 t169 t170 w _ ?side1 ?side2 A14.out).mono ?_); (case side1 => repeat (first | (with_reducible first | exact HI159.out | apply IsS71.alloc | apply IsS71.drewN | apply IsS71.drew | apply IsS71.set_1 | apply IsS71.set_2) | exact HI159.out)); (case side2 => repeat (first | (with_reducible first | exact HB.out | apply below_alloc | apply pw_below_drewN | apply below_drew1 | refine below_set ?_ (IsS71.ge HI159.out)) | exact HB.out)); rintro e w20 ⟨rfl, hi, hb, hk⟩; refine ⟨_, rfl, ?_⟩; have n0_ := Aside0.mk (hb); have n1_ := Aside0.mk (hi); clear HB; clear HI159; have HB := n0_; have HI159 := n1_; clear n0_ n1_; (try clear hb); (try clear hb2); (try clear hk); (try clear hi)) | ((with_reducible refine gate_callee (f := 38) rfl ?_); refine goesL_ (some 22) rfl rfl Tryd.func38 (by kernel_rfl) rfl #[.pointer (some ⟨g159, 0, none⟩), .int .i64 t168, .string (⟨#[65, 66, 89, 90, 50, 51, 54, 55]⟩ : ByteArray)] rfl (by (try simp only [List.map_toArray, List.map_cons, List.map_nil]); first | done | rfl | (simp only [List.length_drop, List.length_take]; rfl)) ?_; (with_reducible refine (spec_l1of.calls k g159 t156 t169 t170 t168 (⟨#[65, 66, 89, 90, 50, 51, 54, 55]⟩ : ByteArray) t171 t172 t173 w _ ?side1 ?side2 A15.out).mono ?_); (case side1 => repeat (first | (with_reducible first | exact HI159.out | apply IsS71.alloc | apply IsS71.drewN | apply IsS71.drew | apply IsS71.set_1 | apply IsS71.set_2) | exact HI159.out)); (case side2 => repeat (first | (with_reducible first | exact HB.out | apply below_alloc | apply pw_below_drewN | apply below_drew1 | refine below_set ?_ (IsS71.ge HI159.out)) | exact HB.out)); rintro e w21 ⟨rfl, hi, hb, hk⟩; refine ⟨_, rfl, ?_⟩; have n0_ := Aside0.mk (hb); have n1_ := Aside0.mk (hi); clear HB; clear HI159; have HB := n0_; have HI159 := n1_; clear n0_ n1_; (try clear hb); (try clear hb2); (try clear hk); (try clear hi)))
   go_ret
   exact ⟨by first | rfl | (simp [errW_none, errW_some] <;> rfl) | (simp [*, errW_none, errW_some] <;> rfl), by repeat (first | (with_reducible first | exact HB.out | apply below_alloc | apply pw_below_drewN | apply below_drew1 | refine below_set ?_ (IsS71.ge HI159.out)) | exact HB.out)⟩
  ·
   rw [if_neg c13] at H
   have c13b0 : (t162 == 1) = false := beq_eq_false_iff_ne.mpr c13
   have c13b1 : (t162 != 1) = true := bne_iff_ne.mpr c13
   obtain rfl := Option.some.inj H
   go_enter Tryd.func36, Tryd.ntmps36
   go_wp2_with (first | ((with_reducible refine gate_callee (f := 37) rfl ?_); refine goesL_ (some 6) rfl rfl Tryd.func37 (by kernel_rfl) rfl #[.slice A0 l0.length c0] rfl (by (try simp only [List.map_toArray, List.map_cons, List.map_nil]); first | done | rfl | (simp only [List.length_drop, List.length_take]; rfl)) ?_; (with_reducible refine (spec_l1New.calls k _ _ l0 t156 t157 t158 w _ ?side1 ?side2 ?side3 A2.out).mono ?_); (case side1 => repeat (first | (with_reducible first | exact HB.out | apply below_alloc | apply pw_below_drewN | apply below_drew1) | exact HB.out)); (case side2 => exact HR0.out); (case side3 => exact HC0.out); rintro e w22 ⟨g159, rfl, hi, hb, hb2⟩; refine ⟨_, rfl, ?_⟩; have n0_ := Aside0.mk (hb); have n1_ := Aside0.mk (hi); clear HB; have HB := n0_; have HI159 := n1_; clear n0_ n1_; (try clear hb); (try clear hb2); (try clear hk); (try clear hi)) | ((with_reducible refine gate_callee (f := 33) rfl ?_); refine goesL_ (some 8) rfl rfl Tryd.func33 (by kernel_rfl) rfl #[.slice A0 l0.length c0] rfl (by (try simp only [List.map_toArray, List.map_cons, List.map_nil]); first | done | rfl | (simp only [List.length_drop, List.length_take]; rfl)) ?_; (with_reducible refine (spec_DrawBase32.calls k _ _ l0 t160 _ ?side1 ?side2 A3.out).mono ?_); (case side1 => repeat (first | exact (Kd.C_below HR0.out HB.out) | (with_reducible refine Kd.C_alloc ?_ _) | (with_reducible refine Kd.C_drewN ?_ _) | (with_reducible refine Kd.C_drew ?_))); (case side2 => exact HC0.out); rintro e w23 ⟨rfl, hb⟩; refine ⟨_, rfl, ?_⟩; have n0_ := Aside0.mk (IsS71.below (by repeat (first | (with_reducible first | exact HI159.out | apply IsS71.alloc | apply IsS71.drewN | apply IsS71.drew | apply IsS71.set_1 | apply IsS71.set_2) | exact HI159.out)) hb); have n1_ := Aside0.mk (below_step (by repeat (first | (with_reducible first | exact HB.out | apply below_alloc | apply pw_below_drewN | apply below_drew1 | refine below_set ?_ (IsS71.ge HI159.out)) | exact HB.out)) hb); clear HI159; clear HB; have HI159 := n0_; have HB := n1_; clear n0_ n1_; (try clear hb); (try clear hb2); (try clear hk); (try clear hi)) | ((with_reducible refine gate_callee (f := 62) rfl ?_); refine goesL_ (some 9) rfl rfl Tryd.func62 (by kernel_rfl) rfl #[.string t160] rfl (by (try simp only [List.map_toArray, List.map_cons, List.map_nil]); first | done | rfl | (simp only [List.length_drop, List.length_take]; rfl)) ?_; (with_reducible refine (spec_Base32.calls k t160 t161 _ A4.out).mono ?_); rintro e w24 ⟨rfl, hb⟩; refine ⟨_, rfl, ?_⟩; have n0_ := Aside0.mk (IsS71.below (by repeat (first | (with_reducible first | exact HI159.out | apply IsS71.alloc | apply IsS71.drewN | apply IsS71.drew | apply IsS71.set_1 | apply IsS71.set_2) | exact HI159.out)) hb); have n1_ := Aside0.mk (below_step (by repeat (first | (with_reducible first | exact HB.out | apply below_alloc | apply pw_below_drewN | apply below_drew1 | refine below_set ?_ (IsS71.ge HI159.out)) | exact HB.out)) hb); clear HI159; clear HB; have HI159 := n0_; have HB := n1_; clear n0_ n1_; (try clear hb); (try clear hb2); (try clear hk); (try clear hi)) | ((with_reducible refine gate_callee (f := 39) rfl ?_); refine goesL_ (some 11) rfl rfl Tryd.func39 (by kernel_rfl) rfl #[.pointer (some ⟨g159, 0, none⟩), .int .i64 4] rfl (by (try simp only [List.map_toArray, List.map_cons, List.map_nil]); first | done | rfl | (simp only [List.length_drop, List.length_take]; rfl)) ?_; (with_reducible refine (spec_l1Below.calls g159 t156 t157 t158 4 t162 t163 t164 w _ ?side1 ?side2 A5.out).mono ?_); (case side1 => repeat (first | (with_reducible first | exact HI159.out | apply IsS71.alloc | apply IsS71.drewN | apply IsS71.drew | apply IsS71.set_1 | apply IsS71.set_2) | exact HI159.out)); (case side2 => repeat (first | (with_reducible first | exact HB.out | apply below_alloc | apply pw_below_drewN | apply below_drew1 | refine below_set ?_ (IsS71.ge HI159.out)) | exact HB.out)); rintro e w25 ⟨rfl, hi, hb, hk⟩; refine ⟨_, rfl, ?_⟩; have n0_ := Aside0.mk (hb); have n1_ := Aside0.mk (hi); clear HB; clear HI159; have HB := n0_; have HI159 := n1_; clear n0_ n1_; (try clear hb); (try clear hb2); (try clear hk); (try clear hi)))
   go_ret
   exact ⟨by first | rfl | (simp [errW_none, errW_some] <;> rfl) | (simp [*, errW_none, errW_some] <;> rfl), by repeat (first | (with_reducible first | exact HB.out | apply below_alloc | apply pw_below_drewN | apply below_drew1 | refine below_set ?_ (IsS71.ge HI159.out)) | exact HB.out)⟩

/-! ### laws_FnBase32s: function 9 -/
def laws_FnBase32s.j0 : Nat → List Int → Bool → Option (Bool)
 | 0, _, _ => none
 | k + 1, x0, x34 => if x34 = true then (some false) else ((spec_DrawReadBase32.f k x0).bind fun t179 => ((impl_ReadBase32.f k t179).bind fun bt180 => (if bt180.2 = true then ((impl_Base32.f k bt180.1).bind fun t182 => (if t182.toList = t179.toList then ((laws_words.f).bind fun t183 => (some t183)) else (some false))) else ((laws_words.f).bind fun t184 => (some t184)))))
def laws_FnBase32s.f (k : Nat) (l0 : List Int) : Option (Bool) := (spec_DrawBase32.f k l0).bind fun t174 => ((impl_Base32.f k t174).bind fun t175 => ((impl_ReadBase32.f k t175).bind fun bt176 => (if bt176.2 = true then (if bt176.1.toList = t174.toList then ((impl_Base32.f k t174).bind fun t178 => (laws_FnBase32s.j0 k l0 ((t178.size : Int) != (wrap64 (Int.tdiv (wrap64 ((wrap64 (8 * (t174.size : Int))) + 4)) 5))))) else (laws_FnBase32s.j0 k l0 true)) else (laws_FnBase32s.j0 k l0 true))))
theorem laws_FnBase32s.mono_l : ∀ k, (∀ y0 y1, LeO (laws_FnBase32s.j0 k y0 y1) (laws_FnBase32s.j0 (k + 1) y0 y1))
 | 0 => fun _ _ r h => by simp [laws_FnBase32s.j0] at h
 | k + 1 => by
  have ih0 := laws_FnBase32s.mono_l k
  ·
   intro y0 y1
   unfold laws_FnBase32s.j0
   repeat' first
   | (with_reducible exact ih0 _ _)
   | (with_reducible exact impl_Base32.mono _ _)
   | (with_reducible exact impl_ReadBase32.mono _ _)
   | (with_reducible exact spec_DrawBase32.mono _ _)
   | (with_reducible exact spec_DrawReadBase32.mono _ _)
   | (with_reducible exact LeO.refl _)
   | (with_reducible exact LeO.none _)
   | (with_reducible refine LeO.ite ?_ ?_)
   | (with_reducible refine LeO.bind ?_ (fun _ => ?_))
   | exact ih0 _ _
   | exact impl_Base32.mono _ _
   | exact impl_ReadBase32.mono _ _
   | exact spec_DrawBase32.mono _ _
   | exact spec_DrawReadBase32.mono _ _
   | exact LeO.none _
   | refine LeO.ite ?_ ?_
   | refine LeO.bind ?_ (fun _ => ?_)
theorem laws_FnBase32s.mono : ∀ a0 k, LeO (laws_FnBase32s.f k a0) (laws_FnBase32s.f (k + 1) a0) := by
 intro a0 k
 have ih0 := laws_FnBase32s.mono_l k
 unfold laws_FnBase32s.f
 repeat' first
   | (with_reducible exact ih0 _ _)
   | (with_reducible exact impl_Base32.mono _ _)
   | (with_reducible exact impl_ReadBase32.mono _ _)
   | (with_reducible exact spec_DrawBase32.mono _ _)
   | (with_reducible exact spec_DrawReadBase32.mono _ _)
   | (with_reducible exact LeO.refl _)
   | (with_reducible exact LeO.none _)
   | (with_reducible refine LeO.ite ?_ ?_)
   | (with_reducible refine LeO.bind ?_ (fun _ => ?_))
   | exact ih0 _ _
   | exact impl_Base32.mono _ _
   | exact impl_ReadBase32.mono _ _
   | exact spec_DrawBase32.mono _ _
   | exact spec_DrawReadBase32.mono _ _
   | exact LeO.none _
   | refine LeO.ite ?_ ?_
   | refine LeO.bind ?_ (fun _ => ?_)
set_option maxHeartbeats 8000000 in
set_option maxRecDepth 100000 in
theorem laws_FnBase32s.calls (k : Nat) (A0 : Option Addr) (c0 : Nat) (l0 : List Int) (r : Bool) (w : World) (hr0 : Kd.C (Kd.int .u8) w A0 l0.length l0) (hc0 : l0.length ≤ c0) (ht : Tab w) (h : laws_FnBase32s.f k l0 = some r) :
  Calls Tryd.prog 9 #[.slice A0 l0.length c0] w fun e w' => e = .returned (.bool r) ∧ Below w.heap.size w w' := by
 have HR0 := Aside0.mk hr0
 have HC0 := Aside0.mk hc0
 clear hr0 hc0
 have HB := Aside0.mk (Below.refl w.heap.size w)
 have HT := Aside0.mk ht
 clear ht
 have H : ((spec_DrawBase32.f k l0).bind fun t174 => ((impl_Base32.f k t174).bind fun t175 => ((impl_ReadBase32.f k t175).bind fun bt176 => (if bt176.2 = true then (if bt176.1.toList = t174.toList then ((impl_Base32.f k t174).bind fun t178 => (laws_FnBase32s.j0 k l0 ((t178.size : Int) != (wrap64 (Int.tdiv (wrap64 ((wrap64 (8 * (t174.size : Int))) + 4)) 5))))) else (laws_FnBase32s.j0 k l0 true)) else (laws_FnBase32s.j0 k l0 true))))) = some r := h
 clear h
 replace H := Option.bind_eq_some_iff.mp H
 obtain ⟨t174, A20, H⟩ := H
 replace H : ((impl_Base32.f k t174).bind fun t175 => ((impl_ReadBase32.f k t175).bind fun bt176 => (if bt176.2 = true then (if bt176.1.toList = t174.toList then ((impl_Base32.f k t174).bind fun t178 => (laws_FnBase32s.j0 k l0 ((t178.size : Int) != (wrap64 (Int.tdiv (wrap64 ((wrap64 (8 * (t174.size : Int))) + 4)) 5))))) else (laws_FnBase32s.j0 k l0 true)) else (laws_FnBase32s.j0 k l0 true)))) = some r := H
 have A2 := Aside0.mk A20
 clear A20
 replace H := Option.bind_eq_some_iff.mp H
 obtain ⟨t175, A30, H⟩ := H
 replace H : ((impl_ReadBase32.f k t175).bind fun bt176 => (if bt176.2 = true then (if bt176.1.toList = t174.toList then ((impl_Base32.f k t174).bind fun t178 => (laws_FnBase32s.j0 k l0 ((t178.size : Int) != (wrap64 (Int.tdiv (wrap64 ((wrap64 (8 * (t174.size : Int))) + 4)) 5))))) else (laws_FnBase32s.j0 k l0 true)) else (laws_FnBase32s.j0 k l0 true))) = some r := H
 have A3 := Aside0.mk A30
 clear A30
 replace H := Option.bind_eq_some_iff.mp H
 obtain ⟨⟨t176, t177⟩, A40, H⟩ := H
 replace H : (if t177 = true then (if t176.toList = t174.toList then ((impl_Base32.f k t174).bind fun t178 => (laws_FnBase32s.j0 k l0 ((t178.size : Int) != (wrap64 (Int.tdiv (wrap64 ((wrap64 (8 * (t174.size : Int))) + 4)) 5))))) else (laws_FnBase32s.j0 k l0 true)) else (laws_FnBase32s.j0 k l0 true)) = some r := H
 have A4 := Aside0.mk A40
 clear A40
 have HC5 := Aside0.mk H
 clear H
 go_enter Tryd.func9, Tryd.ntmps9
 go_upto_region 3 with (first | ((with_reducible refine gate_callee (f := 33) rfl ?_); refine goesL_ (some 10) rfl rfl Tryd.func33 (by kernel_rfl) rfl #[.slice A0 l0.length c0] rfl (by (try simp only [List.map_toArray, List.map_cons, List.map_nil]); first | done | rfl | (simp only [List.length_drop, List.length_take]; rfl)) ?_; (with_reducible refine (spec_DrawBase32.calls k _ _ l0 t174 _ ?side1 ?side2 A2.out).mono ?_); (case side1 => repeat (first | exact HR0.out | (with_reducible refine Kd.C_alloc ?_ _) | (with_reducible refine Kd.C_drewN ?_ _) | (with_reducible refine Kd.C_drew ?_))); (case side2 => exact HC0.out); rintro e w6 ⟨rfl, hb⟩; refine ⟨_, rfl, ?_⟩; have n0_ := Aside0.mk (below_step (by repeat (first | (with_reducible first | exact HB.out | apply below_alloc | apply pw_below_drewN | apply below_drew1) | exact HB.out)) hb); clear HB; have HB := n0_; clear n0_; (try clear hb); (try clear hb2); (try clear hk); (try clear hi)) | ((with_reducible refine gate_callee (f := 35) rfl ?_); refine goesL_ (some 13) rfl rfl Tryd.func35 (by kernel_rfl) rfl #[.string t174] rfl (by (try simp only [List.map_toArray, List.map_cons, List.map_nil]); first | done | rfl | (simp only [List.length_drop, List.length_take]; rfl)) ?_; (with_reducible refine (impl_Base32.calls k t174 t175 _ A3.out).mono ?_); rintro e w7 ⟨rfl, hb⟩; refine ⟨_, rfl, ?_⟩; have n0_ := Aside0.mk (below_step (by repeat (first | (with_reducible first | exact HB.out | apply below_alloc | apply pw_below_drewN | apply below_drew1) | exact HB.out)) hb); clear HB; have HB := n0_; clear n0_; (try clear hb); (try clear hb2); (try clear hk); (try clear hi)) | ((with_reducible refine gate_callee (f := 34) rfl ?_); refine goesL_ (some 14) rfl rfl Tryd.func34 (by kernel_rfl) rfl #[.string t175] rfl (by (try simp only [List.map_toArray, List.map_cons, List.map_nil]); first | done | rfl | (simp only [List.length_drop, List.length_take]; rfl)) ?_; (with_reducible refine (impl_ReadBase32.calls k t175 t176 t177 _ A4.out).mono ?_); rintro e w8 ⟨rfl, hb⟩; refine ⟨_, rfl, ?_⟩; have n0_ := Aside0.mk (below_step (by repeat (first | (with_reducible first | exact HB.out | apply below_alloc | apply pw_below_drewN | apply below_drew1) | exact HB.out)) hb); clear HB; have HB := n0_; clear n0_; (try clear hb); (try clear hb2); (try clear hk); (try clear hi)))
 (try simp only [Act.put, List.setIfInBounds_toArray, List.set_cons_zero, List.set_cons_succ])
 go_cut [34] (fun v34 wc => ∃ (kq : Nat) (x34_4 : Bool), v34 = .bool x34_4 ∧ Aside0 (laws_FnBase32s.j0 kq l0 x34_4 = some r) ∧ Aside0 (kq ≤ k) ∧ Aside0 (Below w.heap.size w wc))
 case first =>
  have H := HC5.out
  clear HC5
  by_cases c9 : t177 = true
  ·
   subst c9
   have H1 : (if t176.toList = t174.toList then ((impl_Base32.f k t174).bind fun t178 => (laws_FnBase32s.j0 k l0 ((t178.size : Int) != (wrap64 (Int.tdiv (wrap64 ((wrap64 (8 * (t174.size : Int))) + 4)) 5))))) else (laws_FnBase32s.j0 k l0 true)) = some r := by rw [if_pos rfl] at H; exact H
   clear H
   have H := H1
   clear H1
   by_cases c10 : t176.toList = t174.toList
   ·
    rw [if_pos c10] at H
    have c10b0 : (t176.toList == t174.toList) = true := beq_iff_eq.mpr c10
    have c10b1 : (t176.toList != t174.toList) = false := bne_eq_false_iff_eq.mpr c10
    clear c10
    (first | rw [c10b0] | (simp only [i64_w, i32_w]; rw [c10b0]) | skip)
    replace H := Option.bind_eq_some_iff.mp H
    obtain ⟨t178, A110, H⟩ := H
    replace H : (laws_FnBase32s.j0 k l0 ((t178.size : Int) != (wrap64 (Int.tdiv (wrap64 ((wrap64 (8 * (t174.size : Int))) + 4)) 5)))) = some r := H
    have A11 := Aside0.mk A110
    clear A110
    have eq_ := (A3.out).symm.trans A11.out
    simp only [Option.some.injEq] at eq_
    obtain rfl := eq_
    have H' := Aside0.mk H
    clear H
    go_wp2_with (first | (go_at_call 35; (with_reducible refine (impl_Base32.calls k t174 t175 _ A11.out).mono ?_); rintro e w12 ⟨rfl, hb⟩; have n0_ := Aside0.mk (below_step (by repeat (first | (with_reducible first | exact HB.out | apply below_alloc | apply pw_below_drewN | apply below_drew1) | exact HB.out)) hb); clear HB; have HB := n0_; clear n0_; (try clear hb); (try clear hb2); (try clear hk); (try clear hi)))
    go_meet
    case rel => exact ⟨_, (((t175.size : Int) != (wrap64 (Int.tdiv (wrap64 ((wrap64 (8 * (t174.size : Int))) + 4)) 5)))), (by first | rfl | (simp; done) | (simp [*]; done)), H', ⟨by first | omega | exact Nat.le_refl _⟩, ⟨by repeat (first | (with_reducible first | exact HB.out | apply below_alloc | apply pw_below_drewN | apply below_drew1) | exact HB.out)⟩⟩
   ·
    rw [if_neg c10] at H
    have c10b0 : (t176.toList == t174.toList) = false := beq_eq_false_iff_ne.mpr c10
    have c10b1 : (t176.toList != t174.toList) = true := bne_iff_ne.mpr c10
    (first | rw [c10b0] | (simp only [i64_w, i32_w]; rw [c10b0]) | skip)
    have H' := Aside0.mk H
    clear H
    go_wp2
    go_meet
    case rel => exact ⟨_, (true), (by first | rfl | (simp; done) | (simp [*]; done)), H', ⟨by first | omega | exact Nat.le_refl _⟩, ⟨by repeat (first | (with_reducible first | exact HB.out | apply below_alloc | apply pw_below_drewN | apply below_drew1) | exact HB.out)⟩⟩
  ·
   replace c9 := Bool.eq_false_iff.mpr c9
   subst c9
   have H1 : (laws_FnBase32s.j0 k l0 true) = some r := by rw [if_neg (show ¬ (false = true) by decide)] at H; exact H
   clear H
   have H := H1
   clear H1
   have H' := Aside0.mk H
   clear H
   go_wp2
   go_meet
   case rel => exact ⟨_, (true), (by first | rfl | (simp; done) | (simp [*]; done)), H', ⟨by first | omega | exact Nat.le_refl _⟩, ⟨by repeat (first | (with_reducible first | exact HB.out | apply below_alloc | apply pw_below_drewN | apply below_drew1) | exact HB.out)⟩⟩
 case rest =>
  clear HC5
  try clear c1
  try clear p2
  try clear c3
  try clear p6
  try clear c9
  try clear c10
  try clear c10b0
  try clear c10b1
  obtain ⟨kq, x34_4, rfl, HA, HJ4, HB⟩ := hcut
  cases kq with
  | zero => exact absurd HA.out (by simp [laws_FnBase32s.j0])
  | succ kj4 =>
   have H := HA.out
   clear HA
   simp only [laws_FnBase32s.j0] at H
   by_cases c13 : x34_4 = true
   ·
    subst c13
    have H1 : (some false) = some r := by rw [if_pos rfl] at H; exact H
    clear H
    have H := H1
    clear H1
    obtain rfl := Option.some.inj H
    go_wp2
    go_ret
    exact ⟨by first | rfl | (simp [errW_none, errW_some] <;> rfl) | (simp [*, errW_none, errW_some] <;> rfl), by repeat (first | (with_reducible first | exact HB.out | apply below_alloc | apply pw_below_drewN | apply below_drew1) | exact HB.out)⟩
   ·
    replace c13 := Bool.eq_false_iff.mpr c13
    subst c13
    have H1 : ((spec_DrawReadBase32.f kj4 l0).bind fun t179 => ((impl_ReadBase32.f kj4 t179).bind fun bt180 => (if bt180.2 = true then ((impl_Base32.f kj4 bt180.1).bind fun t182 => (if t182.toList = t179.toList then ((laws_words.f).bind fun t183 => (some t183)) else (some false))) else ((laws_words.f).bind fun t184 => (some t184))))) = some r := by rw [if_neg (show ¬ (false = true) by decide)] at H; exact H
    clear H
    have H := H1
    clear H1
    replace H := Option.bind_eq_some_iff.mp H
    obtain ⟨t179, A140, H⟩ := H
    replace H : ((impl_ReadBase32.f kj4 t179).bind fun bt180 => (if bt180.2 = true then ((impl_Base32.f kj4 bt180.1).bind fun t182 => (if t182.toList = t179.toList then ((laws_words.f).bind fun t183 => (some t183)) else (some false))) else ((laws_words.f).bind fun t184 => (some t184)))) = some r := H
    have A14 := Aside0.mk A140
    clear A140
    replace H := Option.bind_eq_some_iff.mp H
    obtain ⟨⟨t180, t181⟩, A150, H⟩ := H
    replace H : (if t181 = true then ((impl_Base32.f kj4 t180).bind fun t182 => (if t182.toList = t179.toList then ((laws_words.f).bind fun t183 => (some t183)) else (some false))) else ((laws_words.f).bind fun t184 => (some t184))) = some r := H
    have A15 := Aside0.mk A150
    clear A150
    by_cases c16 : t181 = true
    ·
     subst c16
     have H1 : ((impl_Base32.f kj4 t180).bind fun t182 => (if t182.toList = t179.toList then ((laws_words.f).bind fun t183 => (some t183)) else (some false))) = some r := by rw [if_pos rfl] at H; exact H
     clear H
     have H := H1
     clear H1
     replace H := Option.bind_eq_some_iff.mp H
     obtain ⟨t182, A170, H⟩ := H
     replace H : (if t182.toList = t179.toList then ((laws_words.f).bind fun t183 => (some t183)) else (some false)) = some r := H
     have A17 := Aside0.mk A170
     clear A170
     by_cases c18 : t182.toList = t179.toList
     ·
      rw [if_pos c18] at H
      have c18b0 : (t182.toList == t179.toList) = true := beq_iff_eq.mpr c18
      have c18b1 : (t182.toList != t179.toList) = false := bne_eq_false_iff_eq.mpr c18
      clear c18
      replace H := Option.bind_eq_some_iff.mp H
      obtain ⟨t183, A190, H⟩ := H
      replace H : (some t183) = some r := H
      have A19 := Aside0.mk A190
      clear A190
      obtain rfl := Option.some.inj H
      go_wp2_with (first | ((with_reducible refine gate_callee (f := 36) rfl ?_); refine goesL_ (some 36) rfl rfl Tryd.func36 (by kernel_rfl) rfl #[.slice A0 l0.length c0] rfl (by (try simp only [List.map_toArray, List.map_cons, List.map_nil]); first | done | rfl | (simp only [List.length_drop, List.length_take]; rfl)) ?_; (with_reducible refine (spec_DrawReadBase32.calls kj4 _ _ l0 t179 _ ?side1 ?side2 A14.out).mono ?_); (case side1 => repeat (first | exact (Kd.C_below HR0.out HB.out) | (with_reducible refine Kd.C_alloc ?_ _) | (with_reducible refine Kd.C_drewN ?_ _) | (with_reducible refine Kd.C_drew ?_))); (case side2 => exact HC0.out); rintro e w20 ⟨rfl, hb⟩; refine ⟨_, rfl, ?_⟩; have n0_ := Aside0.mk (below_step (by repeat (first | (with_reducible first | exact HB.out | apply below_alloc | apply pw_below_drewN | apply below_drew1) | exact HB.out)) hb); clear HB; have HB := n0_; clear n0_; (try clear hb); (try clear hb2); (try clear hk); (try clear hi)) | ((with_reducible refine gate_callee (f := 34) rfl ?_); refine goesL_ (some 39) rfl rfl Tryd.func34 (by kernel_rfl) rfl #[.string t179] rfl (by (try simp only [List.map_toArray, List.map_cons, List.map_nil]); first | done | rfl | (simp only [List.length_drop, List.length_take]; rfl)) ?_; (with_reducible refine (impl_ReadBase32.calls kj4 t179 t180 true _ A15.out).mono ?_); rintro e w21 ⟨rfl, hb⟩; refine ⟨_, rfl, ?_⟩; have n0_ := Aside0.mk (below_step (by repeat (first | (with_reducible first | exact HB.out | apply below_alloc | apply pw_below_drewN | apply below_drew1) | exact HB.out)) hb); clear HB; have HB := n0_; clear n0_; (try clear hb); (try clear hb2); (try clear hk); (try clear hi)) | (go_at_call 35; (with_reducible refine (impl_Base32.calls kj4 t180 t182 _ A17.out).mono ?_); rintro e w22 ⟨rfl, hb⟩; have n0_ := Aside0.mk (below_step (by repeat (first | (with_reducible first | exact HB.out | apply below_alloc | apply pw_below_drewN | apply below_drew1) | exact HB.out)) hb); clear HB; have HB := n0_; clear n0_; (try clear hb); (try clear hb2); (try clear hk); (try clear hi)) | ((with_reducible refine gate_callee (f := 13) rfl ?_); refine goesL_ (some 49) rfl rfl Tryd.func13 (by kernel_rfl) rfl #[] rfl (by (try simp only [List.map_toArray, List.map_cons, List.map_nil]); first | done | rfl | (simp only [List.length_drop, List.length_take]; rfl)) ?_; (with_reducible refine (laws_words.calls  t183 _ ?side1 A19.out).mono ?_); (case side1 => exact Tab.below HT.out (by repeat (first | (with_reducible first | exact HB.out | apply below_alloc | apply pw_below_drewN | apply below_drew1) | exact HB.out))); rintro e w23 ⟨rfl, hb⟩; refine ⟨_, rfl, ?_⟩; have n0_ := Aside0.mk (below_step (by repeat (first | (with_reducible first | exact HB.out | apply below_alloc | apply pw_below_drewN | apply below_drew1) | exact HB.out)) hb); clear HB; have HB := n0_; clear n0_; (try clear hb); (try clear hb2); (try clear hk); (try clear hi)))
      go_ret
      exact ⟨by first | rfl | (simp [errW_none, errW_some] <;> rfl) | (simp [*, errW_none, errW_some] <;> rfl), by repeat (first | (with_reducible first | exact HB.out | apply below_alloc | apply pw_below_drewN | apply below_drew1) | exact HB.out)⟩
     ·
      rw [if_neg c18] at H
      have c18b0 : (t182.toList == t179.toList) = false := beq_eq_false_iff_ne.mpr c18
      have c18b1 : (t182.toList != t179.toList) = true := bne_iff_ne.mpr c18
      obtain rfl := Option.some.inj H
      go_wp2_with (first | ((with_reducible refine gate_callee (f := 36) rfl ?_); refine goesL_ (some 36) rfl rfl Tryd.func36 (by kernel_rfl) rfl #[.slice A0 l0.length c0] rfl (by (try simp only [List.map_toArray, List.map_cons, List.map_nil]); first | done | rfl | (simp only [List.length_drop, List.length_take]; rfl)) ?_; (with_reducible refine (spec_DrawReadBase32.calls kj4 _ _ l0 t179 _ ?side1 ?side2 A14.out).mono ?_); (case side1 => repeat (first | exact (Kd.C_below HR0.out HB.out) | (with_reducible refine Kd.C_alloc ?_ _) | (with_reducible refine Kd.C_drewN ?_ _) | (with_reducible refine Kd.C_drew ?_))); (case side2 => exact HC0.out); rintro e w24 ⟨rfl, hb⟩; refine ⟨_, rfl, ?_⟩; have n0_ := Aside0.mk (below_step (by repeat (first | (with_reducible first | exact HB.out | apply below_alloc | apply pw_below_drewN | apply below_drew1) | exact HB.out)) hb); clear HB; have HB := n0_; clear n0_; (try clear hb); (try clear hb2); (try clear hk); (try clear hi)) | ((with_reducible refine gate_callee (f := 34) rfl ?_); refine goesL_ (some 39) rfl rfl Tryd.func34 (by kernel_rfl) rfl #[.string t179] rfl (by (try simp only [List.map_toArray, List.map_cons, List.map_nil]); first | done | rfl | (simp only [List.length_drop, List.length_take]; rfl)) ?_; (with_reducible refine (impl_ReadBase32.calls kj4 t179 t180 true _ A15.out).mono ?_); rintro e w25 ⟨rfl, hb⟩; refine ⟨_, rfl, ?_⟩; have n0_ := Aside0.mk (below_step (by repeat (first | (with_reducible first | exact HB.out | apply below_alloc | apply pw_below_drewN | apply below_drew1) | exact HB.out)) hb); clear HB; have HB := n0_; clear n0_; (try clear hb); (try clear hb2); (try clear hk); (try clear hi)) | (go_at_call 35; (with_reducible refine (impl_Base32.calls kj4 t180 t182 _ A17.out).mono ?_); rintro e w26 ⟨rfl, hb⟩; have n0_ := Aside0.mk (below_step (by repeat (first | (with_reducible first | exact HB.out | apply below_alloc | apply pw_below_drewN | apply below_drew1) | exact HB.out)) hb); clear HB; have HB := n0_; clear n0_; (try clear hb); (try clear hb2); (try clear hk); (try clear hi)))
      go_ret
      exact ⟨by first | rfl | (simp [errW_none, errW_some] <;> rfl) | (simp [*, errW_none, errW_some] <;> rfl), by repeat (first | (with_reducible first | exact HB.out | apply below_alloc | apply pw_below_drewN | apply below_drew1) | exact HB.out)⟩
    ·
     replace c16 := Bool.eq_false_iff.mpr c16
     subst c16
     have H1 : ((laws_words.f).bind fun t184 => (some t184)) = some r := by rw [if_neg (show ¬ (false = true) by decide)] at H; exact H
     clear H
     have H := H1
     clear H1
     replace H := Option.bind_eq_some_iff.mp H
     obtain ⟨t184, A270, H⟩ := H
     replace H : (some t184) = some r := H
     have A27 := Aside0.mk A270
     clear A270
     obtain rfl := Option.some.inj H
     go_wp2_with (first | ((with_reducible refine gate_callee (f := 36) rfl ?_); refine goesL_ (some 36) rfl rfl Tryd.func36 (by kernel_rfl) rfl #[.slice A0 l0.length c0] rfl (by (try simp only [List.map_toArray, List.map_cons, List.map_nil]); first | done | rfl | (simp only [List.length_drop, List.length_take]; rfl)) ?_; (with_reducible refine (spec_DrawReadBase32.calls kj4 _ _ l0 t179 _ ?side1 ?side2 A14.out).mono ?_); (case side1 => repeat (first | exact (Kd.C_below HR0.out HB.out) | (with_reducible refine Kd.C_alloc ?_ _) | (with_reducible refine Kd.C_drewN ?_ _) | (with_reducible refine Kd.C_drew ?_))); (case side2 => exact HC0.out); rintro e w28 ⟨rfl, hb⟩; refine ⟨_, rfl, ?_⟩; have n0_ := Aside0.mk (below_step (by repeat (first | (with_reducible first | exact HB.out | apply below_alloc | apply pw_below_drewN | apply below_drew1) | exact HB.out)) hb); clear HB; have HB := n0_; clear n0_; (try clear hb); (try clear hb2); (try clear hk); (try clear hi)) | ((with_reducible refine gate_callee (f := 34) rfl ?_); refine goesL_ (some 39) rfl rfl Tryd.func34 (by kernel_rfl) rfl #[.string t179] rfl (by (try simp only [List.map_toArray, List.map_cons, List.map_nil]); first | done | rfl | (simp only [List.length_drop, List.length_take]; rfl)) ?_; (with_reducible refine (impl_ReadBase32.calls kj4 t179 t180 false _ A15.out).mono ?_); rintro e w29 ⟨rfl, hb⟩; refine ⟨_, rfl, ?_⟩; have n0_ := Aside0.mk (below_step (by repeat (first | (with_reducible first | exact HB.out | apply below_alloc | apply pw_below_drewN | apply below_drew1) | exact HB.out)) hb); clear HB; have HB := n0_; clear n0_; (try clear hb); (try clear hb2); (try clear hk); (try clear hi)) | ((with_reducible refine gate_callee (f := 13) rfl ?_); refine goesL_ (some 49) rfl rfl Tryd.func13 (by kernel_rfl) rfl #[] rfl (by (try simp only [List.map_toArray, List.map_cons, List.map_nil]); first | done | rfl | (simp only [List.length_drop, List.length_take]; rfl)) ?_; (with_reducible refine (laws_words.calls  t184 _ ?side1 A27.out).mono ?_); (case side1 => exact Tab.below HT.out (by repeat (first | (with_reducible first | exact HB.out | apply below_alloc | apply pw_below_drewN | apply below_drew1) | exact HB.out))); rintro e w30 ⟨rfl, hb⟩; refine ⟨_, rfl, ?_⟩; have n0_ := Aside0.mk (below_step (by repeat (first | (with_reducible first | exact HB.out | apply below_alloc | apply pw_below_drewN | apply below_drew1) | exact HB.out)) hb); clear HB; have HB := n0_; clear n0_; (try clear hb); (try clear hb2); (try clear hk); (try clear hi)))
     go_ret
     exact ⟨by first | rfl | (simp [errW_none, errW_some] <;> rfl) | (simp [*, errW_none, errW_some] <;> rfl), by repeat (first | (with_reducible first | exact HB.out | apply below_alloc | apply pw_below_drewN | apply below_drew1) | exact HB.out)⟩

/-- THE ONE PURE STATEMENT of laws_FnBase32s: yours. -/
def laws_FnBase32s.Pure : Prop := ∀ (l0 : List Int), l0.length ≤ maxLen → l0.length * 1 ≤ 140737488351232 → (∀ x ∈ l0, (Lit.int .u8 x).wf = true) → ∃ k, laws_FnBase32s.f k l0 = some true
theorem laws_FnBase32s.walk (P : laws_FnBase32s.Pure) (a0 : Option Addr) (len0 cap0 : Nat) (z0 : List Int) (w : World) (w0 : (a0 = none ∧ len0 = 0 ∧ cap0 = 0 ∧ z0 = []) ∨ ∃ x, a0 = some x ∧ len0 ≤ cap0 ∧ cap0 ≤ maxLen ∧ z0.length = cap0 ∧ (∀ i, i < z0.length → w.cell? (x.add i) = some (.int .u8 (z0.getD i 0))) ∧ ∀ n ∈ z0, (Lit.int .u8 n).wf = true) (y0 : len0 * 1 ≤ 140737488351232) (ht : Tab w) :
  Calls Tryd.prog 9 #[.slice a0 len0 cap0] w fun e w' => e = .returned (.bool true) ∧ Below w.heap.size w w' := by
 obtain ⟨l0, rfl, hr0, hm0, hw0, hc0⟩ := ReadsInt.ofRowC w0
 obtain ⟨k, h⟩ := P l0 hm0 y0 hw0
 refine (laws_FnBase32s.calls k _ _ l0 true w (Kd.C_of_reads (d := (0 : Int)) (h1 := fun _ => rfl) hr0) hc0 ht h).mono ?_
 rintro e w' ⟨rfl, hd⟩
 exact ⟨rfl, hd⟩

end Go.Proofs.YtikeagkcekkioaaDoor.PFnBase32s
