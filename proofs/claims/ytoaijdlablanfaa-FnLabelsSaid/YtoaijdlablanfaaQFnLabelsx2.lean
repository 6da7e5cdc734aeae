-- Written by a program of this session.
import Derived.Test.YtoaijdlablanfaaQFnLabelsx0
import Derived.Test.YtoaijdlablanfaaQFnLabelsx1
namespace Go.Proofs.Ytoaijdlablanfaa.PFnLabels
open Go.Proofs.Ytoaijdlablanfaa.Foreign
open Go.RowKit Go.Proofs.YtoaijdlablanfaaV.PrintWords Go.Proofs.YtoaijdlablanfaaV.PrintLast Go.Proofs.YtoaijdlablanfaaV.PrintMore
attribute [local go_sem] max2_int min2_int max_two min_two max_three min_three max_four min_four   -- for this text's walks alone
set_option linter.unusedVariables false
set_option linter.unusedSimpArgs false

/-! ### impl_Schedule: function 68 -/
def impl_Schedule.l0 : Nat → ByteArray → List Int → Int → Option (List Int)
 | 0, _, _, _ => none
 | k + 1, x0, x3, x4 => if x4 < 80 then (if x4 < 16 then (if 0 ≤ (wrap64 (4 * x4)) then (if (wrap64 (4 * x4)) ≤ (wrap64 ((wrap64 (4 * x4)) + 4)) then (if (wrap64 ((wrap64 (4 * x4)) + 4)) ≤ (x0.size : Int) then (if 0 < ((x0.extract ((wrap64 (4 * x4)) : Int).toNat ((wrap64 ((wrap64 (4 * x4)) + 4)) : Int).toNat).size : Int) then (if 1 < ((x0.extract ((wrap64 (4 * x4)) : Int).toNat ((wrap64 ((wrap64 (4 * x4)) + 4)) : Int).toNat).size : Int) then (if 2 < ((x0.extract ((wrap64 (4 * x4)) : Int).toNat ((wrap64 ((wrap64 (4 * x4)) + 4)) : Int).toNat).size : Int) then (if 3 < ((x0.extract ((wrap64 (4 * x4)) : Int).toNat ((wrap64 ((wrap64 (4 * x4)) + 4)) : Int).toNat).size : Int) then (if x3.length < 17592186044416 then (impl_Schedule.l0 k x0 (x3 ++ [Go.bits .or .i64 (Go.bits .or .i64 (Go.bits .or .i64 (wrap64 ((wrap64 (bt (x0.extract ((wrap64 (4 * x4)) : Int).toNat ((wrap64 ((wrap64 (4 * x4)) + 4)) : Int).toNat) 0)) * 16777216)) (wrap64 ((wrap64 (bt (x0.extract ((wrap64 (4 * x4)) : Int).toNat ((wrap64 ((wrap64 (4 * x4)) + 4)) : Int).toNat) 1)) * 65536))) (wrap64 ((wrap64 (bt (x0.extract ((wrap64 (4 * x4)) : Int).toNat ((wrap64 ((wrap64 (4 * x4)) + 4)) : Int).toNat) 2)) * 256))) (wrap64 (bt (x0.extract ((wrap64 (4 * x4)) : Int).toNat ((wrap64 ((wrap64 (4 * x4)) + 4)) : Int).toNat) 3))]) (wrap64 (x4 + 1))) else (none)) else (none)) else (none)) else (none)) else (none)) else (none)) else (none)) else (none)) else (if 0 ≤ (wrap64 (x4 - 3)) then (if (wrap64 (x4 - 3)) < (x3.length : Int) then (if 0 ≤ (wrap64 (x4 - 8)) then (if (wrap64 (x4 - 8)) < (x3.length : Int) then (if 0 ≤ (wrap64 (x4 - 14)) then (if (wrap64 (x4 - 14)) < (x3.length : Int) then (if 0 ≤ (wrap64 (x4 - 16)) then (if (wrap64 (x4 - 16)) < (x3.length : Int) then ((impl_turn.f (Go.bits .xor .i64 (Go.bits .xor .i64 (Go.bits .xor .i64 (rd x3 (wrap64 (x4 - 3))) (rd x3 (wrap64 (x4 - 8)))) (rd x3 (wrap64 (x4 - 14)))) (rd x3 (wrap64 (x4 - 16)))) 1).bind fun t114 => (if x3.length < 17592186044416 then (impl_Schedule.l0 k x0 (x3 ++ [t114]) (wrap64 (x4 + 1))) else (none))) else (none)) else (none)) else (none)) else (none)) else (none)) else (none)) else (none)) else (none))) else (some x3)
def impl_Schedule.f (k : Nat) (a0 : ByteArray) : Option (List Int) := if (a0.size : Int) = 64 then (impl_Schedule.l0 k a0 ([] : List Int) 0) else (some ([] : List Int))
theorem impl_Schedule.mono_l : ∀ k, (∀ y0 y1 y2, LeO (impl_Schedule.l0 k y0 y1 y2) (impl_Schedule.l0 (k + 1) y0 y1 y2))
 | 0 => fun _ _ _ r h => by simp [impl_Schedule.l0] at h
 | k + 1 => by
  have ih0 := impl_Schedule.mono_l k
  ·
   intro y0 y1 y2
   unfold impl_Schedule.l0
   repeat' first
   | (with_reducible exact ih0 _ _ _)
   | (with_reducible exact LeO.refl _)
   | (with_reducible exact LeO.none _)
   | (with_reducible refine LeO.ite ?_ ?_)
   | (with_reducible refine LeO.bind ?_ (fun _ => ?_))
   | exact ih0 _ _ _
   | exact LeO.none _
   | refine LeO.ite ?_ ?_
   | refine LeO.bind ?_ (fun _ => ?_)
theorem impl_Schedule.mono : ∀ a0 k, LeO (impl_Schedule.f k a0) (impl_Schedule.f (k + 1) a0) := by
 intro a0 k
 have ih0 := impl_Schedule.mono_l k
 unfold impl_Schedule.f
 repeat' first
   | (with_reducible exact ih0 _ _ _)
   | (with_reducible exact LeO.refl _)
   | (with_reducible exact LeO.none _)
   | (with_reducible refine LeO.ite ?_ ?_)
   | (with_reducible refine LeO.bind ?_ (fun _ => ?_))
   | exact ih0 _ _ _
   | exact LeO.none _
   | refine LeO.ite ?_ ?_
   | refine LeO.bind ?_ (fun _ => ?_)
def impl_Schedule.T9 : Bool × List (List Nat × List Nat) := (true, [([], []), ([], []), ([1], [1]), ([2], [2]), ([3], [3]), ([], []), ([5], [5]), ([6], [6]), ([7], [7]), ([4, 8], [4, 8]), ([], []), ([10], [10]), ([11], [11]), ([12], [12]), ([9, 13], [9, 13]), ([], []), ([15], [15]), ([16], [16]), ([14, 17], [14, 17]), ([18], [18]), ([0, 19], [0, 19]), ([20, 20, 0, 1, 2, 3, 4, 5, 6, 7, 8, 9, 10, 11, 12, 13, 14, 15, 16, 17, 18, 19, 20], [0, 20])])
def impl_Schedule.B9 : List Nat := [0, 0, 2, 6, 14, 0, 32, 96, 224, 510, 0, 1024, 3072, 7168, 16382, 0, 32768, 98304, 262142, 524286, 1048575, 2097151]
theorem impl_Schedule.tab9 : rtab .any (opsOf Try.f68 9) = impl_Schedule.T9 := by kernel_rfl
theorem impl_Schedule.bits9 : waitsOk impl_Schedule.T9.2 impl_Schedule.B9 = true := by kernel_rfl
def impl_Schedule.T10 : Bool × List (List Nat × List Nat) := (true, [([], []), ([], []), ([], []), ([2], [2]), ([1, 3], [1, 3]), ([4], [4]), ([], []), ([], []), ([7], [7]), ([6, 8], [6, 8]), ([9], [9]), ([5, 10], [5, 10]), ([], []), ([], []), ([13], [13]), ([12, 14], [12, 14]), ([15], [15]), ([11, 16], [11, 16]), ([], []), ([], []), ([19], [19]), ([18, 20], [18, 20]), ([21], [21]), ([17, 22], [17, 22]), ([23], [23]), ([24], [24]), ([0, 25, 24], [0, 25]), ([26, 26, 0, 1, 2, 3, 4, 5, 6, 7, 8, 9, 10, 11, 12, 13, 14, 15, 16, 17, 18, 19, 20, 21, 22, 23, 24, 25, 26], [0, 1, 6, 12, 18, 26])])
def impl_Schedule.B10 : List Nat := [0, 0, 0, 4, 14, 30, 0, 0, 128, 448, 960, 2046, 0, 0, 8192, 28672, 61440, 131070, 0, 0, 524288, 1835008, 3932160, 8388606, 16777214, 33554430, 67108863, 134217727]
theorem impl_Schedule.tab10 : rtab .any (opsOf Try.f68 10) = impl_Schedule.T10 := by kernel_rfl
theorem impl_Schedule.bits10 : waitsOk impl_Schedule.T10.2 impl_Schedule.B10 = true := by kernel_rfl
set_option maxHeartbeats 8000000 in
set_option maxRecDepth 100000 in
theorem impl_Schedule.calls (k : Nat) (a0 : ByteArray) (r : List Int) (w : World) (h : impl_Schedule.f k a0 = some r) :
  Calls Try.prog 68 #[.string a0] w fun e w' => ∃ v0_ : Value, e = .returned (v0_) ∧ Kd.R (Kd.int .i64) 3 w' w.heap.size (fun _ => True) v0_ r ∧ Below w.heap.size w w' := by
 have HB := Aside0.mk (Below.refl w.heap.size w)
 have H : (if (a0.size : Int) = 64 then (impl_Schedule.l0 k a0 ([] : List Int) 0) else (some ([] : List Int))) = some r := h
 clear h
 by_cases c2 : (a0.size : Int) = 64
 ·
  rw [if_pos c2] at H
  have c2b0 : ((a0.size : Int) == 64) = true := beq_iff_eq.mpr c2
  have c2b1 : ((a0.size : Int) != 64) = false := bne_eq_false_iff_eq.mpr c2
  clear c2
  have H' := Aside0.mk H
  clear H
  go_enter Try.func68, Try.ntmps68
  go_wp2
  go_loopg [3, 4] k (fun kq v3 v4 w' => ∃ (x3_1 : List Int) (x4_1 : Int), v4 = .int .i64 x4_1 ∧ Aside0 (impl_Schedule.l0 kq a0 x3_1 x4_1 = some r) ∧ Aside0 (kq ≤ k) ∧ Aside0 (Kd.R (Kd.int .i64) 3 w' w.heap.size (fun _ => True) v3 x3_1) ∧ Aside0 (Below w.heap.size w w'))
  case atStart => exact ⟨(([] : List Int)), (0), (by first | rfl | (simp; done) | (simp [*]; done)), H', ⟨Nat.le_refl _⟩, ⟨by first | exact Kd.R_nil _ _ _ _ _ | exact Kd.N_nil _ _ _ _ _ | exact Kd.V_nil _ _ _ _ _ | exact Kd.Q_nil _ _ _ _ _ | exact Kd.S_nil _ _ _ _ _⟩, ⟨by repeat (first | (with_reducible first | exact HB.out | apply below_alloc | apply pw_below_drewN | apply below_drew1) | exact HB.out)⟩⟩
  case round =>
   clear H'
   try clear c2
   try clear c2b0
   try clear c2b1
   try clear p2
   obtain ⟨x3_1, x4_1, rfl, HA, HK1, HO_3, HB⟩ := hrel
   cases gk with
   | zero => exact absurd HA.out (by simp [impl_Schedule.l0])
   | succ k1 =>
    have H := HA.out
    clear HA
    simp only [impl_Schedule.l0] at H
    by_cases c3 : x4_1 < 80
    ·
     rw [if_pos c3] at H
     have c3b0 : decide (x4_1 < 80) = true := decide_eq_true c3
     clear c3
     by_cases c4 : x4_1 < 16
     ·
      rw [if_pos c4] at H
      have c4b0 : decide (x4_1 < 16) = true := decide_eq_true c4
      clear c4
      obtain ⟨ji5, hji5⟩ : ∃ j_ : Int, (wrap64 (4 * x4_1)) = j_ := ⟨_, rfl⟩
      replace H : (if 0 ≤ (ji5) then (if (ji5) ≤ (wrap64 ((ji5) + 4)) then (if (wrap64 ((ji5) + 4)) ≤ (a0.size : Int) then (if 0 < ((a0.extract ((ji5) : Int).toNat ((wrap64 ((ji5) + 4)) : Int).toNat).size : Int) then (if 1 < ((a0.extract ((ji5) : Int).toNat ((wrap64 ((ji5) + 4)) : Int).toNat).size : Int) then (if 2 < ((a0.extract ((ji5) : Int).toNat ((wrap64 ((ji5) + 4)) : Int).toNat).size : Int) then (if 3 < ((a0.extract ((ji5) : Int).toNat ((wrap64 ((ji5) + 4)) : Int).toNat).size : Int) then (if x3_1.length < 17592186044416 then (impl_Schedule.l0 k1 a0 (x3_1 ++ [Go.bits .or .i64 (Go.bits .or .i64 (Go.bits .or .i64 (wrap64 ((wrap64 (bt (a0.extract ((ji5) : Int).toNat ((wrap64 ((ji5) + 4)) : Int).toNat) 0)) * 16777216)) (wrap64 ((wrap64 (bt (a0.extract ((ji5) : Int).toNat ((wrap64 ((ji5) + 4)) : Int).toNat) 1)) * 65536))) (wrap64 ((wrap64 (bt (a0.extract ((ji5) : Int).toNat ((wrap64 ((ji5) + 4)) : Int).toNat) 2)) * 256))) (wrap64 (bt (a0.extract ((ji5) : Int).toNat ((wrap64 ((ji5) + 4)) : Int).toNat) 3))]) (wrap64 (x4_1 + 1))) else (none)) else (none)) else (none)) else (none)) else (none)) else (none)) else (none)) else (none)) = some r := by first | (rw [hji5] at H; exact H) | (simp only [hji5] at H ⊢; exact H)
      have hji5w : (IntKind.i64.wrap (4 * x4_1)) = ji5 := (i64_w _).trans hji5
      have c6 : 0 ≤ (ji5) := Classical.byContradiction fun h_ => by rw [if_neg h_] at H; exact absurd H (by simp)
      rw [if_pos c6] at H
      have c6b0 := eq_true c6
      have c6b1 : decide (0 ≤ (ji5)) = true := decide_eq_true c6
      clear c6
      have c7 : (ji5) ≤ (wrap64 ((ji5) + 4)) := Classical.byContradiction fun h_ => by rw [if_neg h_] at H; exact absurd H (by simp)
      rw [if_pos c7] at H
      have c7b0 := eq_true c7
      have c7b1 : decide ((ji5) ≤ (wrap64 ((ji5) + 4))) = true := decide_eq_true c7
      have c8 : (wrap64 ((ji5) + 4)) ≤ (a0.size : Int) := Classical.byContradiction fun h_ => by rw [if_neg h_] at H; exact absurd H (by simp)
      rw [if_pos c8] at H
      have c8b0 := eq_true c8
      have c8b1 : decide ((wrap64 ((ji5) + 4)) ≤ (a0.size : Int)) = true := decide_eq_true c8
      have c9 : 0 < ((a0.extract ((ji5) : Int).toNat ((wrap64 ((ji5) + 4)) : Int).toNat).size : Int) := Classical.byContradiction fun h_ => by rw [if_neg h_] at H; exact absurd H (by simp)
      rw [if_pos c9] at H
      have c9b0 : decide (0 < ((a0.extract ((ji5) : Int).toNat ((wrap64 ((ji5) + 4)) : Int).toNat).size : Int)) = true := decide_eq_true c9
      have c9b1 : decide (0 < (a0.extract ((ji5) : Int).toNat ((wrap64 ((ji5) + 4)) : Int).toNat).size) = true := decide_eq_true (by omega)
      clear c9
      have c11 : 1 < ((a0.extract ((ji5) : Int).toNat ((wrap64 ((ji5) + 4)) : Int).toNat).size : Int) := Classical.byContradiction fun h_ => by rw [if_neg h_] at H; exact absurd H (by simp)
      rw [if_pos c11] at H
      have c11b0 : decide (1 < ((a0.extract ((ji5) : Int).toNat ((wrap64 ((ji5) + 4)) : Int).toNat).size : Int)) = true := decide_eq_true c11
      have c11b1 : decide (1 < (a0.extract ((ji5) : Int).toNat ((wrap64 ((ji5) + 4)) : Int).toNat).size) = true := decide_eq_true (by omega)
      clear c11
      have c13 : 2 < ((a0.extract ((ji5) : Int).toNat ((wrap64 ((ji5) + 4)) : Int).toNat).size : Int) := Classical.byContradiction fun h_ => by rw [if_neg h_] at H; exact absurd H (by simp)
      rw [if_pos c13] at H
      have c13b0 : decide (2 < ((a0.extract ((ji5) : Int).toNat ((wrap64 ((ji5) + 4)) : Int).toNat).size : Int)) = true := decide_eq_true c13
      have c13b1 : decide (2 < (a0.extract ((ji5) : Int).toNat ((wrap64 ((ji5) + 4)) : Int).toNat).size) = true := decide_eq_true (by omega)
      clear c13
      have c15 : 3 < ((a0.extract ((ji5) : Int).toNat ((wrap64 ((ji5) + 4)) : Int).toNat).size : Int) := Classical.byContradiction fun h_ => by rw [if_neg h_] at H; exact absurd H (by simp)
      rw [if_pos c15] at H
      have c15b0 : decide (3 < ((a0.extract ((ji5) : Int).toNat ((wrap64 ((ji5) + 4)) : Int).toNat).size : Int)) = true := decide_eq_true c15
      have c15b1 : decide (3 < (a0.extract ((ji5) : Int).toNat ((wrap64 ((ji5) + 4)) : Int).toNat).size) = true := decide_eq_true (by omega)
      clear c15
      have c17 : x3_1.length < 17592186044416 := Classical.byContradiction fun h_ => by rw [if_neg h_] at H; exact absurd H (by simp)
      rw [if_pos c17] at H
      have LMc17 := Aside0.mk c17
      clear c17
      obtain ⟨y107, hy107⟩ : ∃ y_ : List Int, y_ = (x3_1 ++ [Go.bits .or .i64 (Go.bits .or .i64 (Go.bits .or .i64 (wrap64 ((wrap64 (bt (a0.extract ((ji5) : Int).toNat ((wrap64 ((ji5) + 4)) : Int).toNat) 0)) * 16777216)) (wrap64 ((wrap64 (bt (a0.extract ((ji5) : Int).toNat ((wrap64 ((ji5) + 4)) : Int).toNat) 1)) * 65536))) (wrap64 ((wrap64 (bt (a0.extract ((ji5) : Int).toNat ((wrap64 ((ji5) + 4)) : Int).toNat) 2)) * 256))) (wrap64 (bt (a0.extract ((ji5) : Int).toNat ((wrap64 ((ji5) + 4)) : Int).toNat) 3))]) := ⟨_, rfl⟩
      replace H : (impl_Schedule.l0 k1 a0 y107 (wrap64 (x4_1 + 1))) = some r := by first | (rw [hy107]; with_reducible exact H) | (have H2_ := (Option.bind_some _ _).symm.trans H; rw [hy107]; with_reducible exact H2_) | (have H2_ := (Option.bind_some _ _).symm.trans H; with_reducible exact H2_) | with_reducible exact H | (rw [hy107]; exact H) | exact H
      have Ny107 := Aside0.mk hy107
      clear hy107
      have H' := Aside0.mk H
      clear H
      try go_wp2
      have n0_ := Aside0.mk (Kd.R_drew HO_3.out)
      have n1_ := Aside0.mk (below_drew1 HB.out)
      clear HO_3
      clear HB
      have HO_3 := n0_
      have HB := n1_
      clear n0_ n1_
      have p10 : 0 ≤ (0 : Int) := (by omega)
      have q10 : 0 < (a0.extract ((ji5) : Int).toNat ((wrap64 ((ji5) + 4)) : Int).toNat).size := (by have : (0 : Int) < ((a0.extract ((ji5) : Int).toNat ((wrap64 ((ji5) + 4)) : Int).toNat).size : Int) := of_decide_eq_true (by first | (with_reducible assumption) | assumption); omega)
      have hx10 : ∀ h : 0 < (a0.extract ((ji5) : Int).toNat ((wrap64 ((ji5) + 4)) : Int).toNat).size, (((a0.extract ((ji5) : Int).toNat ((wrap64 ((ji5) + 4)) : Int).toNat)[0]'h).toNat : Int) = bt (a0.extract ((ji5) : Int).toNat ((wrap64 ((ji5) + 4)) : Int).toNat) 0 := bt_at (a0.extract ((ji5) : Int).toNat ((wrap64 ((ji5) + 4)) : Int).toNat) 0
      clear p10
      have qi10 : (0 < ((a0.extract ((ji5) : Int).toNat ((wrap64 ((ji5) + 4)) : Int).toNat).size : Int)) = True := eq_true (of_decide_eq_true (by first | (with_reducible assumption) | assumption))
      have qe10 : (0 < ((wrap64 ((ji5) + 4)) : Int).toNat - ((ji5) : Int).toNat) = True := eq_true (by have h_ := q10; have z_ : (a0.extract ((ji5) : Int).toNat ((wrap64 ((ji5) + 4)) : Int).toNat).size ≤ ((wrap64 ((ji5) + 4)) : Int).toNat - ((ji5) : Int).toNat := (by simp only [ByteArray.size_extract]; omega); omega)
      have qg10 : ((0 : Int) < ((((wrap64 ((ji5) + 4)) : Int).toNat - ((ji5) : Int).toNat : Nat) : Int)) = True := eq_true (by have h_ := of_eq_true qe10; omega)
      replace q10 := eq_true q10
      have p12 : 0 ≤ (1 : Int) := (by omega)
      have q12 : 1 < (a0.extract ((ji5) : Int).toNat ((wrap64 ((ji5) + 4)) : Int).toNat).size := (by have : (1 : Int) < ((a0.extract ((ji5) : Int).toNat ((wrap64 ((ji5) + 4)) : Int).toNat).size : Int) := of_decide_eq_true (by first | (with_reducible assumption) | assumption); omega)
      have hx12 : ∀ h : 1 < (a0.extract ((ji5) : Int).toNat ((wrap64 ((ji5) + 4)) : Int).toNat).size, (((a0.extract ((ji5) : Int).toNat ((wrap64 ((ji5) + 4)) : Int).toNat)[1]'h).toNat : Int) = bt (a0.extract ((ji5) : Int).toNat ((wrap64 ((ji5) + 4)) : Int).toNat) 1 := bt_at (a0.extract ((ji5) : Int).toNat ((wrap64 ((ji5) + 4)) : Int).toNat) 1
      clear p12
      have qi12 : (1 < ((a0.extract ((ji5) : Int).toNat ((wrap64 ((ji5) + 4)) : Int).toNat).size : Int)) = True := eq_true (of_decide_eq_true (by first | (with_reducible assumption) | assumption))
      have qe12 : (1 < ((wrap64 ((ji5) + 4)) : Int).toNat - ((ji5) : Int).toNat) = True := eq_true (by have h_ := q12; have z_ : (a0.extract ((ji5) : Int).toNat ((wrap64 ((ji5) + 4)) : Int).toNat).size ≤ ((wrap64 ((ji5) + 4)) : Int).toNat - ((ji5) : Int).toNat := (by simp only [ByteArray.size_extract]; omega); omega)
      have qg12 : ((1 : Int) < ((((wrap64 ((ji5) + 4)) : Int).toNat - ((ji5) : Int).toNat : Nat) : Int)) = True := eq_true (by have h_ := of_eq_true qe12; omega)
      replace q12 := eq_true q12
      have p14 : 0 ≤ (2 : Int) := (by omega)
      have q14 : 2 < (a0.extract ((ji5) : Int).toNat ((wrap64 ((ji5) + 4)) : Int).toNat).size := (by have : (2 : Int) < ((a0.extract ((ji5) : Int).toNat ((wrap64 ((ji5) + 4)) : Int).toNat).size : Int) := of_decide_eq_true (by first | (with_reducible assumption) | assumption); omega)
      have hx14 : ∀ h : 2 < (a0.extract ((ji5) : Int).toNat ((wrap64 ((ji5) + 4)) : Int).toNat).size, (((a0.extract ((ji5) : Int).toNat ((wrap64 ((ji5) + 4)) : Int).toNat)[2]'h).toNat : Int) = bt (a0.extract ((ji5) : Int).toNat ((wrap64 ((ji5) + 4)) : Int).toNat) 2 := bt_at (a0.extract ((ji5) : Int).toNat ((wrap64 ((ji5) + 4)) : Int).toNat) 2
      clear p14
      have qi14 : (2 < ((a0.extract ((ji5) : Int).toNat ((wrap64 ((ji5) + 4)) : Int).toNat).size : Int)) = True := eq_true (of_decide_eq_true (by first | (with_reducible assumption) | assumption))
      have qe14 : (2 < ((wrap64 ((ji5) + 4)) : Int).toNat - ((ji5) : Int).toNat) = True := eq_true (by have h_ := q14; have z_ : (a0.extract ((ji5) : Int).toNat ((wrap64 ((ji5) + 4)) : Int).toNat).size ≤ ((wrap64 ((ji5) + 4)) : Int).toNat - ((ji5) : Int).toNat := (by simp only [ByteArray.size_extract]; omega); omega)
      have qg14 : ((2 : Int) < ((((wrap64 ((ji5) + 4)) : Int).toNat - ((ji5) : Int).toNat : Nat) : Int)) = True := eq_true (by have h_ := of_eq_true qe14; omega)
      replace q14 := eq_true q14
      have p16 : 0 ≤ (3 : Int) := (by omega)
      have q16 : 3 < (a0.extract ((ji5) : Int).toNat ((wrap64 ((ji5) + 4)) : Int).toNat).size := (by have : (3 : Int) < ((a0.extract ((ji5) : Int).toNat ((wrap64 ((ji5) + 4)) : Int).toNat).size : Int) := of_decide_eq_true (by first | (with_reducible assumption) | assumption); omega)
      have hx16 : ∀ h : 3 < (a0.extract ((ji5) : Int).toNat ((wrap64 ((ji5) + 4)) : Int).toNat).size, (((a0.extract ((ji5) : Int).toNat ((wrap64 ((ji5) + 4)) : Int).toNat)[3]'h).toNat : Int) = bt (a0.extract ((ji5) : Int).toNat ((wrap64 ((ji5) + 4)) : Int).toNat) 3 := bt_at (a0.extract ((ji5) : Int).toNat ((wrap64 ((ji5) + 4)) : Int).toNat) 3
      clear p16
      have qi16 : (3 < ((a0.extract ((ji5) : Int).toNat ((wrap64 ((ji5) + 4)) : Int).toNat).size : Int)) = True := eq_true (of_decide_eq_true (by first | (with_reducible assumption) | assumption))
      have qe16 : (3 < ((wrap64 ((ji5) + 4)) : Int).toNat - ((ji5) : Int).toNat) = True := eq_true (by have h_ := q16; have z_ : (a0.extract ((ji5) : Int).toNat ((wrap64 ((ji5) + 4)) : Int).toNat).size ≤ ((wrap64 ((ji5) + 4)) : Int).toNat - ((ji5) : Int).toNat := (by simp only [ByteArray.size_extract]; omega); omega)
      have qg16 : ((3 : Int) < ((((wrap64 ((ji5) + 4)) : Int).toNat - ((ji5) : Int).toNat : Nat) : Int)) = True := eq_true (by have h_ := of_eq_true qe16; omega)
      replace q16 := eq_true q16
      refine start_ (n := 22) (S := fun w' => True) (ds := []) #[false, false, false, false, false, false, false, false, false, false, false, false, false, false, false, false, false, false, false, false, false, false] (by kernel_rfl) rfl rfl trivial (fun hHeld => ?_); refine with_tabW impl_Schedule.tab9 impl_Schedule.bits9 (fun HT_ HW_ => ?_)
      generalize wr.drew = w18 at HO_3 HB hHeld ⊢
      refine pure_ (i := 0) (N := some 22) (v := ?_) (a' := ?_) #[true, false, false, false, false, false, false, false, false, false, false, false, false, false, false, false, false, false, false, false, false, false] rfl rfl (any_of HT_.out (by kernel_rfl)) (fun _ _ _ h => h) (Or.inl ⟨by rfl, ?_⟩) ?_ ?_
      rotate_left
      ·
       intro w'
       go_simp
       with_reducible rfl
      rotate_left
      ·
       simp only [Act.put, List.setIfInBounds_toArray, List.set_cons_zero, List.set_cons_succ, i64_w, i32_w]
       rfl
      refine pure_ (i := 1) (N := some 23) (v := ?_) (a' := ?_) #[true, true, false, false, false, false, false, false, false, false, false, false, false, false, false, false, false, false, false, false, false, false] rfl rfl (any_of HT_.out (by kernel_rfl)) (fun _ _ _ h => h) (Or.inl ⟨by rfl, ?_⟩) ?_ ?_
      rotate_left
      ·
       intro w'
       go_simp
       with_reducible rfl
      rotate_left
      ·
       simp only [Act.put, List.setIfInBounds_toArray, List.set_cons_zero, List.set_cons_succ, i64_w, i32_w]
       rfl
      refine pure_ (i := 5) (N := some 27) (v := ?_) (a' := ?_) #[true, true, false, false, false, true, false, false, false, false, false, false, false, false, false, false, false, false, false, false, false, false] rfl rfl (any_of HT_.out (by kernel_rfl)) (fun _ _ _ h => h) (Or.inl ⟨by rfl, ?_⟩) ?_ ?_
      rotate_left
      ·
       intro w'
       go_simp
       with_reducible rfl
      rotate_left
      ·
       simp only [Act.put, List.setIfInBounds_toArray, List.set_cons_zero, List.set_cons_succ, i64_w, i32_w]
       rfl
      refine pure_ (i := 10) (N := some 32) (v := ?_) (a' := ?_) #[true, true, false, false, false, true, false, false, false, false, true, false, false, false, false, false, false, false, false, false, false, false] rfl rfl (any_of HT_.out (by kernel_rfl)) (fun _ _ _ h => h) (Or.inl ⟨by rfl, ?_⟩) ?_ ?_
      rotate_left
      ·
       intro w'
       go_simp
       with_reducible rfl
      rotate_left
      ·
       simp only [Act.put, List.setIfInBounds_toArray, List.set_cons_zero, List.set_cons_succ, i64_w, i32_w]
       rfl
      refine pure_ (i := 15) (N := some 37) (v := ?_) (a' := ?_) #[true, true, false, false, false, true, false, false, false, false, true, false, false, false, false, true, false, false, false, false, false, false] rfl rfl (any_of HT_.out (by kernel_rfl)) (fun _ _ _ h => h) (Or.inl ⟨by rfl, ?_⟩) ?_ ?_
      rotate_left
      ·
       intro w'
       go_simp
       with_reducible rfl
      rotate_left
      ·
       simp only [Act.put, List.setIfInBounds_toArray, List.set_cons_zero, List.set_cons_succ, i64_w, i32_w]
       rfl
      refine take_ (i := 2) (N := some 24) (v := ?_) (a' := ?_) #[true, true, true, false, false, true, false, false, false, false, true, false, false, false, false, true, false, false, false, false, false, false] rfl rfl (take_ofW HT_.out HW_.out (by kernel_rfl)) (fun _ _ _ h => h) (Or.inl ⟨by rfl, ?_⟩) hHeld ?_ ?_
      rotate_left
      ·
       intro w' _
       go_simp
       with_reducible rfl
      rotate_left
      ·
       simp only [Act.put, List.setIfInBounds_toArray, List.set_cons_zero, List.set_cons_succ, i64_w, i32_w]
       rfl
      refine pure_ (i := 3) (N := some 25) (v := ?_) (a' := ?_) #[true, true, true, true, false, true, false, false, false, false, true, false, false, false, false, true, false, false, false, false, false, false] rfl rfl (any_of HT_.out (by kernel_rfl)) (fun _ _ _ h => h) (Or.inl ⟨by rfl, ?_⟩) ?_ ?_
      rotate_left
      ·
       intro w'
       go_simp
       with_reducible rfl
      rotate_left
      ·
       simp only [Act.put, List.setIfInBounds_toArray, List.set_cons_zero, List.set_cons_succ, i64_w, i32_w]
       rfl
      refine pure_ (i := 4) (N := some 26) (v := ?_) (a' := ?_) #[true, true, true, true, true, true, false, false, false, false, true, false, false, false, false, true, false, false, false, false, false, false] rfl rfl (any_of HT_.out (by kernel_rfl)) (fun _ _ _ h => h) (Or.inl ⟨by rfl, ?_⟩) ?_ ?_
      rotate_left
      ·
       intro w'
       go_simp
       with_reducible rfl
      rotate_left
      ·
       simp only [Act.put, List.setIfInBounds_toArray, List.set_cons_zero, List.set_cons_succ, i64_w, i32_w]
       rfl
      refine take_ (i := 6) (N := some 28) (v := ?_) (a' := ?_) #[true, true, true, true, true, true, true, false, false, false, true, false, false, false, false, true, false, false, false, false, false, false] rfl rfl (take_ofW HT_.out HW_.out (by kernel_rfl)) (fun _ _ _ h => h) (Or.inl ⟨by rfl, ?_⟩) hHeld ?_ ?_
      rotate_left
      ·
       intro w' _
       go_simp
       with_reducible rfl
      rotate_left
      ·
       simp only [Act.put, List.setIfInBounds_toArray, List.set_cons_zero, List.set_cons_succ, i64_w, i32_w]
       rfl
      refine pure_ (i := 7) (N := some 29) (v := ?_) (a' := ?_) #[true, true, true, true, true, true, true, true, false, false, true, false, false, false, false, true, false, false, false, false, false, false] rfl rfl (any_of HT_.out (by kernel_rfl)) (fun _ _ _ h => h) (Or.inl ⟨by rfl, ?_⟩) ?_ ?_
      rotate_left
      ·
       intro w'
       go_simp
       with_reducible rfl
      rotate_left
      ·
       simp only [Act.put, List.setIfInBounds_toArray, List.set_cons_zero, List.set_cons_succ, i64_w, i32_w]
       rfl
      refine pure_ (i := 8) (N := some 30) (v := ?_) (a' := ?_) #[true, true, true, true, true, true, true, true, true, false, true, false, false, false, false, true, false, false, false, false, false, false] rfl rfl (any_of HT_.out (by kernel_rfl)) (fun _ _ _ h => h) (Or.inl ⟨by rfl, ?_⟩) ?_ ?_
      rotate_left
      ·
       intro w'
       go_simp
       with_reducible rfl
      rotate_left
      ·
       simp only [Act.put, List.setIfInBounds_toArray, List.set_cons_zero, List.set_cons_succ, i64_w, i32_w]
       rfl
      refine pure_ (i := 9) (N := some 31) (v := ?_) (a' := ?_) #[true, true, true, true, true, true, true, true, true, true, true, false, false, false, false, true, false, false, false, false, false, false] rfl rfl (any_of HT_.out (by kernel_rfl)) (fun _ _ _ h => h) (Or.inl ⟨by rfl, ?_⟩) ?_ ?_
      rotate_left
      ·
       intro w'
       go_simp
       with_reducible rfl
      rotate_left
      ·
       simp only [Act.put, List.setIfInBounds_toArray, List.set_cons_zero, List.set_cons_succ, i64_w, i32_w]
       rfl
      refine take_ (i := 11) (N := some 33) (v := ?_) (a' := ?_) #[true, true, true, true, true, true, true, true, true, true, true, true, false, false, false, true, false, false, false, false, false, false] rfl rfl (take_ofW HT_.out HW_.out (by kernel_rfl)) (fun _ _ _ h => h) (Or.inl ⟨by rfl, ?_⟩) hHeld ?_ ?_
      rotate_left
      ·
       intro w' _
       go_simp
       with_reducible rfl
      rotate_left
      ·
       simp only [Act.put, List.setIfInBounds_toArray, List.set_cons_zero, List.set_cons_succ, i64_w, i32_w]
       rfl
      refine pure_ (i := 12) (N := some 34) (v := ?_) (a' := ?_) #[true, true, true, true, true, true, true, true, true, true, true, true, true, false, false, true, false, false, false, false, false, false] rfl rfl (any_of HT_.out (by kernel_rfl)) (fun _ _ _ h => h) (Or.inl ⟨by rfl, ?_⟩) ?_ ?_
      rotate_left
      ·
       intro w'
       go_simp
       with_reducible rfl
      rotate_left
      ·
       simp only [Act.put, List.setIfInBounds_toArray, List.set_cons_zero, List.set_cons_succ, i64_w, i32_w]
       rfl
      refine pure_ (i := 13) (N := some 35) (v := ?_) (a' := ?_) #[true, true, true, true, true, true, true, true, true, true, true, true, true, true, false, true, false, false, false, false, false, false] rfl rfl (any_of HT_.out (by kernel_rfl)) (fun _ _ _ h => h) (Or.inl ⟨by rfl, ?_⟩) ?_ ?_
      rotate_left
      ·
       intro w'
       go_simp
       with_reducible rfl
      rotate_left
      ·
       simp only [Act.put, List.setIfInBounds_toArray, List.set_cons_zero, List.set_cons_succ, i64_w, i32_w]
       rfl
      refine pure_ (i := 14) (N := some 36) (v := ?_) (a' := ?_) #[true, true, true, true, true, true, true, true, true, true, true, true, true, true, true, true, false, false, false, false, false, false] rfl rfl (any_of HT_.out (by kernel_rfl)) (fun _ _ _ h => h) (Or.inl ⟨by rfl, ?_⟩) ?_ ?_
      rotate_left
      ·
       intro w'
       go_simp
       with_reducible rfl
      rotate_left
      ·
       simp only [Act.put, List.setIfInBounds_toArray, List.set_cons_zero, List.set_cons_succ, i64_w, i32_w]
       rfl
      refine take_ (i := 16) (N := some 38) (v := ?_) (a' := ?_) #[true, true, true, true, true, true, true, true, true, true, true, true, true, true, true, true, true, false, false, false, false, false] rfl rfl (take_ofW HT_.out HW_.out (by kernel_rfl)) (fun _ _ _ h => h) (Or.inl ⟨by rfl, ?_⟩) hHeld ?_ ?_
      rotate_left
      ·
       intro w' _
       go_simp
       with_reducible rfl
      rotate_left
      ·
       simp only [Act.put, List.setIfInBounds_toArray, List.set_cons_zero, List.set_cons_succ, i64_w, i32_w]
       rfl
      refine pure_ (i := 17) (N := some 39) (v := ?_) (a' := ?_) #[true, true, true, true, true, true, true, true, true, true, true, true, true, true, true, true, true, true, false, false, false, false] rfl rfl (any_of HT_.out (by kernel_rfl)) (fun _ _ _ h => h) (Or.inl ⟨by rfl, ?_⟩) ?_ ?_
      rotate_left
      ·
       intro w'
       go_simp
       with_reducible rfl
      rotate_left
      ·
       simp only [Act.put, List.setIfInBounds_toArray, List.set_cons_zero, List.set_cons_succ, i64_w, i32_w]
       rfl
      refine pure_ (i := 18) (N := some 40) (v := ?_) (a' := ?_) #[true, true, true, true, true, true, true, true, true, true, true, true, true, true, true, true, true, true, true, false, false, false] rfl rfl (any_of HT_.out (by kernel_rfl)) (fun _ _ _ h => h) (Or.inl ⟨by rfl, ?_⟩) ?_ ?_
      rotate_left
      ·
       intro w'
       go_simp
       with_reducible rfl
      rotate_left
      ·
       simp only [Act.put, List.setIfInBounds_toArray, List.set_cons_zero, List.set_cons_succ, i64_w, i32_w]
       rfl
      refine one_ (i := 19) (N := some 41) #[true, true, true, true, true, true, true, true, true, true, true, true, true, true, true, true, true, true, true, true, false, false] rfl rfl (one_of HT_.out (by kernel_rfl)) (by decide) (fun K hK => ?_)
      refine value_ (w1 := ?_) (v := ?_) (by rfl) rfl ?_ ?_
      rotate_left 2
      ·
       go_simp
       constructor
       ·
        rfl
       ·
        rfl
      refine hK.out _ _ trivial (fun hHeld => ?_)
      clear hK K
      refine norm_ (a' := ?_) ?_ ?_
      rotate_left
      ·
       show Act.put _ (some 41) _ = _
       simp only [Act.put, List.setIfInBounds_toArray, List.set_cons_zero, List.set_cons_succ, i64_w, i32_w]
       rfl
      refine one_ (i := 20) (N := some 42) #[true, true, true, true, true, true, true, true, true, true, true, true, true, true, true, true, true, true, true, true, true, false] rfl rfl (one_of HT_.out (by kernel_rfl)) (by decide) (fun K hK => ?_)
      refine Kd.R_append_step (Kd.int .i64) (w0 := w) w.heap.size (by rfl) (.tmp 22) (.tmp 41) 33 3 (.int .i64 0) 8 rfl Try.underlying33 info3 rfl (by decide) (by omega) u3 x3_1 (Go.bits .or .i64 (Go.bits .or .i64 (Go.bits .or .i64 (wrap64 ((wrap64 (bt (a0.extract ((ji5) : Int).toNat ((wrap64 ((ji5) + 4)) : Int).toNat) 0)) * 16777216)) (wrap64 ((wrap64 (bt (a0.extract ((ji5) : Int).toNat ((wrap64 ((ji5) + 4)) : Int).toNat) 1)) * 65536))) (wrap64 ((wrap64 (bt (a0.extract ((ji5) : Int).toNat ((wrap64 ((ji5) + 4)) : Int).toNat) 2)) * 256))) (wrap64 (bt (a0.extract ((ji5) : Int).toNat ((wrap64 ((ji5) + 4)) : Int).toNat) 3))) [.int .i64 (Go.bits .or .i64 (Go.bits .or .i64 (Go.bits .or .i64 (wrap64 ((wrap64 (bt (a0.extract ((ji5) : Int).toNat ((wrap64 ((ji5) + 4)) : Int).toNat) 0)) * 16777216)) (wrap64 ((wrap64 (bt (a0.extract ((ji5) : Int).toNat ((wrap64 ((ji5) + 4)) : Int).toNat) 1)) * 65536))) (wrap64 ((wrap64 (bt (a0.extract ((ji5) : Int).toNat ((wrap64 ((ji5) + 4)) : Int).toNat) 2)) * 256))) (wrap64 (bt (a0.extract ((ji5) : Int).toNat ((wrap64 ((ji5) + 4)) : Int).toNat) 3)))] (fun _ => True) (fun _ => False) rfl rfl ?aP (fun _ hk => hk.elim) ?aF ?aO ?aB ?aS ?aL ?_
      (case aP => exact rfl)
      (case aB => exact (by repeat (first | (with_reducible first | exact HB.out | apply below_alloc | apply pw_below_drewN | apply below_drew1) | exact HB.out)))
      (case aF => exact (fun _ _ => trivial))
      (case aO => exact (by (with_reducible repeat (first | apply Kd.R_alloc | apply Kd.R_drewN | apply Kd.R_drew)); exact HO_3.out))
      (case aS => exact (below_size (by repeat (first | (with_reducible first | exact HB.out | apply below_alloc | apply pw_below_drewN | apply below_drew1) | exact HB.out))))
      (case aL => have := LMc17.out; omega)
      intro v108 w19 ho hb hg hat
      rw [← Ny107.out] at ho
      have n0_ := Aside0.mk (hb)
      have n1_ := Aside0.mk (ho)
      clear HB
      clear HO_3
      have HB := n0_
      have HO109 := n1_
      clear n0_ n1_
      clear ho hb hg hat
      refine hK.out _ _ trivial (fun hHeld => ?_)
      clear hK K
      refine norm_ (a' := ?_) ?_ ?_
      rotate_left
      ·
       show Act.put _ (some 42) _ = _
       simp only [Act.put, List.setIfInBounds_toArray, List.set_cons_zero, List.set_cons_succ, i64_w, i32_w]
       rfl
      refine pure_ (i := 21) (N := some 3) (v := ?_) (a' := ?_) #[true, true, true, true, true, true, true, true, true, true, true, true, true, true, true, true, true, true, true, true, true, true] rfl rfl (any_of HT_.out (by kernel_rfl)) (fun _ _ _ h => h) (Or.inl ⟨by rfl, ?_⟩) ?_ ?_
      rotate_left
      ·
       intro w'
       go_simp
       with_reducible rfl
      rotate_left
      ·
       simp only [Act.put, List.setIfInBounds_toArray, List.set_cons_zero, List.set_cons_succ, i64_w, i32_w]
       rfl
      refine done_ (done_of HT_.out (by kernel_rfl)) ?_
      try go_wp2
      go_roundg k1
      case measure => have := HK1.out; omega
      case rel => exact ⟨(y107), (wrap64 (x4_1 + 1)), (by first | rfl | (simp; done) | (simp [*]; done)), H', ⟨by have := HK1.out; omega⟩, ⟨by (with_reducible repeat (first | apply Kd.R_alloc | apply Kd.R_drewN | apply Kd.R_drew)); exact HO109.out⟩, ⟨by repeat (first | (with_reducible first | exact HB.out | apply below_alloc | apply pw_below_drewN | apply below_drew1) | exact HB.out)⟩⟩
     ·
      rw [if_neg c4] at H
      have c4b0 : decide (x4_1 < 16) = false := decide_eq_false c4
      clear c4
      obtain ⟨ji20, hji20⟩ : ∃ j_ : Int, (wrap64 (x4_1 - 3)) = j_ := ⟨_, rfl⟩
      replace H : (if 0 ≤ (ji20) then (if (ji20) < (x3_1.length : Int) then (if 0 ≤ (wrap64 (x4_1 - 8)) then (if (wrap64 (x4_1 - 8)) < (x3_1.length : Int) then (if 0 ≤ (wrap64 (x4_1 - 14)) then (if (wrap64 (x4_1 - 14)) < (x3_1.length : Int) then (if 0 ≤ (wrap64 (x4_1 - 16)) then (if (wrap64 (x4_1 - 16)) < (x3_1.length : Int) then ((impl_turn.f (Go.bits .xor .i64 (Go.bits .xor .i64 (Go.bits .xor .i64 (rd x3_1 (ji20)) (rd x3_1 (wrap64 (x4_1 - 8)))) (rd x3_1 (wrap64 (x4_1 - 14)))) (rd x3_1 (wrap64 (x4_1 - 16)))) 1).bind fun t114 => (if x3_1.length < 17592186044416 then (impl_Schedule.l0 k1 a0 (x3_1 ++ [t114]) (wrap64 (x4_1 + 1))) else (none))) else (none)) else (none)) else (none)) else (none)) else (none)) else (none)) else (none)) else (none)) = some r := by first | (rw [hji20] at H; exact H) | (simp only [hji20] at H ⊢; exact H)
      have hji20w : (IntKind.i64.wrap (x4_1 - 3)) = ji20 := (i64_w _).trans hji20
      have c21 : 0 ≤ (ji20) := Classical.byContradiction fun h_ => by rw [if_neg h_] at H; exact absurd H (by simp)
      rw [if_pos c21] at H
      have c21b0 : decide (0 ≤ (ji20)) = true := decide_eq_true c21
      clear c21
      have c22 : (ji20) < (x3_1.length : Int) := Classical.byContradiction fun h_ => by rw [if_neg h_] at H; exact absurd H (by simp)
      rw [if_pos c22] at H
      have c22b0 : decide ((ji20) < (x3_1.length : Int)) = true := decide_eq_true c22
      clear c22
      obtain ⟨ji23, hji23⟩ : ∃ j_ : Int, (wrap64 (x4_1 - 8)) = j_ := ⟨_, rfl⟩
      replace H : (if 0 ≤ (ji23) then (if (ji23) < (x3_1.length : Int) then (if 0 ≤ (wrap64 (x4_1 - 14)) then (if (wrap64 (x4_1 - 14)) < (x3_1.length : Int) then (if 0 ≤ (wrap64 (x4_1 - 16)) then (if (wrap64 (x4_1 - 16)) < (x3_1.length : Int) then ((impl_turn.f (Go.bits .xor .i64 (Go.bits .xor .i64 (Go.bits .xor .i64 (rd x3_1 (ji20)) (rd x3_1 (ji23))) (rd x3_1 (wrap64 (x4_1 - 14)))) (rd x3_1 (wrap64 (x4_1 - 16)))) 1).bind fun t114 => (if x3_1.length < 17592186044416 then (impl_Schedule.l0 k1 a0 (x3_1 ++ [t114]) (wrap64 (x4_1 + 1))) else (none))) else (none)) else (none)) else (none)) else (none)) else (none)) else (none)) = some r := by first | (rw [hji23] at H; exact H) | (simp only [hji23] at H ⊢; exact H)
      have hji23w : (IntKind.i64.wrap (x4_1 - 8)) = ji23 := (i64_w _).trans hji23
      have c24 : 0 ≤ (ji23) := Classical.byContradiction fun h_ => by rw [if_neg h_] at H; exact absurd H (by simp)
      rw [if_pos c24] at H
      have c24b0 : decide (0 ≤ (ji23)) = true := decide_eq_true c24
      clear c24
      have c25 : (ji23) < (x3_1.length : Int) := Classical.byContradiction fun h_ => by rw [if_neg h_] at H; exact absurd H (by simp)
      rw [if_pos c25] at H
      have c25b0 : decide ((ji23) < (x3_1.length : Int)) = true := decide_eq_true c25
      clear c25
      obtain ⟨ji26, hji26⟩ : ∃ j_ : Int, (wrap64 (x4_1 - 14)) = j_ := ⟨_, rfl⟩
      replace H : (if 0 ≤ (ji26) then (if (ji26) < (x3_1.length : Int) then (if 0 ≤ (wrap64 (x4_1 - 16)) then (if (wrap64 (x4_1 - 16)) < (x3_1.length : Int) then ((impl_turn.f (Go.bits .xor .i64 (Go.bits .xor .i64 (Go.bits .xor .i64 (rd x3_1 (ji20)) (rd x3_1 (ji23))) (rd x3_1 (ji26))) (rd x3_1 (wrap64 (x4_1 - 16)))) 1).bind fun t114 => (if x3_1.length < 17592186044416 then (impl_Schedule.l0 k1 a0 (x3_1 ++ [t114]) (wrap64 (x4_1 + 1))) else (none))) else (none)) else (none)) else (none)) else (none)) = some r := by first | (rw [hji26] at H; exact H) | (simp only [hji26] at H ⊢; exact H)
      have hji26w : (IntKind.i64.wrap (x4_1 - 14)) = ji26 := (i64_w _).trans hji26
      have c27 : 0 ≤ (ji26) := Classical.byContradiction fun h_ => by rw [if_neg h_] at H; exact absurd H (by simp)
      rw [if_pos c27] at H
      have c27b0 : decide (0 ≤ (ji26)) = true := decide_eq_true c27
      clear c27
      have c28 : (ji26) < (x3_1.length : Int) := Classical.byContradiction fun h_ => by rw [if_neg h_] at H; exact absurd H (by simp)
      rw [if_pos c28] at H
      have c28b0 : decide ((ji26) < (x3_1.length : Int)) = true := decide_eq_true c28
      clear c28
      obtain ⟨ji29, hji29⟩ : ∃ j_ : Int, (wrap64 (x4_1 - 16)) = j_ := ⟨_, rfl⟩
      replace H : (if 0 ≤ (ji29) then (if (ji29) < (x3_1.length : Int) then ((impl_turn.f (Go.bits .xor .i64 (Go.bits .xor .i64 (Go.bits .xor .i64 (rd x3_1 (ji20)) (rd x3_1 (ji23))) (rd x3_1 (ji26))) (rd x3_1 (ji29))) 1).bind fun t114 => (if x3_1.length < 17592186044416 then (impl_Schedule.l0 k1 a0 (x3_1 ++ [t114]) (wrap64 (x4_1 + 1))) else (none))) else (none)) else (none)) = some r := by first | (rw [hji29] at H; exact H) | (simp only [hji29] at H ⊢; exact H)
      have hji29w : (IntKind.i64.wrap (x4_1 - 16)) = ji29 := (i64_w _).trans hji29
      have c30 : 0 ≤ (ji29) := Classical.byContradiction fun h_ => by rw [if_neg h_] at H; exact absurd H (by simp)
      rw [if_pos c30] at H
      have c30b0 : decide (0 ≤ (ji29)) = true := decide_eq_true c30
      clear c30
      have c31 : (ji29) < (x3_1.length : Int) := Classical.byContradiction fun h_ => by rw [if_neg h_] at H; exact absurd H (by simp)
      rw [if_pos c31] at H
      have c31b0 : decide ((ji29) < (x3_1.length : Int)) = true := decide_eq_true c31
      clear c31
      replace H := Option.bind_eq_some_iff.mp H
      obtain ⟨t114, A320, H⟩ := H
      replace H : (if x3_1.length < 17592186044416 then (impl_Schedule.l0 k1 a0 (x3_1 ++ [t114]) (wrap64 (x4_1 + 1))) else (none)) = some r := H
      have A32 := Aside0.mk A320
      clear A320
      have c33 : x3_1.length < 17592186044416 := Classical.byContradiction fun h_ => by rw [if_neg h_] at H; exact absurd H (by simp)
      rw [if_pos c33] at H
      have LMc33 := Aside0.mk c33
      clear c33
      obtain ⟨y115, hy115⟩ : ∃ y_ : List Int, y_ = (x3_1 ++ [t114]) := ⟨_, rfl⟩
      replace H : (impl_Schedule.l0 k1 a0 y115 (wrap64 (x4_1 + 1))) = some r := by first | (rw [hy115]; with_reducible exact H) | (have H2_ := (Option.bind_some _ _).symm.trans H; rw [hy115]; with_reducible exact H2_) | (have H2_ := (Option.bind_some _ _).symm.trans H; with_reducible exact H2_) | with_reducible exact H | (rw [hy115]; exact H) | exact H
      have Ny115 := Aside0.mk hy115
      clear hy115
      have H' := Aside0.mk H
      clear H
      try go_wp2
      have n0_ := Aside0.mk (Kd.R_drew HO_3.out)
      have n1_ := Aside0.mk (below_drew1 HB.out)
      clear HO_3
      clear HB
      have HO_3 := n0_
      have HB := n1_
      clear n0_ n1_
      obtain ⟨Ao35, co35, eo35⟩ := Kd.R_slice HO_3.out
      (first | subst eo35 | (injection eo35 with f1_ f2_ f3_; have f4_ := f1_.symm; have f5_ := f3_.symm; clear f1_ f2_ f3_; subst f4_; subst f5_))
      have p110 : 0 ≤ ((ji20) : Int) := of_decide_eq_true (by first | (with_reducible assumption) | assumption)
      have q110 : (ji20) < (x3_1.length : Int) := of_decide_eq_true (by first | (with_reducible assumption) | assumption)
      obtain ⟨ad110, e110, hx110_0⟩ := Kd.at_int (Kd.R_reads' HO_3.out).2.2 (ji20) p110 q110
      cases e110
      replace p110 := eq_true p110
      replace q110 := eq_true q110
      have p111 : 0 ≤ ((ji23) : Int) := of_decide_eq_true (by first | (with_reducible assumption) | assumption)
      have q111 : (ji23) < (x3_1.length : Int) := of_decide_eq_true (by first | (with_reducible assumption) | assumption)
      obtain ⟨ad111, e111, hx111_0⟩ := Kd.at_int (Kd.R_reads' HO_3.out).2.2 (ji23) p111 q111
      obtain rfl : ad110 = ad111 := (by injection e111)
      replace p111 := eq_true p111
      replace q111 := eq_true q111
      have p112 : 0 ≤ ((ji26) : Int) := of_decide_eq_true (by first | (with_reducible assumption) | assumption)
      have q112 : (ji26) < (x3_1.length : Int) := of_decide_eq_true (by first | (with_reducible assumption) | assumption)
      obtain ⟨ad112, e112, hx112_0⟩ := Kd.at_int (Kd.R_reads' HO_3.out).2.2 (ji26) p112 q112
      obtain rfl : ad110 = ad112 := (by injection e112)
      replace p112 := eq_true p112
      replace q112 := eq_true q112
      have p113 : 0 ≤ ((ji29) : Int) := of_decide_eq_true (by first | (with_reducible assumption) | assumption)
      have q113 : (ji29) < (x3_1.length : Int) := of_decide_eq_true (by first | (with_reducible assumption) | assumption)
      obtain ⟨ad113, e113, hx113_0⟩ := Kd.at_int (Kd.R_reads' HO_3.out).2.2 (ji29) p113 q113
      obtain rfl : ad110 = ad113 := (by injection e113)
      replace p113 := eq_true p113
      replace q113 := eq_true q113
      refine start_ (n := 28) (S := fun w' => w'.cell? (ad110.add ((ji20)).toNat) = some (.int .i64 (rd x3_1 (ji20))) ∧ w'.cell? (ad110.add ((ji23)).toNat) = some (.int .i64 (rd x3_1 (ji23))) ∧ w'.cell? (ad110.add ((ji26)).toNat) = some (.int .i64 (rd x3_1 (ji26))) ∧ w'.cell? (ad110.add ((ji29)).toNat) = some (.int .i64 (rd x3_1 (ji29)))) (ds := [25, 26]) #[false, false, false, false, false, false, false, false, false, false, false, false, false, false, false, false, false, false, false, false, false, false, false, false, false, false, false, false] (by kernel_rfl) rfl rfl ⟨hx110_0, hx111_0, hx112_0, hx113_0⟩ (fun hHeld => ?_); refine with_tabW impl_Schedule.tab10 impl_Schedule.bits10 (fun HT_ HW_ => ?_)
      generalize wr.drew = w34 at HO_3 HB hx110_0 hx111_0 hx112_0 hx113_0 hHeld ⊢
      refine pure_ (i := 0) (N := some 43) (v := ?_) (a' := ?_) #[true, false, false, false, false, false, false, false, false, false, false, false, false, false, false, false, false, false, false, false, false, false, false, false, false, false, false, false] rfl rfl (any_of HT_.out (by kernel_rfl)) (fun _ _ _ h => h) (Or.inl ⟨by rfl, ?_⟩) ?_ ?_
      rotate_left
      ·
       intro w'
       go_simp
       with_reducible rfl
      rotate_left
      ·
       simp only [Act.put, List.setIfInBounds_toArray, List.set_cons_zero, List.set_cons_succ, i64_w, i32_w]
       rfl
      refine pure_ (i := 1) (N := some 44) (v := ?_) (a' := ?_) #[true, true, false, false, false, false, false, false, false, false, false, false, false, false, false, false, false, false, false, false, false, false, false, false, false, false, false, false] rfl rfl (any_of HT_.out (by kernel_rfl)) (fun _ _ _ h => h) (Or.inl ⟨by rfl, ?_⟩) ?_ ?_
      rotate_left
      ·
       intro w'
       go_simp
       with_reducible rfl
      rotate_left
      ·
       simp only [Act.put, List.setIfInBounds_toArray, List.set_cons_zero, List.set_cons_succ, i64_w, i32_w]
       rfl
      refine pure_ (i := 2) (N := some 45) (v := ?_) (a' := ?_) #[true, true, true, false, false, false, false, false, false, false, false, false, false, false, false, false, false, false, false, false, false, false, false, false, false, false, false, false] rfl rfl (any_of HT_.out (by kernel_rfl)) (fun _ _ _ h => h) (Or.inl ⟨by rfl, ?_⟩) ?_ ?_
      rotate_left
      ·
       intro w'
       go_simp
       with_reducible rfl
      rotate_left
      ·
       simp only [Act.put, List.setIfInBounds_toArray, List.set_cons_zero, List.set_cons_succ, i64_w, i32_w]
       rfl
      refine pure_ (i := 3) (N := some 46) (v := ?_) (a' := ?_) #[true, true, true, true, false, false, false, false, false, false, false, false, false, false, false, false, false, false, false, false, false, false, false, false, false, false, false, false] rfl rfl (any_of HT_.out (by kernel_rfl)) (fun _ _ _ h => h) (Or.inl ⟨by rfl, ?_⟩) ?_ ?_
      rotate_left
      ·
       intro w'
       go_simp
       with_reducible rfl
      rotate_left
      ·
       simp only [Act.put, List.setIfInBounds_toArray, List.set_cons_zero, List.set_cons_succ, i64_w, i32_w]
       rfl
      refine pure_ (i := 4) (N := some 47) (v := ?_) (a' := ?_) #[true, true, true, true, true, false, false, false, false, false, false, false, false, false, false, false, false, false, false, false, false, false, false, false, false, false, false, false] rfl rfl (any_of HT_.out (by kernel_rfl)) (fun _ _ _ h => h) (Or.inl ⟨by rfl, ?_⟩) ?_ ?_
      rotate_left
      ·
       intro w'
       go_simp
       with_reducible rfl
      rotate_left
      ·
       simp only [Act.put, List.setIfInBounds_toArray, List.set_cons_zero, List.set_cons_succ, i64_w, i32_w]
       rfl
      refine pure_ (i := 6) (N := some 49) (v := ?_) (a' := ?_) #[true, true, true, true, true, false, true, false, false, false, false, false, false, false, false, false, false, false, false, false, false, false, false, false, false, false, false, false] rfl rfl (any_of HT_.out (by kernel_rfl)) (fun _ _ _ h => h) (Or.inl ⟨by rfl, ?_⟩) ?_ ?_
      rotate_left
      ·
       intro w'
       go_simp
       with_reducible rfl
      rotate_left
      ·
       simp only [Act.put, List.setIfInBounds_toArray, List.set_cons_zero, List.set_cons_succ, i64_w, i32_w]
       rfl
      refine pure_ (i := 7) (N := some 50) (v := ?_) (a' := ?_) #[true, true, true, true, true, false, true, true, false, false, false, false, false, false, false, false, false, false, false, false, false, false, false, false, false, false, false, false] rfl rfl (any_of HT_.out (by kernel_rfl)) (fun _ _ _ h => h) (Or.inl ⟨by rfl, ?_⟩) ?_ ?_
      rotate_left
      ·
       intro w'
       go_simp
       with_reducible rfl
      rotate_left
      ·
       simp only [Act.put, List.setIfInBounds_toArray, List.set_cons_zero, List.set_cons_succ, i64_w, i32_w]
       rfl
      refine pure_ (i := 8) (N := some 51) (v := ?_) (a' := ?_) #[true, true, true, true, true, false, true, true, true, false, false, false, false, false, false, false, false, false, false, false, false, false, false, false, false, false, false, false] rfl rfl (any_of HT_.out (by kernel_rfl)) (fun _ _ _ h => h) (Or.inl ⟨by rfl, ?_⟩) ?_ ?_
      rotate_left
      ·
       intro w'
       go_simp
       with_reducible rfl
      rotate_left
      ·
       simp only [Act.put, List.setIfInBounds_toArray, List.set_cons_zero, List.set_cons_succ, i64_w, i32_w]
       rfl
      refine pure_ (i := 9) (N := some 52) (v := ?_) (a' := ?_) #[true, true, true, true, true, false, true, true, true, true, false, false, false, false, false, false, false, false, false, false, false, false, false, false, false, false, false, false] rfl rfl (any_of HT_.out (by kernel_rfl)) (fun _ _ _ h => h) (Or.inl ⟨by rfl, ?_⟩) ?_ ?_
      rotate_left
      ·
       intro w'
       go_simp
       with_reducible rfl
      rotate_left
      ·
       simp only [Act.put, List.setIfInBounds_toArray, List.set_cons_zero, List.set_cons_succ, i64_w, i32_w]
       rfl
      refine pure_ (i := 12) (N := some 55) (v := ?_) (a' := ?_) #[true, true, true, true, true, false, true, true, true, true, false, false, true, false, false, false, false, false, false, false, false, false, false, false, false, false, false, false] rfl rfl (any_of HT_.out (by kernel_rfl)) (fun _ _ _ h => h) (Or.inl ⟨by rfl, ?_⟩) ?_ ?_
      rotate_left
      ·
       intro w'
       go_simp
       with_reducible rfl
      rotate_left
      ·
       simp only [Act.put, List.setIfInBounds_toArray, List.set_cons_zero, List.set_cons_succ, i64_w, i32_w]
       rfl
      refine pure_ (i := 13) (N := some 56) (v := ?_) (a' := ?_) #[true, true, true, true, true, false, true, true, true, true, false, false, true, true, false, false, false, false, false, false, false, false, false, false, false, false, false, false] rfl rfl (any_of HT_.out (by kernel_rfl)) (fun _ _ _ h => h) (Or.inl ⟨by rfl, ?_⟩) ?_ ?_
      rotate_left
      ·
       intro w'
       go_simp
       with_reducible rfl
      rotate_left
      ·
       simp only [Act.put, List.setIfInBounds_toArray, List.set_cons_zero, List.set_cons_succ, i64_w, i32_w]
       rfl
      refine pure_ (i := 14) (N := some 57) (v := ?_) (a' := ?_) #[true, true, true, true, true, false, true, true, true, true, false, false, true, true, true, false, false, false, false, false, false, false, false, false, false, false, false, false] rfl rfl (any_of HT_.out (by kernel_rfl)) (fun _ _ _ h => h) (Or.inl ⟨by rfl, ?_⟩) ?_ ?_
      rotate_left
      ·
       intro w'
       go_simp
       with_reducible rfl
      rotate_left
      ·
       simp only [Act.put, List.setIfInBounds_toArray, List.set_cons_zero, List.set_cons_succ, i64_w, i32_w]
       rfl
      refine pure_ (i := 15) (N := some 58) (v := ?_) (a' := ?_) #[true, true, true, true, true, false, true, true, true, true, false, false, true, true, true, true, false, false, false, false, false, false, false, false, false, false, false, false] rfl rfl (any_of HT_.out (by kernel_rfl)) (fun _ _ _ h => h) (Or.inl ⟨by rfl, ?_⟩) ?_ ?_
      rotate_left
      ·
       intro w'
       go_simp
       with_reducible rfl
      rotate_left
      ·
       simp only [Act.put, List.setIfInBounds_toArray, List.set_cons_zero, List.set_cons_succ, i64_w, i32_w]
       rfl
      refine pure_ (i := 18) (N := some 61) (v := ?_) (a' := ?_) #[true, true, true, true, true, false, true, true, true, true, false, false, true, true, true, true, false, false, true, false, false, false, false, false, false, false, false, false] rfl rfl (any_of HT_.out (by kernel_rfl)) (fun _ _ _ h => h) (Or.inl ⟨by rfl, ?_⟩) ?_ ?_
      rotate_left
      ·
       intro w'
       go_simp
       with_reducible rfl
      rotate_left
      ·
       simp only [Act.put, List.setIfInBounds_toArray, List.set_cons_zero, List.set_cons_succ, i64_w, i32_w]
       rfl
      refine pure_ (i := 19) (N := some 62) (v := ?_) (a' := ?_) #[true, true, true, true, true, false, true, true, true, true, false, false, true, true, true, true, false, false, true, true, false, false, false, false, false, false, false, false] rfl rfl (any_of HT_.out (by kernel_rfl)) (fun _ _ _ h => h) (Or.inl ⟨by rfl, ?_⟩) ?_ ?_
      rotate_left
      ·
       intro w'
       go_simp
       with_reducible rfl
      rotate_left
      ·
       simp only [Act.put, List.setIfInBounds_toArray, List.set_cons_zero, List.set_cons_succ, i64_w, i32_w]
       rfl
      refine pure_ (i := 20) (N := some 63) (v := ?_) (a' := ?_) #[true, true, true, true, true, false, true, true, true, true, false, false, true, true, true, true, false, false, true, true, true, false, false, false, false, false, false, false] rfl rfl (any_of HT_.out (by kernel_rfl)) (fun _ _ _ h => h) (Or.inl ⟨by rfl, ?_⟩) ?_ ?_
      rotate_left
      ·
       intro w'
       go_simp
       with_reducible rfl
      rotate_left
      ·
       simp only [Act.put, List.setIfInBounds_toArray, List.set_cons_zero, List.set_cons_succ, i64_w, i32_w]
       rfl
      refine pure_ (i := 21) (N := some 64) (v := ?_) (a' := ?_) #[true, true, true, true, true, false, true, true, true, true, false, false, true, true, true, true, false, false, true, true, true, true, false, false, false, false, false, false] rfl rfl (any_of HT_.out (by kernel_rfl)) (fun _ _ _ h => h) (Or.inl ⟨by rfl, ?_⟩) ?_ ?_
      rotate_left
      ·
       intro w'
       go_simp
       with_reducible rfl
      rotate_left
      ·
       simp only [Act.put, List.setIfInBounds_toArray, List.set_cons_zero, List.set_cons_succ, i64_w, i32_w]
       rfl
      refine take_ (i := 5) (N := some 48) (v := ?_) (a' := ?_) #[true, true, true, true, true, true, true, true, true, true, false, false, true, true, true, true, false, false, true, true, true, true, false, false, false, false, false, false] rfl rfl (take_ofW HT_.out HW_.out (by kernel_rfl)) (fun _ _ _ h => h) (Or.inl ⟨by rfl, ?_⟩) hHeld ?_ ?_
      rotate_left
      ·
       rintro w' ⟨s0, s1, s2, s3⟩
       go_simp
       with_reducible rfl
      rotate_left
      ·
       simp only [Act.put, List.setIfInBounds_toArray, List.set_cons_zero, List.set_cons_succ, i64_w, i32_w]
       rfl
      refine take_ (i := 10) (N := some 53) (v := ?_) (a' := ?_) #[true, true, true, true, true, true, true, true, true, true, true, false, true, true, true, true, false, false, true, true, true, true, false, false, false, false, false, false] rfl rfl (take_ofW HT_.out HW_.out (by kernel_rfl)) (fun _ _ _ h => h) (Or.inl ⟨by rfl, ?_⟩) hHeld ?_ ?_
      rotate_left
      ·
       rintro w' ⟨s0, s1, s2, s3⟩
       go_simp
       with_reducible rfl
      rotate_left
      ·
       simp only [Act.put, List.setIfInBounds_toArray, List.set_cons_zero, List.set_cons_succ, i64_w, i32_w]
       rfl
      refine pure_ (i := 11) (N := some 54) (v := ?_) (a' := ?_) #[true, true, true, true, true, true, true, true, true, true, true, true, true, true, true, true, false, false, true, true, true, true, false, false, false, false, false, false] rfl rfl (any_of HT_.out (by kernel_rfl)) (fun _ _ _ h => h) (Or.inl ⟨by rfl, ?_⟩) ?_ ?_
      rotate_left
      ·
       intro w'
       go_simp
       with_reducible rfl
      rotate_left
      ·
       simp only [Act.put, List.setIfInBounds_toArray, List.set_cons_zero, List.set_cons_succ, i64_w, i32_w]
       rfl
      refine take_ (i := 16) (N := some 59) (v := ?_) (a' := ?_) #[true, true, true, true, true, true, true, true, true, true, true, true, true, true, true, true, true, false, true, true, true, true, false, false, false, false, false, false] rfl rfl (take_ofW HT_.out HW_.out (by kernel_rfl)) (fun _ _ _ h => h) (Or.inl ⟨by rfl, ?_⟩) hHeld ?_ ?_
      rotate_left
      ·
       rintro w' ⟨s0, s1, s2, s3⟩
       go_simp
       with_reducible rfl
      rotate_left
      ·
       simp only [Act.put, List.setIfInBounds_toArray, List.set_cons_zero, List.set_cons_succ, i64_w, i32_w]
       rfl
      refine pure_ (i := 17) (N := some 60) (v := ?_) (a' := ?_) #[true, true, true, true, true, true, true, true, true, true, true, true, true, true, true, true, true, true, true, true, true, true, false, false, false, false, false, false] rfl rfl (any_of HT_.out (by kernel_rfl)) (fun _ _ _ h => h) (Or.inl ⟨by rfl, ?_⟩) ?_ ?_
      rotate_left
      ·
       intro w'
       go_simp
       with_reducible rfl
      rotate_left
      ·
       simp only [Act.put, List.setIfInBounds_toArray, List.set_cons_zero, List.set_cons_succ, i64_w, i32_w]
       rfl
      refine take_ (i := 22) (N := some 65) (v := ?_) (a' := ?_) #[true, true, true, true, true, true, true, true, true, true, true, true, true, true, true, true, true, true, true, true, true, true, true, false, false, false, false, false] rfl rfl (take_ofW HT_.out HW_.out (by kernel_rfl)) (fun _ _ _ h => h) (Or.inl ⟨by rfl, ?_⟩) hHeld ?_ ?_
      rotate_left
      ·
       rintro w' ⟨s0, s1, s2, s3⟩
       go_simp
       with_reducible rfl
      rotate_left
      ·
       simp only [Act.put, List.setIfInBounds_toArray, List.set_cons_zero, List.set_cons_succ, i64_w, i32_w]
       rfl
      refine pure_ (i := 23) (N := some 66) (v := ?_) (a' := ?_) #[true, true, true, true, true, true, true, true, true, true, true, true, true, true, true, true, true, true, true, true, true, true, true, true, false, false, false, false] rfl rfl (any_of HT_.out (by kernel_rfl)) (fun _ _ _ h => h) (Or.inl ⟨by rfl, ?_⟩) ?_ ?_
      rotate_left
      ·
       intro w'
       go_simp
       with_reducible rfl
      rotate_left
      ·
       simp only [Act.put, List.setIfInBounds_toArray, List.set_cons_zero, List.set_cons_succ, i64_w, i32_w]
       rfl
      refine one_ (i := 24) (N := some 67) #[true, true, true, true, true, true, true, true, true, true, true, true, true, true, true, true, true, true, true, true, true, true, true, true, true, false, false, false] rfl rfl (one_of HT_.out (by kernel_rfl)) (by decide) (fun K hK => ?_)
      refine goes_ Try.func62 (by kernel_rfl) rfl #[.int .i64 (Go.bits .xor .i64 (Go.bits .xor .i64 (Go.bits .xor .i64 (rd x3_1 (ji20)) (rd x3_1 (ji23))) (rd x3_1 (ji26))) (rd x3_1 (ji29))), .int .i64 1] (by rfl) rfl rfl (by (try simp only [List.map_toArray, List.map_cons, List.map_nil]); first | done | (simp only [hji20, hji23, hji26, hji29]; rfl) | rfl | (simp only [List.length_drop, List.length_take]; rfl)) ?_
      with_reducible refine (impl_turn.calls (Go.bits .xor .i64 (Go.bits .xor .i64 (Go.bits .xor .i64 (rd x3_1 (ji20)) (rd x3_1 (ji23))) (rd x3_1 (ji26))) (rd x3_1 (ji29))) 1 t114 _ A32.out).mono ?_
      rintro e w' ⟨rfl, ⟨nd, rfl⟩⟩
      refine ⟨_, rfl, ?_⟩
      refine hK.out _ _ ⟨hHeld.1, hHeld.2.1, hHeld.2.2.1, hHeld.2.2.2⟩ (fun hHeld => ?_)
      clear hK K
      refine norm_ (a' := ?_) ?_ ?_
      rotate_left
      ·
       show Act.put _ (some 67) _ = _
       simp only [Act.put, List.setIfInBounds_toArray, List.set_cons_zero, List.set_cons_succ, i64_w, i32_w]
       rfl
      refine last_ (i := 25) (N := some 68) #[true, true, true, true, true, true, true, true, true, true, true, true, true, true, true, true, true, true, true, true, true, true, true, true, true, true, false, false] rfl rfl (one_of HT_.out (by kernel_rfl)) (by decide) (fun K hK => ?_)
      refine value_ (w1 := ?_) (v := ?_) (by rfl) rfl ?_ ?_
      rotate_left 2
      ·
       go_simp
       constructor
       ·
        rfl
       ·
        rfl
      refine hK.out _ _ ?_
      clear hK K
      refine norm_ (a' := ?_) ?_ ?_
      rotate_left
      ·
       show Act.put _ (some 68) _ = _
       simp only [Act.put, List.setIfInBounds_toArray, List.set_cons_zero, List.set_cons_succ, i64_w, i32_w]
       rfl
      refine last_ (i := 26) (N := some 69) #[true, true, true, true, true, true, true, true, true, true, true, true, true, true, true, true, true, true, true, true, true, true, true, true, true, true, true, false] rfl rfl (one_of HT_.out (by kernel_rfl)) (by decide) (fun K hK => ?_)
      refine Kd.R_append_step (Kd.int .i64) (w0 := w) w.heap.size (by rfl) (.tmp 43) (.tmp 68) 33 3 (.int .i64 0) 8 rfl Try.underlying33 info3 rfl (by decide) (by omega) (.slice (some ad110) x3_1.length co35) x3_1 t114 [.int .i64 t114] (fun _ => True) (fun _ => False) rfl rfl ?aP (fun _ hk => hk.elim) ?aF ?aO ?aB ?aS ?aL ?_
      (case aP => exact rfl)
      (case aB => exact (by repeat (first | (with_reducible first | exact HB.out | apply below_alloc | apply pw_below_drewN | apply below_drew1) | exact HB.out)))
      (case aF => exact (fun _ _ => trivial))
      (case aO => exact (by (with_reducible repeat (first | apply Kd.R_alloc | apply Kd.R_drewN | apply Kd.R_drew)); exact HO_3.out))
      (case aS => exact (below_size (by repeat (first | (with_reducible first | exact HB.out | apply below_alloc | apply pw_below_drewN | apply below_drew1) | exact HB.out))))
      (case aL => have := LMc33.out; omega)
      intro v116 w36 ho hb hg hat
      rw [← Ny115.out] at ho
      have n0_ := Aside0.mk (hb)
      have n1_ := Aside0.mk (ho)
      clear HB
      clear HO_3
      have HB := n0_
      have HO117 := n1_
      clear n0_ n1_
      clear ho hb hg hat
      refine hK.out _ _ ?_
      clear hK K
      refine norm_ (a' := ?_) ?_ ?_
      rotate_left
      ·
       show Act.put _ (some 69) _ = _
       simp only [Act.put, List.setIfInBounds_toArray, List.set_cons_zero, List.set_cons_succ, i64_w, i32_w]
       rfl
      refine pure_ (i := 27) (N := some 3) (v := ?_) (a' := ?_) #[true, true, true, true, true, true, true, true, true, true, true, true, true, true, true, true, true, true, true, true, true, true, true, true, true, true, true, true] rfl rfl (any_of HT_.out (by kernel_rfl)) (fun _ _ _ h => h) (Or.inl ⟨by rfl, ?_⟩) ?_ ?_
      rotate_left
      ·
       intro w'
       go_simp
       with_reducible rfl
      rotate_left
      ·
       simp only [Act.put, List.setIfInBounds_toArray, List.set_cons_zero, List.set_cons_succ, i64_w, i32_w]
       rfl
      refine done_ (done_of HT_.out (by kernel_rfl)) ?_
      try go_wp2
      go_roundg k1
      case measure => have := HK1.out; omega
      case rel => exact ⟨(y115), (wrap64 (x4_1 + 1)), (by first | rfl | (simp; done) | (simp [*]; done)), H', ⟨by have := HK1.out; omega⟩, ⟨by (with_reducible repeat (first | apply Kd.R_alloc | apply Kd.R_drewN | apply Kd.R_drew)); exact HO117.out⟩, ⟨by repeat (first | (with_reducible first | exact HB.out | apply below_alloc | apply pw_below_drewN | apply below_drew1) | exact HB.out)⟩⟩
    ·
     rw [if_neg c3] at H
     have c3b0 : decide (x4_1 < 80) = false := decide_eq_false c3
     clear c3
     obtain rfl := Option.some.inj H
     go_wp2
     go_ret
     exact ⟨_, by first | rfl | (simp [errW_none, errW_some] <;> rfl) | (simp [*, errW_none, errW_some] <;> rfl), by (with_reducible repeat (first | apply Kd.R_alloc | apply Kd.R_drewN | apply Kd.R_drew)); exact HO_3.out, by repeat (first | (with_reducible first | exact HB.out | apply below_alloc | apply pw_below_drewN | apply below_drew1) | exact HB.out)⟩
 ·
  rw [if_neg c2] at H
  have c2b0 : ((a0.size : Int) == 64) = false := beq_eq_false_iff_ne.mpr c2
  have c2b1 : ((a0.size : Int) != 64) = true := bne_iff_ne.mpr c2
  obtain rfl := Option.some.inj H
  go_enter Try.func68, Try.ntmps68
  go_wp2
  go_ret
  exact ⟨_, by first | rfl | (simp [errW_none, errW_some] <;> rfl) | (simp [*, errW_none, errW_some] <;> rfl), by first | exact Kd.R_nil _ _ _ _ _ | exact Kd.N_nil _ _ _ _ _ | exact Kd.V_nil _ _ _ _ _ | exact Kd.Q_nil _ _ _ _ _ | exact Kd.S_nil _ _ _ _ _, by repeat (first | (with_reducible first | exact HB.out | apply below_alloc | apply pw_below_drewN | apply below_drew1) | exact HB.out)⟩

end Go.Proofs.Ytoaijdlablanfaa.PFnLabels
