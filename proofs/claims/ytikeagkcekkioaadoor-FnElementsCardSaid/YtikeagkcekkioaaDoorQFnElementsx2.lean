-- Written by a program of this session.
import Derived.Test.YtikeagkcekkioaaDoorQFnElementsx0
import Derived.Test.YtikeagkcekkioaaDoorQFnElementsx1
namespace Go.Proofs.YtikeagkcekkioaaDoor.PFnElements
open Go.Proofs.YtikeagkcekkioaaDoor.Foreign
open Go.RowKit Go.Proofs.YtikeagkcekkioaaDoorW.PrintWords Go.Proofs.YtikeagkcekkioaaDoorW.PrintLast Go.Proofs.YtikeagkcekkioaaDoorW.PrintMore
attribute [local go_sem] max2_int min2_int max_two min_two max_three min_three max_four min_four   -- for this text's walks alone
set_option linter.unusedVariables false
set_option linter.unusedSimpArgs false

/-! ### laws_FnElements: function 5 -/
def laws_FnElements.l0 : Nat → List Int → List ByteArray → ByteArray → Int → Option (Bool)
 | 0, _, _, _, _ => none
 | k + 1, x0, x3, x4, x5 => if x5 < (x0.length : Int) then (if x5 < 9 then (if 0 ≤ x5 then ((some (([(97 + (Int.tmod (rd x0 x5) 26)) % 256, (48 + (Int.tmod (rd x0 x5) 10)) % 256] : List Int) : List Int)).bind fun y105 => (if x3.length < 8796093022208 then ((some (([(⟨#[]⟩ : ByteArray), (⟨#[32]⟩ : ByteArray), (⟨#[44]⟩ : ByteArray), (⟨#[44, 32, 9, 44]⟩ : ByteArray)] : List ByteArray) : List ByteArray)).bind fun y111 => (if 0 ≤ ((Int.tdiv (rd x0 x5) 64) % 256) then (if ((Int.tdiv (rd x0 x5) 64) % 256) < (y111.length : Int) then (if x4.size + (rdOf ByteArray.empty y111 ((Int.tdiv (rd x0 x5) 64) % 256)).size ≤ 9223372036854775807 then (if (x4 ++ (rdOf ByteArray.empty y111 ((Int.tdiv (rd x0 x5) 64) % 256))).size + (strOfNums y105).size ≤ 9223372036854775807 then ((some (([(⟨#[44]⟩ : ByteArray), (⟨#[32, 44]⟩ : ByteArray), (⟨#[44, 44]⟩ : ByteArray), (⟨#[44, 32]⟩ : ByteArray)] : List ByteArray) : List ByteArray)).bind fun y116 => (if 0 ≤ (((Int.tdiv (rd x0 x5) 16) % 256) % 4) then (if (((Int.tdiv (rd x0 x5) 16) % 256) % 4) < (y116.length : Int) then (if ((x4 ++ (rdOf ByteArray.empty y111 ((Int.tdiv (rd x0 x5) 64) % 256))) ++ (strOfNums y105)).size + (rdOf ByteArray.empty y116 (((Int.tdiv (rd x0 x5) 16) % 256) % 4)).size ≤ 9223372036854775807 then (laws_FnElements.l0 k x0 (x3 ++ [strOfNums y105]) (((x4 ++ (rdOf ByteArray.empty y111 ((Int.tdiv (rd x0 x5) 64) % 256))) ++ (strOfNums y105)) ++ (rdOf ByteArray.empty y116 (((Int.tdiv (rd x0 x5) 16) % 256) % 4))) (wrap64 (x5 + 1))) else (none)) else (none)) else (none))) else (none)) else (none)) else (none)) else (none))) else (none))) else (none)) else ((impl_Elements.f x4).bind fun t121 => ((laws_sameTexts.f k t121 x3).bind fun t124 => (if t124 = true then ((laws_words.f).bind fun t125 => (some t125)) else (some false))))) else ((impl_Elements.f x4).bind fun t126 => ((laws_sameTexts.f k t126 x3).bind fun t129 => (if t129 = true then ((laws_words.f).bind fun t130 => (some t130)) else (some false))))
def laws_FnElements.f (k : Nat) (l0 : List Int) : Option (Bool) := laws_FnElements.l0 k l0 ([] : List ByteArray) (⟨#[]⟩ : ByteArray) 0
theorem laws_FnElements.mono_l : ∀ k, (∀ y0 y1 y2 y3, LeO (laws_FnElements.l0 k y0 y1 y2 y3) (laws_FnElements.l0 (k + 1) y0 y1 y2 y3))
 | 0 => fun _ _ _ _ r h => by simp [laws_FnElements.l0] at h
 | k + 1 => by
  have ih0 := laws_FnElements.mono_l k
  ·
   intro y0 y1 y2 y3
   unfold laws_FnElements.l0
   repeat' first
   | (with_reducible exact ih0 _ _ _ _)
   | (with_reducible exact laws_sameTexts.mono _ _ _)
   | (with_reducible exact LeO.refl _)
   | (with_reducible exact LeO.none _)
   | (with_reducible refine LeO.ite ?_ ?_)
   | (with_reducible refine LeO.bind ?_ (fun _ => ?_))
   | exact ih0 _ _ _ _
   | exact laws_sameTexts.mono _ _ _
   | exact LeO.none _
   | refine LeO.ite ?_ ?_
   | refine LeO.bind ?_ (fun _ => ?_)
theorem laws_FnElements.mono : ∀ a0 k, LeO (laws_FnElements.f k a0) (laws_FnElements.f (k + 1) a0) := by
 intro a0 k
 have ih0 := laws_FnElements.mono_l k
 unfold laws_FnElements.f
 repeat' first
   | (with_reducible exact ih0 _ _ _ _)
   | (with_reducible exact laws_sameTexts.mono _ _ _)
   | (with_reducible exact LeO.refl _)
   | (with_reducible exact LeO.none _)
   | (with_reducible refine LeO.ite ?_ ?_)
   | (with_reducible refine LeO.bind ?_ (fun _ => ?_))
   | exact ih0 _ _ _ _
   | exact laws_sameTexts.mono _ _ _
   | exact LeO.none _
   | refine LeO.ite ?_ ?_
   | refine LeO.bind ?_ (fun _ => ?_)
def laws_FnElements.T6 : Bool × List (List Nat × List Nat) := (true, [([], []), ([], []), ([0, 1], [0, 1]), ([2], [2]), ([3], [3]), ([4], [4]), ([], []), ([], []), ([6, 7], [6, 7]), ([8], [8]), ([9], [9]), ([10], [10]), ([5, 11], [5, 11]), ([12], [12]), ([13, 0, 1, 2, 3, 4, 5, 6, 7, 8, 9, 10, 11, 12, 13], [13])])
def laws_FnElements.B6 : List Nat := [0, 0, 3, 7, 15, 31, 0, 0, 192, 448, 960, 1984, 4095, 8191, 16383]
theorem laws_FnElements.tab6 : rtab .any (opsOf Tryd.f5 6) = laws_FnElements.T6 := by kernel_rfl
theorem laws_FnElements.bits6 : waitsOk laws_FnElements.T6.2 laws_FnElements.B6 = true := by kernel_rfl
def laws_FnElements.T8 : Bool × List (List Nat × List Nat) := (true, [([], []), ([], []), ([], []), ([], []), ([2, 3], [2, 3]), ([4], [4]), ([5], [5]), ([1, 6], [1, 6]), ([7], [7]), ([0, 8], [0, 8]), ([], []), ([9, 10], [9, 10]), ([], []), ([], []), ([], []), ([13, 14], [13, 14]), ([15], [15]), ([16], [16]), ([17], [17]), ([12, 18], [12, 18]), ([19], [19]), ([11, 20], [11, 20]), ([21, 0, 1, 2, 3, 4, 5, 6, 7, 8, 9, 10, 11, 12, 13, 14, 15, 16, 17, 18, 19, 20, 21], [0, 21])])
def laws_FnElements.B8 : List Nat := [0, 0, 0, 0, 12, 28, 60, 126, 254, 511, 0, 2047, 0, 0, 0, 24576, 57344, 122880, 253952, 520192, 1044480, 2097151, 4194303]
theorem laws_FnElements.tab8 : rtab .any (opsOf Tryd.f5 8) = laws_FnElements.T8 := by kernel_rfl
theorem laws_FnElements.bits8 : waitsOk laws_FnElements.T8.2 laws_FnElements.B8 = true := by kernel_rfl
set_option maxHeartbeats 8000000 in
set_option maxRecDepth 100000 in
theorem laws_FnElements.calls (k : Nat) (A0 : Option Addr) (c0 : Nat) (l0 : List Int) (r : Bool) (w : World) (hr0 : Kd.C (Kd.int .u8) w A0 l0.length l0) (hc0 : l0.length ≤ c0) (ht : Tab w) (h : laws_FnElements.f k l0 = some r) :
  Calls Tryd.prog 5 #[.slice A0 l0.length c0] w fun e w' => e = .returned (.bool r) ∧ Below w.heap.size w w' := by
 have HR0 := Aside0.mk hr0
 have HC0 := Aside0.mk hc0
 clear hr0 hc0
 have HB := Aside0.mk (Below.refl w.heap.size w)
 have HT := Aside0.mk ht
 clear ht
 have H : (laws_FnElements.l0 k l0 ([] : List ByteArray) (⟨#[]⟩ : ByteArray) 0) = some r := h
 clear h
 have H' := Aside0.mk H
 clear H
 go_enter Tryd.func5, Tryd.ntmps5
 go_wp2
 go_loopg [3, 4, 5] k (fun kq v3 v4 v5 w' => ∃ (x3_1 : List ByteArray) (x4_1 : ByteArray) (x5_1 : Int), v4 = .string x4_1 ∧ v5 = .int .i64 x5_1 ∧ Aside0 (laws_FnElements.l0 kq l0 x3_1 x4_1 x5_1 = some r) ∧ Aside0 (kq ≤ k) ∧ Aside0 (Kd.R Kd.string 9 w' w.heap.size (fun _ => True) v3 x3_1) ∧ Aside0 (Below w.heap.size w w'))
 case atStart => exact ⟨(([] : List ByteArray)), ((⟨#[]⟩ : ByteArray)), (0), (by first | rfl | (simp; done) | (simp [*]; done)), (by first | rfl | (simp; done) | (simp [*]; done)), H', ⟨Nat.le_refl _⟩, ⟨by first | exact Kd.R_nil _ _ _ _ _ | exact Kd.N_nil _ _ _ _ _ | exact Kd.V_nil _ _ _ _ _ | exact Kd.Q_nil _ _ _ _ _ | exact Kd.S_nil _ _ _ _ _⟩, ⟨by repeat (first | (with_reducible first | exact HB.out | apply below_alloc | apply pw_below_drewN | apply below_drew1) | exact HB.out)⟩⟩
 case round =>
  clear H'
  obtain ⟨x3_1, x4_1, x5_1, rfl, rfl, HA, HK1, HO_3, HB⟩ := hrel
  cases gk with
  | zero => exact absurd HA.out (by simp [laws_FnElements.l0])
  | succ k1 =>
   have H := HA.out
   clear HA
   simp only [laws_FnElements.l0] at H
   by_cases c2 : x5_1 < (l0.length : Int)
   ·
    rw [if_pos c2] at H
    have c2b0 : decide (x5_1 < (l0.length : Int)) = true := decide_eq_true c2
    clear c2
    by_cases c3 : x5_1 < 9
    ·
     rw [if_pos c3] at H
     have c3b0 : decide (x5_1 < 9) = true := decide_eq_true c3
     clear c3
     have c4 : 0 ≤ x5_1 := Classical.byContradiction fun h_ => by rw [if_neg h_] at H; exact absurd H (by simp)
     rw [if_pos c4] at H
     have c4b0 : decide (0 ≤ x5_1) = true := decide_eq_true c4
     clear c4
     obtain ⟨y105, hy105⟩ : ∃ y_ : List Int, y_ = (([(97 + (Int.tmod (rd l0 x5_1) 26)) % 256, (48 + (Int.tmod (rd l0 x5_1) 10)) % 256] : List Int)) := ⟨_, rfl⟩
     replace H : (if x3_1.length < 8796093022208 then ((some (([(⟨#[]⟩ : ByteArray), (⟨#[32]⟩ : ByteArray), (⟨#[44]⟩ : ByteArray), (⟨#[44, 32, 9, 44]⟩ : ByteArray)] : List ByteArray) : List ByteArray)).bind fun y111 => (if 0 ≤ ((Int.tdiv (rd l0 x5_1) 64) % 256) then (if ((Int.tdiv (rd l0 x5_1) 64) % 256) < (y111.length : Int) then (if x4_1.size + (rdOf ByteArray.empty y111 ((Int.tdiv (rd l0 x5_1) 64) % 256)).size ≤ 9223372036854775807 then (if (x4_1 ++ (rdOf ByteArray.empty y111 ((Int.tdiv (rd l0 x5_1) 64) % 256))).size + (strOfNums y105).size ≤ 9223372036854775807 then ((some (([(⟨#[44]⟩ : ByteArray), (⟨#[32, 44]⟩ : ByteArray), (⟨#[44, 44]⟩ : ByteArray), (⟨#[44, 32]⟩ : ByteArray)] : List ByteArray) : List ByteArray)).bind fun y116 => (if 0 ≤ (((Int.tdiv (rd l0 x5_1) 16) % 256) % 4) then (if (((Int.tdiv (rd l0 x5_1) 16) % 256) % 4) < (y116.length : Int) then (if ((x4_1 ++ (rdOf ByteArray.empty y111 ((Int.tdiv (rd l0 x5_1) 64) % 256))) ++ (strOfNums y105)).size + (rdOf ByteArray.empty y116 (((Int.tdiv (rd l0 x5_1) 16) % 256) % 4)).size ≤ 9223372036854775807 then (laws_FnElements.l0 k1 l0 (x3_1 ++ [strOfNums y105]) (((x4_1 ++ (rdOf ByteArray.empty y111 ((Int.tdiv (rd l0 x5_1) 64) % 256))) ++ (strOfNums y105)) ++ (rdOf ByteArray.empty y116 (((Int.tdiv (rd l0 x5_1) 16) % 256) % 4))) (wrap64 (x5_1 + 1))) else (none)) else (none)) else (none))) else (none)) else (none)) else (none)) else (none))) else (none)) = some r := by first | (rw [hy105]; with_reducible exact H) | (have H2_ := (Option.bind_some _ _).symm.trans H; rw [hy105]; with_reducible exact H2_) | (have H2_ := (Option.bind_some _ _).symm.trans H; with_reducible exact H2_) | with_reducible exact H | (rw [hy105]; exact H) | exact H
     have Ny105 := Aside0.mk hy105
     clear hy105
     have c5 : x3_1.length < 8796093022208 := Classical.byContradiction fun h_ => by rw [if_neg h_] at H; exact absurd H (by simp)
     rw [if_pos c5] at H
     have LMc5 := Aside0.mk c5
     clear c5
     obtain ⟨y108, hy108⟩ : ∃ y_ : List ByteArray, y_ = (x3_1 ++ [strOfNums y105]) := ⟨_, rfl⟩
     replace H : ((some (([(⟨#[]⟩ : ByteArray), (⟨#[32]⟩ : ByteArray), (⟨#[44]⟩ : ByteArray), (⟨#[44, 32, 9, 44]⟩ : ByteArray)] : List ByteArray) : List ByteArray)).bind fun y111 => (if 0 ≤ ((Int.tdiv (rd l0 x5_1) 64) % 256) then (if ((Int.tdiv (rd l0 x5_1) 64) % 256) < (y111.length : Int) then (if x4_1.size + (rdOf ByteArray.empty y111 ((Int.tdiv (rd l0 x5_1) 64) % 256)).size ≤ 9223372036854775807 then (if (x4_1 ++ (rdOf ByteArray.empty y111 ((Int.tdiv (rd l0 x5_1) 64) % 256))).size + (strOfNums y105).size ≤ 9223372036854775807 then ((some (([(⟨#[44]⟩ : ByteArray), (⟨#[32, 44]⟩ : ByteArray), (⟨#[44, 44]⟩ : ByteArray), (⟨#[44, 32]⟩ : ByteArray)] : List ByteArray) : List ByteArray)).bind fun y116 => (if 0 ≤ (((Int.tdiv (rd l0 x5_1) 16) % 256) % 4) then (if (((Int.tdiv (rd l0 x5_1) 16) % 256) % 4) < (y116.length : Int) then (if ((x4_1 ++ (rdOf ByteArray.empty y111 ((Int.tdiv (rd l0 x5_1) 64) % 256))) ++ (strOfNums y105)).size + (rdOf ByteArray.empty y116 (((Int.tdiv (rd l0 x5_1) 16) % 256) % 4)).size ≤ 9223372036854775807 then (laws_FnElements.l0 k1 l0 y108 (((x4_1 ++ (rdOf ByteArray.empty y111 ((Int.tdiv (rd l0 x5_1) 64) % 256))) ++ (strOfNums y105)) ++ (rdOf ByteArray.empty y116 (((Int.tdiv (rd l0 x5_1) 16) % 256) % 4))) (wrap64 (x5_1 + 1))) else (none)) else (none)) else (none))) else (none)) else (none)) else (none)) else (none))) = some r := by first | (rw [hy108]; with_reducible exact H) | (have H2_ := (Option.bind_some _ _).symm.trans H; rw [hy108]; with_reducible exact H2_) | (have H2_ := (Option.bind_some _ _).symm.trans H; with_reducible exact H2_) | with_reducible exact H | (rw [hy108]; exact H) | exact H
     have Ny108 := Aside0.mk hy108
     clear hy108
     obtain ⟨y111, hy111⟩ : ∃ y_ : List ByteArray, y_ = (([(⟨#[]⟩ : ByteArray), (⟨#[32]⟩ : ByteArray), (⟨#[44]⟩ : ByteArray), (⟨#[44, 32, 9, 44]⟩ : ByteArray)] : List ByteArray)) := ⟨_, rfl⟩
     replace H : (if 0 ≤ ((Int.tdiv (rd l0 x5_1) 64) % 256) then (if ((Int.tdiv (rd l0 x5_1) 64) % 256) < (y111.length : Int) then (if x4_1.size + (rdOf ByteArray.empty y111 ((Int.tdiv (rd l0 x5_1) 64) % 256)).size ≤ 9223372036854775807 then (if (x4_1 ++ (rdOf ByteArray.empty y111 ((Int.tdiv (rd l0 x5_1) 64) % 256))).size + (strOfNums y105).size ≤ 9223372036854775807 then ((some (([(⟨#[44]⟩ : ByteArray), (⟨#[32, 44]⟩ : ByteArray), (⟨#[44, 44]⟩ : ByteArray), (⟨#[44, 32]⟩ : ByteArray)] : List ByteArray) : List ByteArray)).bind fun y116 => (if 0 ≤ (((Int.tdiv (rd l0 x5_1) 16) % 256) % 4) then (if (((Int.tdiv (rd l0 x5_1) 16) % 256) % 4) < (y116.length : Int) then (if ((x4_1 ++ (rdOf ByteArray.empty y111 ((Int.tdiv (rd l0 x5_1) 64) % 256))) ++ (strOfNums y105)).size + (rdOf ByteArray.empty y116 (((Int.tdiv (rd l0 x5_1) 16) % 256) % 4)).size ≤ 9223372036854775807 then (laws_FnElements.l0 k1 l0 y108 (((x4_1 ++ (rdOf ByteArray.empty y111 ((Int.tdiv (rd l0 x5_1) 64) % 256))) ++ (strOfNums y105)) ++ (rdOf ByteArray.empty y116 (((Int.tdiv (rd l0 x5_1) 16) % 256) % 4))) (wrap64 (x5_1 + 1))) else (none)) else (none)) else (none))) else (none)) else (none)) else (none)) else (none)) = some r := by first | (rw [hy111]; with_reducible exact H) | (have H2_ := (Option.bind_some _ _).symm.trans H; rw [hy111]; with_reducible exact H2_) | (have H2_ := (Option.bind_some _ _).symm.trans H; with_reducible exact H2_) | with_reducible exact H | (rw [hy111]; exact H) | exact H
     have Ny111 := Aside0.mk hy111
     clear hy111
     obtain ⟨ji6, hji6⟩ : ∃ j_ : Int, ((Int.tdiv (rd l0 x5_1) 64) % 256) = j_ := ⟨_, rfl⟩
     replace H : (if 0 ≤ (ji6) then (if (ji6) < (y111.length : Int) then (if x4_1.size + (rdOf ByteArray.empty y111 (ji6)).size ≤ 9223372036854775807 then (if (x4_1 ++ (rdOf ByteArray.empty y111 (ji6))).size + (strOfNums y105).size ≤ 9223372036854775807 then ((some (([(⟨#[44]⟩ : ByteArray), (⟨#[32, 44]⟩ : ByteArray), (⟨#[44, 44]⟩ : ByteArray), (⟨#[44, 32]⟩ : ByteArray)] : List ByteArray) : List ByteArray)).bind fun y116 => (if 0 ≤ (((Int.tdiv (rd l0 x5_1) 16) % 256) % 4) then (if (((Int.tdiv (rd l0 x5_1) 16) % 256) % 4) < (y116.length : Int) then (if ((x4_1 ++ (rdOf ByteArray.empty y111 (ji6))) ++ (strOfNums y105)).size + (rdOf ByteArray.empty y116 (((Int.tdiv (rd l0 x5_1) 16) % 256) % 4)).size ≤ 9223372036854775807 then (laws_FnElements.l0 k1 l0 y108 (((x4_1 ++ (rdOf ByteArray.empty y111 (ji6))) ++ (strOfNums y105)) ++ (rdOf ByteArray.empty y116 (((Int.tdiv (rd l0 x5_1) 16) % 256) % 4))) (wrap64 (x5_1 + 1))) else (none)) else (none)) else (none))) else (none)) else (none)) else (none)) else (none)) = some r := by first | (rw [hji6] at H; exact H) | (simp only [hji6] at H ⊢; exact H)
     have c7 : 0 ≤ (ji6) := Classical.byContradiction fun h_ => by rw [if_neg h_] at H; exact absurd H (by simp)
     rw [if_pos c7] at H
     have c7b0 : decide (0 ≤ (ji6)) = true := decide_eq_true c7
     clear c7
     have c8 : (ji6) < (y111.length : Int) := Classical.byContradiction fun h_ => by rw [if_neg h_] at H; exact absurd H (by simp)
     rw [if_pos c8] at H
     have c8b0 : decide ((ji6) < (y111.length : Int)) = true := decide_eq_true c8
     clear c8
     have c9 : x4_1.size + (rdOf ByteArray.empty y111 (ji6)).size ≤ 9223372036854775807 := Classical.byContradiction fun h_ => by rw [if_neg h_] at H; exact absurd H (by simp)
     rw [if_pos c9] at H
     have c9b0 := eq_true c9
     have c9b1 : decide (x4_1.size + (rdOf ByteArray.empty y111 (ji6)).size ≤ 9223372036854775807) = true := decide_eq_true c9
     try have c9b2 : (9223372036854775807 < x4_1.size + (rdOf ByteArray.empty y111 (ji6)).size) = False := eq_false (Nat.not_lt.2 c9)
     have c10 : (x4_1 ++ (rdOf ByteArray.empty y111 (ji6))).size + (strOfNums y105).size ≤ 9223372036854775807 := Classical.byContradiction fun h_ => by rw [if_neg h_] at H; exact absurd H (by simp)
     rw [if_pos c10] at H
     have c10b0 := eq_true c10
     have c10b1 : decide ((x4_1 ++ (rdOf ByteArray.empty y111 (ji6))).size + (strOfNums y105).size ≤ 9223372036854775807) = true := decide_eq_true c10
     try have c10b2 : (9223372036854775807 < (x4_1 ++ (rdOf ByteArray.empty y111 (ji6))).size + (strOfNums y105).size) = False := eq_false (Nat.not_lt.2 c10)
     (try (have c10v2 : (9223372036854775807 < (x4_1.size + (rdOf ByteArray.empty y111 (ji6)).size) + (strOfNums y105).size) = False := eq_false (by have h_ := c10; simp only [ByteArray.size_append] at h_; omega)))
     (try (have c10y0 := c10b0; simp only [ByteArray.size_append] at c10y0))
     (try (have c10z0 := c10b0; simp only [ByteArray.size_append, Int.natCast_add] at c10z0))
     (try (have c10y1 := c10b1; simp only [ByteArray.size_append] at c10y1))
     (try (have c10z1 := c10b1; simp only [ByteArray.size_append, Int.natCast_add] at c10z1))
     obtain ⟨y116, hy116⟩ : ∃ y_ : List ByteArray, y_ = (([(⟨#[44]⟩ : ByteArray), (⟨#[32, 44]⟩ : ByteArray), (⟨#[44, 44]⟩ : ByteArray), (⟨#[44, 32]⟩ : ByteArray)] : List ByteArray)) := ⟨_, rfl⟩
     replace H : (if 0 ≤ (((Int.tdiv (rd l0 x5_1) 16) % 256) % 4) then (if (((Int.tdiv (rd l0 x5_1) 16) % 256) % 4) < (y116.length : Int) then (if ((x4_1 ++ (rdOf ByteArray.empty y111 (ji6))) ++ (strOfNums y105)).size + (rdOf ByteArray.empty y116 (((Int.tdiv (rd l0 x5_1) 16) % 256) % 4)).size ≤ 9223372036854775807 then (laws_FnElements.l0 k1 l0 y108 (((x4_1 ++ (rdOf ByteArray.empty y111 (ji6))) ++ (strOfNums y105)) ++ (rdOf ByteArray.empty y116 (((Int.tdiv (rd l0 x5_1) 16) % 256) % 4))) (wrap64 (x5_1 + 1))) else (none)) else (none)) else (none)) = some r := by first | (rw [hy116]; with_reducible exact H) | (have H2_ := (Option.bind_some _ _).symm.trans H; rw [hy116]; with_reducible exact H2_) | (have H2_ := (Option.bind_some _ _).symm.trans H; with_reducible exact H2_) | with_reducible exact H | (rw [hy116]; exact H) | exact H
     have Ny116 := Aside0.mk hy116
     clear hy116
     obtain ⟨ji11, hji11⟩ : ∃ j_ : Int, (((Int.tdiv (rd l0 x5_1) 16) % 256) % 4) = j_ := ⟨_, rfl⟩
     replace H : (if 0 ≤ (ji11) then (if (ji11) < (y116.length : Int) then (if ((x4_1 ++ (rdOf ByteArray.empty y111 (ji6))) ++ (strOfNums y105)).size + (rdOf ByteArray.empty y116 (ji11)).size ≤ 9223372036854775807 then (laws_FnElements.l0 k1 l0 y108 (((x4_1 ++ (rdOf ByteArray.empty y111 (ji6))) ++ (strOfNums y105)) ++ (rdOf ByteArray.empty y116 (ji11))) (wrap64 (x5_1 + 1))) else (none)) else (none)) else (none)) = some r := by first | (rw [hji11] at H; exact H) | (simp only [hji11] at H ⊢; exact H)
     have c12 : 0 ≤ (ji11) := Classical.byContradiction fun h_ => by rw [if_neg h_] at H; exact absurd H (by simp)
     rw [if_pos c12] at H
     have c12b0 : decide (0 ≤ (ji11)) = true := decide_eq_true c12
     clear c12
     have c13 : (ji11) < (y116.length : Int) := Classical.byContradiction fun h_ => by rw [if_neg h_] at H; exact absurd H (by simp)
     rw [if_pos c13] at H
     have c13b0 : decide ((ji11) < (y116.length : Int)) = true := decide_eq_true c13
     clear c13
     have c14 : ((x4_1 ++ (rdOf ByteArray.empty y111 (ji6))) ++ (strOfNums y105)).size + (rdOf ByteArray.empty y116 (ji11)).size ≤ 9223372036854775807 := Classical.byContradiction fun h_ => by rw [if_neg h_] at H; exact absurd H (by simp)
     rw [if_pos c14] at H
     have c14b0 := eq_true c14
     have c14b1 : decide (((x4_1 ++ (rdOf ByteArray.empty y111 (ji6))) ++ (strOfNums y105)).size + (rdOf ByteArray.empty y116 (ji11)).size ≤ 9223372036854775807) = true := decide_eq_true c14
     try have c14b2 : (9223372036854775807 < ((x4_1 ++ (rdOf ByteArray.empty y111 (ji6))) ++ (strOfNums y105)).size + (rdOf ByteArray.empty y116 (ji11)).size) = False := eq_false (Nat.not_lt.2 c14)
     (try (have c14v2 : (9223372036854775807 < ((x4_1.size + (rdOf ByteArray.empty y111 (ji6)).size) + (strOfNums y105).size) + (rdOf ByteArray.empty y116 (ji11)).size) = False := eq_false (by have h_ := c14; simp only [ByteArray.size_append] at h_; omega)))
     (try (have c14y0 := c14b0; simp only [ByteArray.size_append] at c14y0))
     (try (have c14z0 := c14b0; simp only [ByteArray.size_append, Int.natCast_add] at c14z0))
     (try (have c14y1 := c14b1; simp only [ByteArray.size_append] at c14y1))
     (try (have c14z1 := c14b1; simp only [ByteArray.size_append, Int.natCast_add] at c14z1))
     have H' := Aside0.mk H
     clear H
     try go_wp2
     have n0_ := Aside0.mk (Kd.R_drew HO_3.out)
     have n1_ := Aside0.mk (below_drew1 HB.out)
     clear HO_3
     clear HB
     have HO_3 := n0_
     have HB := n1_
     clear n0_ n1_
     have p103 : 0 ≤ (x5_1 : Int) := of_decide_eq_true (by first | (with_reducible assumption) | assumption)
     have q103 : x5_1 < (l0.length : Int) := of_decide_eq_true (by first | (with_reducible assumption) | assumption)
     obtain ⟨ad103, e103, hx103_0⟩ := Kd.at_int HR0.out x5_1 p103 q103
     have hw103_0 := hx103_0
     cases e103
     replace hx103_0 := (HB.out.cell (World.block_lt_of_cell? w _ hx103_0)).trans hx103_0
     replace p103 := eq_true p103
     replace q103 := eq_true q103
     have p104 : 0 ≤ (x5_1 : Int) := of_decide_eq_true (by first | (with_reducible assumption) | assumption)
     have q104 : x5_1 < (l0.length : Int) := of_decide_eq_true (by first | (with_reducible assumption) | assumption)
     obtain ⟨ad104, e104, hx104_0⟩ := Kd.at_int HR0.out x5_1 p104 q104
     have hw104_0 := hx104_0
     obtain rfl : ad103 = ad104 := (by injection e104)
     replace hx104_0 := (HB.out.cell (World.block_lt_of_cell? w _ hx104_0)).trans hx104_0
     replace p104 := eq_true p104
     replace q104 := eq_true q104
     refine start_ (n := 15) (S := fun w' => w'.cell? (ad103.add (x5_1).toNat) = some (.int .u8 (rd l0 x5_1)) ∧ w'.cell? (ad103.add (x5_1).toNat) = some (.int .u8 (rd l0 x5_1))) (ds := []) #[false, false, false, false, false, false, false, false, false, false, false, false, false, false, false] (by kernel_rfl) rfl rfl ⟨((HB.out.cell (World.block_lt_of_cell? w _ hw103_0)).trans hw103_0), ((HB.out.cell (World.block_lt_of_cell? w _ hw104_0)).trans hw104_0)⟩ (fun hHeld => ?_); refine with_tabW laws_FnElements.tab6 laws_FnElements.bits6 (fun HT_ HW_ => ?_)
     generalize wr.drew = w15 at HO_3 HB hx103_0 hx104_0 hHeld ⊢
     refine pure_ (i := 0) (N := some 17) (v := ?_) (a' := ?_) #[true, false, false, false, false, false, false, false, false, false, false, false, false, false, false] rfl rfl (any_of HT_.out (by kernel_rfl)) (fun _ _ _ h => h) (Or.inl ⟨by rfl, ?_⟩) ?_ ?_
     rotate_left
     ·
      intro w'
      go_simp
      with_reducible rfl
     rotate_left
     ·
      simp only [Act.put, List.setIfInBounds_toArray, List.set_cons_zero, List.set_cons_succ, i64_w, i32_w]
      rfl
     refine pure_ (i := 1) (N := some 18) (v := ?_) (a' := ?_) #[true, true, false, false, false, false, false, false, false, false, false, false, false, false, false] rfl rfl (any_of HT_.out (by kernel_rfl)) (fun _ _ _ h => h) (Or.inl ⟨by rfl, ?_⟩) ?_ ?_
     rotate_left
     ·
      intro w'
      go_simp
      with_reducible rfl
     rotate_left
     ·
      simp only [Act.put, List.setIfInBounds_toArray, List.set_cons_zero, List.set_cons_succ, i64_w, i32_w]
      rfl
     refine pure_ (i := 2) (N := some 19) (v := ?_) (a' := ?_) #[true, true, true, false, false, false, false, false, false, false, false, false, false, false, false] rfl rfl (any_of HT_.out (by kernel_rfl)) (fun _ _ _ h => h) (Or.inl ⟨by rfl, ?_⟩) ?_ ?_
     rotate_left
     ·
      intro w'
      go_simp
      with_reducible rfl
     rotate_left
     ·
      simp only [Act.put, List.setIfInBounds_toArray, List.set_cons_zero, List.set_cons_succ, i64_w, i32_w]
      rfl
     refine pure_ (i := 6) (N := some 23) (v := ?_) (a' := ?_) #[true, true, true, false, false, false, true, false, false, false, false, false, false, false, false] rfl rfl (any_of HT_.out (by kernel_rfl)) (fun _ _ _ h => h) (Or.inl ⟨by rfl, ?_⟩) ?_ ?_
     rotate_left
     ·
      intro w'
      go_simp
      with_reducible rfl
     rotate_left
     ·
      simp only [Act.put, List.setIfInBounds_toArray, List.set_cons_zero, List.set_cons_succ, i64_w, i32_w]
      rfl
     refine pure_ (i := 7) (N := some 24) (v := ?_) (a' := ?_) #[true, true, true, false, false, false, true, true, false, false, false, false, false, false, false] rfl rfl (any_of HT_.out (by kernel_rfl)) (fun _ _ _ h => h) (Or.inl ⟨by rfl, ?_⟩) ?_ ?_
     rotate_left
     ·
      intro w'
      go_simp
      with_reducible rfl
     rotate_left
     ·
      simp only [Act.put, List.setIfInBounds_toArray, List.set_cons_zero, List.set_cons_succ, i64_w, i32_w]
      rfl
     refine pure_ (i := 8) (N := some 25) (v := ?_) (a' := ?_) #[true, true, true, false, false, false, true, true, true, false, false, false, false, false, false] rfl rfl (any_of HT_.out (by kernel_rfl)) (fun _ _ _ h => h) (Or.inl ⟨by rfl, ?_⟩) ?_ ?_
     rotate_left
     ·
      intro w'
      go_simp
      with_reducible rfl
     rotate_left
     ·
      simp only [Act.put, List.setIfInBounds_toArray, List.set_cons_zero, List.set_cons_succ, i64_w, i32_w]
      rfl
     refine take_ (i := 3) (N := some 20) (v := ?_) (a' := ?_) #[true, true, true, true, false, false, true, true, true, false, false, false, false, false, false] rfl rfl (take_ofW HT_.out HW_.out (by kernel_rfl)) (fun _ _ _ h => h) (Or.inl ⟨by rfl, ?_⟩) hHeld ?_ ?_
     rotate_left
     ·
      rintro w' ⟨s0, s1⟩
      go_simp
      with_reducible rfl
     rotate_left
     ·
      simp only [Act.put, List.setIfInBounds_toArray, List.set_cons_zero, List.set_cons_succ, i64_w, i32_w]
      rfl
     refine pure_ (i := 4) (N := some 21) (v := ?_) (a' := ?_) #[true, true, true, true, true, false, true, true, true, false, false, false, false, false, false] rfl rfl (any_of HT_.out (by kernel_rfl)) (fun _ _ _ h => h) (Or.inl ⟨by rfl, ?_⟩) ?_ ?_
     rotate_left
     ·
      intro w'
      go_simp
      with_reducible rfl
     rotate_left
     ·
      simp only [Act.put, List.setIfInBounds_toArray, List.set_cons_zero, List.set_cons_succ, i64_w, i32_w]
      rfl
     refine pure_ (i := 5) (N := some 22) (v := ?_) (a' := ?_) #[true, true, true, true, true, true, true, true, true, false, false, false, false, false, false] rfl rfl (any_of HT_.out (by kernel_rfl)) (fun _ _ _ h => h) (Or.inl ⟨by rfl, ?_⟩) ?_ ?_
     rotate_left
     ·
      intro w'
      go_simp
      with_reducible rfl
     rotate_left
     ·
      simp only [Act.put, List.setIfInBounds_toArray, List.set_cons_zero, List.set_cons_succ, i64_w, i32_w]
      rfl
     refine take_ (i := 9) (N := some 26) (v := ?_) (a' := ?_) #[true, true, true, true, true, true, true, true, true, true, false, false, false, false, false] rfl rfl (take_ofW HT_.out HW_.out (by kernel_rfl)) (fun _ _ _ h => h) (Or.inl ⟨by rfl, ?_⟩) hHeld ?_ ?_
     rotate_left
     ·
      rintro w' ⟨s0, s1⟩
      go_simp
      with_reducible rfl
     rotate_left
     ·
      simp only [Act.put, List.setIfInBounds_toArray, List.set_cons_zero, List.set_cons_succ, i64_w, i32_w]
      rfl
     refine pure_ (i := 10) (N := some 27) (v := ?_) (a' := ?_) #[true, true, true, true, true, true, true, true, true, true, true, false, false, false, false] rfl rfl (any_of HT_.out (by kernel_rfl)) (fun _ _ _ h => h) (Or.inl ⟨by rfl, ?_⟩) ?_ ?_
     rotate_left
     ·
      intro w'
      go_simp
      with_reducible rfl
     rotate_left
     ·
      simp only [Act.put, List.setIfInBounds_toArray, List.set_cons_zero, List.set_cons_succ, i64_w, i32_w]
      rfl
     refine pure_ (i := 11) (N := some 28) (v := ?_) (a' := ?_) #[true, true, true, true, true, true, true, true, true, true, true, true, false, false, false] rfl rfl (any_of HT_.out (by kernel_rfl)) (fun _ _ _ h => h) (Or.inl ⟨by rfl, ?_⟩) ?_ ?_
     rotate_left
     ·
      intro w'
      go_simp
      with_reducible rfl
     rotate_left
     ·
      simp only [Act.put, List.setIfInBounds_toArray, List.set_cons_zero, List.set_cons_succ, i64_w, i32_w]
      rfl
     refine one_ (i := 12) (N := some 29) #[true, true, true, true, true, true, true, true, true, true, true, true, true, false, false] rfl rfl (one_of HT_.out (by kernel_rfl)) (by decide) (fun K hK => ?_)
     refine Kd.R_lit_step (Kd.int .u8) _ 5 ?hg (N := 29) ?hd (xs := ([(97 + (Int.tmod (rd l0 x5_1) 26)) % 256, (48 + (Int.tmod (rd l0 x5_1) 10)) % 256] : List Int)) (inner := [.int .u8 ((97 + (Int.tmod (rd l0 x5_1) 26)) % 256), .int .u8 ((48 + (Int.tmod (rd l0 x5_1) 10)) % 256)]) (ok := fun _ => True) (okp := fun _ => True) ?hr ?hp (fun _ hk => hk) trivial (Below.refl _ _) (Nat.le_refl _) (by simp) ?_; (case hd => rfl); (case hg => rfl); (case hr => first | (go_simp; done) | (go_simp; rfl)); (case hp => exact (Reps.one (show Kd.M (Kd.int .u8) _ _ _ ((97 + (Int.tmod (rd l0 x5_1) 26)) % 256) [.int .u8 ((97 + (Int.tmod (rd l0 x5_1) 26)) % 256)] from rfl) (Reps.one (show Kd.M (Kd.int .u8) _ _ _ ((48 + (Int.tmod (rd l0 x5_1) 10)) % 256) [.int .u8 ((48 + (Int.tmod (rd l0 x5_1) 10)) % 256)] from rfl) (Reps.none _ _))))
     intro v106 w16 ho17 hb hg_ hnew_
     clear hg_ hnew_
     (first | rw [← Ny105.out] at ho17 | (simp only [Int.reduceToNat] at ho17; rw [← Ny105.out] at ho17))
     have n0_ := Aside0.mk (Kd.R_below (by (with_reducible repeat (first | apply Kd.R_alloc | apply Kd.R_drewN | apply Kd.R_drew)); exact HO_3.out) hb)
     have n1_ := Aside0.mk (Kd.R_lower ho17 (below_size (by repeat (first | (with_reducible first | exact HB.out | apply below_alloc | apply pw_below_drewN | apply below_drew1) | exact HB.out))))
     have n2_ := Aside0.mk (below_step (by repeat (first | (with_reducible first | exact HB.out | apply below_alloc | apply pw_below_drewN | apply below_drew1) | exact HB.out)) hb)
     clear HO_3
     clear HB
     have HO_3 := n0_
     have HO107 := n1_
     have HB := n2_
     clear n0_ n1_ n2_
     clear hb ho17
     refine hK.out _ _ ⟨((HB.out.cell (World.block_lt_of_cell? w _ hw103_0)).trans hw103_0), ((HB.out.cell (World.block_lt_of_cell? w _ hw104_0)).trans hw104_0)⟩ (fun hHeld => ?_)
     clear hK K
     refine norm_ (a' := ?_) ?_ ?_
     rotate_left
     ·
      show Act.put _ (some 29) _ = _
      simp only [Act.put, List.setIfInBounds_toArray, List.set_cons_zero, List.set_cons_succ, i64_w, i32_w]
      rfl
     refine one_ (i := 13) (N := some 30) #[true, true, true, true, true, true, true, true, true, true, true, true, true, true, false] rfl rfl (one_of HT_.out (by kernel_rfl)) (by decide) (fun K hK => ?_)
     have hcv18 := own_string (P := Tryd.prog) Tryd.underlying22 Tryd.underlying5 Tryd.underlying9 (Kd.own_of_R HO107.out)
     refine value_ (w1 := ?_) (v := ?_) (by rfl) rfl ?_ ?_
     rotate_left 2
     ·
      go_simp
      constructor
      ·
       rfl
      ·
       rfl
     clear hcv18
     refine hK.out _ _ ⟨((HB.out.cell (World.block_lt_of_cell? w _ hw103_0)).trans hw103_0), ((HB.out.cell (World.block_lt_of_cell? w _ hw104_0)).trans hw104_0)⟩ (fun hHeld => ?_)
     clear hK K
     refine norm_ (a' := ?_) ?_ ?_
     rotate_left
     ·
      show Act.put _ (some 30) _ = _
      simp only [Act.put, List.setIfInBounds_toArray, List.set_cons_zero, List.set_cons_succ, i64_w, i32_w]
      rfl
     refine pure_ (i := 14) (N := some 6) (v := ?_) (a' := ?_) #[true, true, true, true, true, true, true, true, true, true, true, true, true, true, true] rfl rfl (any_of HT_.out (by kernel_rfl)) (fun _ _ _ h => h) (Or.inl ⟨by rfl, ?_⟩) ?_ ?_
     rotate_left
     ·
      intro w'
      go_simp
      with_reducible rfl
     rotate_left
     ·
      simp only [Act.put, List.setIfInBounds_toArray, List.set_cons_zero, List.set_cons_succ, i64_w, i32_w]
      rfl
     refine done_ (done_of HT_.out (by kernel_rfl)) ?_
     try go_wp2_with (first | ((with_reducible refine gate_builtin (b := .append) (xs := #[.tmp 31, .tmp 33]) rfl ?_); at_builtin; refine Kd.R_append Kd.string (w0 := w) w.heap.size rfl (.tmp 31) (.tmp 33) 27 9 (.string ⟨#[]⟩) 16 rfl Tryd.underlying27 info9 rfl (by decide) (by omega) u3 x3_1 (strOfNums y105) [.string (strOfNums y105)] (fun _ => True) (fun _ => False) rfl rfl ?aP (fun _ hk => hk.elim) ?aF ?aO ?aB ?aS ?aL ?_; (case aP => exact rfl); (case aB => exact (by repeat (first | (with_reducible first | exact HB.out | apply below_alloc | apply pw_below_drewN | apply below_drew1) | exact HB.out))); (case aF => exact (fun _ _ => trivial)); (case aO => exact (by (with_reducible repeat (first | apply Kd.R_alloc | apply Kd.R_drewN | apply Kd.R_drew)); exact HO_3.out)); (case aS => exact (below_size (by repeat (first | (with_reducible first | exact HB.out | apply below_alloc | apply pw_below_drewN | apply below_drew1) | exact HB.out)))); (case aL => have := LMc5.out; omega); intro v109 w19 ho hb hg hat; rw [← Ny108.out] at ho; have n0_ := Aside0.mk (Kd.R_over' (by (with_reducible repeat (first | apply Kd.R_alloc | apply Kd.R_drewN | apply Kd.R_drew)); exact HO107.out) (Kd.R_typed (by (with_reducible repeat (first | apply Kd.R_alloc | apply Kd.R_drewN | apply Kd.R_drew)); exact HO_3.out)) (by decide) hg); have n1_ := Aside0.mk (hb); have n2_ := Aside0.mk (ho); clear HO107; clear HB; clear HO_3; have HO107 := n0_; have HB := n1_; have HO110 := n2_; clear n0_ n1_ n2_; clear ho hb hg hat))
     have pi115 : (0 ≤ ((ji6) : Int)) = True := eq_true (of_decide_eq_true (by first | (with_reducible assumption) | assumption))
     have qi115 : ((ji6) < (y111.length : Int)) = True := eq_true (of_decide_eq_true (by first | (with_reducible assumption) | assumption))
     have pi120 : (0 ≤ ((ji11) : Int)) = True := eq_true (of_decide_eq_true (by first | (with_reducible assumption) | assumption))
     have qi120 : ((ji11) < (y116.length : Int)) = True := eq_true (of_decide_eq_true (by first | (with_reducible assumption) | assumption))
     have n0_ := Aside0.mk (Kd.R_drew HO107.out)
     have n1_ := Aside0.mk (Kd.R_drew HO110.out)
     have n2_ := Aside0.mk (below_drew1 HB.out)
     clear HO107
     clear HO110
     clear HB
     have HO107 := n0_
     have HO110 := n1_
     have HB := n2_
     clear n0_ n1_ n2_
     have p114 : 0 ≤ (x5_1 : Int) := of_decide_eq_true (by first | (with_reducible assumption) | assumption)
     have q114 : x5_1 < (l0.length : Int) := of_decide_eq_true (by first | (with_reducible assumption) | assumption)
     obtain ⟨ad114, e114, hx114_0⟩ := Kd.at_int HR0.out x5_1 p114 q114
     have hw114_0 := hx114_0
     obtain rfl : ad103 = ad114 := (by injection e114)
     replace hx114_0 := (HB.out.cell (World.block_lt_of_cell? w _ hx114_0)).trans hx114_0
     replace p114 := eq_true p114
     replace q114 := eq_true q114
     have p119 : 0 ≤ (x5_1 : Int) := of_decide_eq_true (by first | (with_reducible assumption) | assumption)
     have q119 : x5_1 < (l0.length : Int) := of_decide_eq_true (by first | (with_reducible assumption) | assumption)
     obtain ⟨ad119, e119, hx119_0⟩ := Kd.at_int HR0.out x5_1 p119 q119
     have hw119_0 := hx119_0
     obtain rfl : ad103 = ad119 := (by injection e119)
     replace hx119_0 := (HB.out.cell (World.block_lt_of_cell? w _ hx119_0)).trans hx119_0
     replace p119 := eq_true p119
     replace q119 := eq_true q119
     refine start_ (n := 23) (S := fun w' => True) (ds := []) #[false, false, false, false, false, false, false, false, false, false, false, false, false, false, false, false, false, false, false, false, false, false, false] (by kernel_rfl) rfl rfl trivial (fun hHeld => ?_); refine with_tabW laws_FnElements.tab8 laws_FnElements.bits8 (fun HT_ HW_ => ?_)
     generalize w19.drew = w20 at HO107 HO110 HB hx114_0 hx119_0 hHeld ⊢
     refine pure_ (i := 0) (N := some 35) (v := ?_) (a' := ?_) #[true, false, false, false, false, false, false, false, false, false, false, false, false, false, false, false, false, false, false, false, false, false, false] rfl rfl (any_of HT_.out (by kernel_rfl)) (fun _ _ _ h => h) (Or.inl ⟨by rfl, ?_⟩) ?_ ?_
     rotate_left
     ·
      intro w'
      go_simp
      with_reducible rfl
     rotate_left
     ·
      simp only [Act.put, List.setIfInBounds_toArray, List.set_cons_zero, List.set_cons_succ, i64_w, i32_w]
      rfl
     refine pure_ (i := 2) (N := some 37) (v := ?_) (a' := ?_) #[true, false, true, false, false, false, false, false, false, false, false, false, false, false, false, false, false, false, false, false, false, false, false] rfl rfl (any_of HT_.out (by kernel_rfl)) (fun _ _ _ h => h) (Or.inl ⟨by rfl, ?_⟩) ?_ ?_
     rotate_left
     ·
      intro w'
      go_simp
      with_reducible rfl
     rotate_left
     ·
      simp only [Act.put, List.setIfInBounds_toArray, List.set_cons_zero, List.set_cons_succ, i64_w, i32_w]
      rfl
     refine pure_ (i := 3) (N := some 38) (v := ?_) (a' := ?_) #[true, false, true, true, false, false, false, false, false, false, false, false, false, false, false, false, false, false, false, false, false, false, false] rfl rfl (any_of HT_.out (by kernel_rfl)) (fun _ _ _ h => h) (Or.inl ⟨by rfl, ?_⟩) ?_ ?_
     rotate_left
     ·
      intro w'
      go_simp
      with_reducible rfl
     rotate_left
     ·
      simp only [Act.put, List.setIfInBounds_toArray, List.set_cons_zero, List.set_cons_succ, i64_w, i32_w]
      rfl
     refine pure_ (i := 10) (N := some 45) (v := ?_) (a' := ?_) #[true, false, true, true, false, false, false, false, false, false, true, false, false, false, false, false, false, false, false, false, false, false, false] rfl rfl (any_of HT_.out (by kernel_rfl)) (fun _ _ _ h => h) (Or.inl ⟨by rfl, ?_⟩) ?_ ?_
     rotate_left
     ·
      intro w'
      go_simp
      with_reducible rfl
     rotate_left
     ·
      simp only [Act.put, List.setIfInBounds_toArray, List.set_cons_zero, List.set_cons_succ, i64_w, i32_w]
      rfl
     refine pure_ (i := 13) (N := some 48) (v := ?_) (a' := ?_) #[true, false, true, true, false, false, false, false, false, false, true, false, false, true, false, false, false, false, false, false, false, false, false] rfl rfl (any_of HT_.out (by kernel_rfl)) (fun _ _ _ h => h) (Or.inl ⟨by rfl, ?_⟩) ?_ ?_
     rotate_left
     ·
      intro w'
      go_simp
      with_reducible rfl
     rotate_left
     ·
      simp only [Act.put, List.setIfInBounds_toArray, List.set_cons_zero, List.set_cons_succ, i64_w, i32_w]
      rfl
     refine pure_ (i := 14) (N := some 49) (v := ?_) (a' := ?_) #[true, false, true, true, false, false, false, false, false, false, true, false, false, true, true, false, false, false, false, false, false, false, false] rfl rfl (any_of HT_.out (by kernel_rfl)) (fun _ _ _ h => h) (Or.inl ⟨by rfl, ?_⟩) ?_ ?_
     rotate_left
     ·
      intro w'
      go_simp
      with_reducible rfl
     rotate_left
     ·
      simp only [Act.put, List.setIfInBounds_toArray, List.set_cons_zero, List.set_cons_succ, i64_w, i32_w]
      rfl
     refine inv_at [1, 4, 5, 6, 7, 8, 9, 11, 12, 15, 16, 17, 18, 19, 20, 21, 22] (fun a0_ b a w' => ∃ (v112 : Value) (adz_v112 : Addr) (v117 : Value) (adz_v117 : Addr) (m7_ : Value) (m19_ : Value), a = putSel a0_ b [(1, 36, v112), (4, 39, .pointer (some (ad103.add (x5_1).toNat))), (5, 40, .int .u8 (rd l0 x5_1)), (6, 41, .int .u8 ji6), (7, 42, m7_), (8, 43, .string (rdOf ByteArray.empty y111 (ji6))), (9, 44, .string (x4_1 ++ (rdOf ByteArray.empty y111 (ji6)))), (11, 46, .string ((x4_1 ++ (rdOf ByteArray.empty y111 (ji6))) ++ (strOfNums y105))), (12, 47, v117), (15, 50, .pointer (some (ad103.add (x5_1).toNat))), (16, 51, .int .u8 (rd l0 x5_1)), (17, 52, .int .u8 ((Int.tdiv (rd l0 x5_1) 16) % 256)), (18, 53, .int .u8 ji11), (19, 54, m19_), (20, 55, .string (rdOf ByteArray.empty y116 (ji11))), (21, 56, .string (((x4_1 ++ (rdOf ByteArray.empty y111 (ji6))) ++ (strOfNums y105)) ++ (rdOf ByteArray.empty y116 (ji11)))), (22, 4, .string (((x4_1 ++ (rdOf ByteArray.empty y111 (ji6))) ++ (strOfNums y105)) ++ (rdOf ByteArray.empty y116 (ji11))))] ∧ (Kd.R (Kd.int .u8) 5 w' w.heap.size (fun _ => True) v106 y105) ∧ (Kd.R Kd.string 9 w' w.heap.size (fun _ => True) v109 y108) ∧ (Below w.heap.size w w') ∧ (b 1 = true → Kd.R Kd.string 9 w' w.heap.size (fun k_ => some k_ ≠ (v109 : Value).ownBlock) v112 y111) ∧ (b 1 = true → ∃ c_, (v112 : Value) = .slice (some adz_v112) y111.length c_) ∧ (b 12 = true → Kd.R Kd.string 9 w' w.heap.size (fun k_ => some k_ ≠ (v109 : Value).ownBlock) v117 y116) ∧ (b 12 = true → ∃ c_, (v117 : Value) = .slice (some adz_v117) y116.length c_) ∧ (b 7 = true → (m7_ : Value) = .pointer (some (adz_v112.add ((ji6)).toNat))) ∧ (b 19 = true → (m19_ : Value) = .pointer (some (adz_v117.add ((ji11)).toNat)))) HT_.out HW_.out (by kernel_rfl) (by kernel_rfl) ?_ ?_ ?_
     ·
      exact ⟨.bool false, ⟨0, 0, none⟩, .bool false, ⟨0, 0, none⟩, .bool false, .bool false, by simp only [putSel, Bool.false_eq_true, if_false], HO107.out, HO110.out, HB.out, fun h_ => absurd h_ (by decide), fun h_ => absurd h_ (by decide), fun h_ => absurd h_ (by decide), fun h_ => absurd h_ (by decide), fun h_ => absurd h_ (by decide), fun h_ => absurd h_ (by decide)⟩
     ·
      skip
      clear HB HO107 HO110
      refine steps_cons ?_ ?_
      ·
       rintro b a w' ⟨v112, adz_v112, v117, adz_v117, m7_, m19_, ha, Q_HO107, Q_HO110, Q_HB, Q_HO113, Q_HA_HO113, Q_HO118, Q_HA_HO118, Q_X7_, Q_X19_⟩ hb_ hon hoff
       refine ⟨_, rfl, fun K hK => ?_⟩
       replace ha := Aside0.mk ha
       have HO107 := Aside0.mk Q_HO107
       have HO110 := Aside0.mk Q_HO110
       have HB := Aside0.mk Q_HB
       refine Kd.R_lit_step Kd.string _ 9 ?hg (N := 36) ?hd (xs := ([(⟨#[]⟩ : ByteArray), (⟨#[32]⟩ : ByteArray), (⟨#[44]⟩ : ByteArray), (⟨#[44, 32, 9, 44]⟩ : ByteArray)] : List ByteArray)) (inner := [.string (⟨#[]⟩ : ByteArray), .string (⟨#[32]⟩ : ByteArray), .string (⟨#[44]⟩ : ByteArray), .string (⟨#[44, 32, 9, 44]⟩ : ByteArray)]) (ok := fun _ => True) (okp := fun _ => True) ?hr ?hp (fun _ hk => hk) trivial (Below.refl _ _) (Nat.le_refl _) (by simp) ?_; (case hd => rfl); (case hg => rfl); (case hr => first | (go_simp; done) | (go_simp; rfl)); (case hp => exact (Reps.one (show Kd.M Kd.string _ _ _ (⟨#[]⟩ : ByteArray) [.string (⟨#[]⟩ : ByteArray)] from rfl) (Reps.one (show Kd.M Kd.string _ _ _ (⟨#[32]⟩ : ByteArray) [.string (⟨#[32]⟩ : ByteArray)] from rfl) (Reps.one (show Kd.M Kd.string _ _ _ (⟨#[44]⟩ : ByteArray) [.string (⟨#[44]⟩ : ByteArray)] from rfl) (Reps.one (show Kd.M Kd.string _ _ _ (⟨#[44, 32, 9, 44]⟩ : ByteArray) [.string (⟨#[44, 32, 9, 44]⟩ : ByteArray)] from rfl) (Reps.none _ _))))))
       intro v112 w21 ho22 hb hg_ hnew_
       clear hg_ hnew_
       (first | rw [← Ny111.out] at ho22 | (simp only [Int.reduceToNat] at ho22; rw [← Ny111.out] at ho22))
       have n0_ := Aside0.mk (Kd.R_below (by (with_reducible repeat (first | apply Kd.R_alloc | apply Kd.R_drewN | apply Kd.R_drew)); exact HO107.out) hb)
       have n1_ := Aside0.mk (Kd.R_elder' (by (with_reducible repeat (first | apply Kd.R_alloc | apply Kd.R_drewN | apply Kd.R_drew)); exact HO110.out) (Kd.R_base ho22) hb)
       have n2_ := Aside0.mk (Kd.R_lower (Kd.R_new' ho22 (Kd.R_lt (by (with_reducible repeat (first | apply Kd.R_alloc | apply Kd.R_drewN | apply Kd.R_drew)); exact HO110.out))) (below_size (by repeat (first | (with_reducible first | exact HB.out | apply below_alloc | apply pw_below_drewN | apply below_drew1) | exact HB.out))))
       have n3_ := Aside0.mk (below_step (by repeat (first | (with_reducible first | exact HB.out | apply below_alloc | apply pw_below_drewN | apply below_drew1) | exact HB.out)) hb)
       have z_HO118 := fun (h0_ : b 12 = true) => (show Kd.R Kd.string 9 w21 w.heap.size (fun k_ => some k_ ≠ (v109 : Value).ownBlock) v117 y116 from by first | exact (Kd.R_elder' (by (with_reducible repeat (first | apply Kd.R_alloc | apply Kd.R_drewN | apply Kd.R_drew)); exact (Q_HO118 h0_)) (Kd.R_base ho22) hb) | exact Kd.R_mono (Kd.R_elder' (by (with_reducible repeat (first | apply Kd.R_alloc | apply Kd.R_drewN | apply Kd.R_drew)); exact (Q_HO118 h0_)) (Kd.R_base ho22) hb) (fun _ h_ => by first | trivial | exact h_ | exact h_.1))
       clear HO107
       clear HO110
       clear HB
       have HO107 := n0_
       have HO110 := n1_
       have HO113 := n2_
       have HB := n3_
       clear n0_ n1_ n2_ n3_
       clear hb ho22
       obtain ⟨Ao23, co23, eo23⟩ := Kd.R_slice HO113.out
       subst eo23
       obtain ⟨ado23, fo23, _⟩ := Kd.at_string (Kd.R_reads' HO113.out).2.2 0 (by decide) (by rw [Ny111.out]; simp)
       cases fo23
       refine hK.out _ _ ⟨.slice (some ado23) y111.length co23, ado23, v117, adz_v117, m7_, m19_, (by rw [ha.out]; exact putSel_upk 0 hb_ rfl rfl rfl), (by (with_reducible repeat (first | apply Kd.R_alloc | apply Kd.R_drewN | apply Kd.R_drew)); exact HO107.out), (by (with_reducible repeat (first | apply Kd.R_alloc | apply Kd.R_drewN | apply Kd.R_drew)); first | exact Kd.R_mono HO110.out (fun _ hk => hk.2) | exact Kd.R_mono HO110.out (fun _ _ => trivial)), (by repeat (first | (with_reducible first | exact HB.out | apply below_alloc | apply pw_below_drewN | apply below_drew1) | exact HB.out)), fun _ => (by (with_reducible repeat (first | apply Kd.R_alloc | apply Kd.R_drewN | apply Kd.R_drew)); first | exact Kd.R_mono HO113.out (fun _ hk => hk.2) | exact Kd.R_mono HO113.out (fun _ _ => trivial)), fun _ => ⟨_, rfl⟩, z_HO118, Q_HA_HO118, fun h0_ => absurd ((hoff 7 (by kernel_rfl)).symm.trans h0_) (by decide), Q_X19_⟩
      refine steps_cons ?_ ?_
      ·
       rintro b a w' ⟨v112, adz_v112, v117, adz_v117, m7_, m19_, ha, Q_HO107, Q_HO110, Q_HB, Q_HO113, Q_HA_HO113, Q_HO118, Q_HA_HO118, Q_X7_, Q_X19_⟩ hb_ hon hoff
       refine ⟨_, rfl, fun K hK => ?_⟩
       have e37 : a.tmps[37]? = some (.slice (some ad103) l0.length c0) := by rw [ha]; exact (putSel_off rfl).trans rfl
       have e38 : a.tmps[38]? = some (.int .i64 x5_1) := by rw [ha]; exact (putSel_off rfl).trans rfl
       replace ha := Aside0.mk ha
       have HO107 := Aside0.mk Q_HO107
       have HO110 := Aside0.mk Q_HO110
       have HB := Aside0.mk Q_HB
       have hs0_ : w'.cell? (ad103.add (x5_1).toNat) = some (.int .u8 (rd l0 x5_1)) := ((HB.out.cell (World.block_lt_of_cell? w _ hw114_0)).trans hw114_0)
       refine value_ (w1 := w') (v := .pointer (some (ad103.add (x5_1).toNat))) (by rfl) rfl ?_ ?_
       ·
        go_simp
        (try simp only [i64_w])
        try rfl
       refine hK.out _ _ ⟨v112, adz_v112, v117, adz_v117, m7_, m19_, (by rw [ha.out]; exact putSel_upk 1 hb_ rfl rfl rfl), Q_HO107, Q_HO110, Q_HB, Q_HO113, Q_HA_HO113, Q_HO118, Q_HA_HO118, fun h0_ => absurd ((hoff 7 (by kernel_rfl)).symm.trans h0_) (by decide), Q_X19_⟩
      refine steps_cons ?_ ?_
      ·
       rintro b a w' ⟨v112, adz_v112, v117, adz_v117, m7_, m19_, ha, Q_HO107, Q_HO110, Q_HB, Q_HO113, Q_HA_HO113, Q_HO118, Q_HA_HO118, Q_X7_, Q_X19_⟩ hb_ hon hoff
       refine ⟨_, rfl, fun K hK => ?_⟩
       have e39 : a.tmps[39]? = some (.pointer (some (ad103.add (x5_1).toNat))) := by rw [ha]; exact putSel_on (e := (4, 39, .pointer (some (ad103.add (x5_1).toNat)))) 1 rfl rfl (hon 4 (by kernel_rfl)) rfl
       replace ha := Aside0.mk ha
       have HO107 := Aside0.mk Q_HO107
       have HO110 := Aside0.mk Q_HO110
       have HB := Aside0.mk Q_HB
       have hs0_ : w'.cell? (ad103.add (x5_1).toNat) = some (.int .u8 (rd l0 x5_1)) := ((HB.out.cell (World.block_lt_of_cell? w _ hw114_0)).trans hw114_0)
       refine value_ (w1 := w') (v := .int .u8 (rd l0 x5_1)) (by rfl) rfl ?_ ?_
       ·
        go_simp
        (try simp only [i64_w])
        try rfl
       refine hK.out _ _ ⟨v112, adz_v112, v117, adz_v117, m7_, m19_, (by rw [ha.out]; exact putSel_upk 2 hb_ rfl rfl rfl), Q_HO107, Q_HO110, Q_HB, Q_HO113, Q_HA_HO113, Q_HO118, Q_HA_HO118, fun h0_ => absurd ((hoff 7 (by kernel_rfl)).symm.trans h0_) (by decide), Q_X19_⟩
      refine steps_cons ?_ ?_
      ·
       rintro b a w' ⟨v112, adz_v112, v117, adz_v117, m7_, m19_, ha, Q_HO107, Q_HO110, Q_HB, Q_HO113, Q_HA_HO113, Q_HO118, Q_HA_HO118, Q_X7_, Q_X19_⟩ hb_ hon hoff
       refine ⟨_, rfl, fun K hK => ?_⟩
       have e40 : a.tmps[40]? = some (.int .u8 (rd l0 x5_1)) := by rw [ha]; exact putSel_on (e := (5, 40, .int .u8 (rd l0 x5_1))) 2 rfl rfl (hon 5 (by kernel_rfl)) rfl
       replace ha := Aside0.mk ha
       have HO107 := Aside0.mk Q_HO107
       have HO110 := Aside0.mk Q_HO110
       have HB := Aside0.mk Q_HB
       refine value_ (w1 := w') (v := .int .u8 ji6) (by rfl) rfl ?_ ?_
       ·
        go_simp
        (try simp only [i64_w])
        try rfl
        (try (first | (rw [IntKind.wrap_u8]; exact hji6) | (rw [Int.tmod_eq_emod_of_nonneg (by omega)]; exact hji6)))
       refine hK.out _ _ ⟨v112, adz_v112, v117, adz_v117, m7_, m19_, (by rw [ha.out]; exact putSel_upk 3 hb_ rfl rfl rfl), Q_HO107, Q_HO110, Q_HB, Q_HO113, Q_HA_HO113, Q_HO118, Q_HA_HO118, fun h0_ => absurd ((hoff 7 (by kernel_rfl)).symm.trans h0_) (by decide), Q_X19_⟩
      refine steps_cons ?_ ?_
      ·
       rintro b a w' ⟨v112, adz_v112, v117, adz_v117, m7_, m19_, ha, Q_HO107, Q_HO110, Q_HB, Q_HO113, Q_HA_HO113, Q_HO118, Q_HA_HO118, Q_X7_, Q_X19_⟩ hb_ hon hoff
       refine ⟨_, rfl, fun K hK => ?_⟩
       have e36 : a.tmps[36]? = some (v112) := by rw [ha]; exact putSel_on (e := (1, 36, v112)) 0 rfl rfl (hon 1 (by kernel_rfl)) rfl
       have e41 : a.tmps[41]? = some (.int .u8 ji6) := by rw [ha]; exact putSel_on (e := (6, 41, .int .u8 ji6)) 3 rfl rfl (hon 6 (by kernel_rfl)) rfl
       replace ha := Aside0.mk ha
       have HO107 := Aside0.mk Q_HO107
       have HO110 := Aside0.mk Q_HO110
       have HB := Aside0.mk Q_HB
       have HO113 := Aside0.mk (Q_HO113 (hon 1 (by kernel_rfl)))
       have HA_HO113 := Aside0.mk (Q_HA_HO113 (hon 1 (by kernel_rfl)))
       obtain ⟨c_, hv_⟩ := HA_HO113.out
       rw [hv_] at e36
       refine value_ (w1 := w') (v := .pointer (some (adz_v112.add ((ji6)).toNat))) (by rfl) rfl ?_ ?_
       ·
        go_simp
        (try simp only [i64_w])
        try rfl
       refine hK.out _ _ ⟨v112, adz_v112, v117, adz_v117, (.pointer (some (adz_v112.add ((ji6)).toNat))), m19_, (by rw [ha.out]; exact putSel_upk 4 hb_ rfl rfl rfl), Q_HO107, Q_HO110, Q_HB, Q_HO113, Q_HA_HO113, Q_HO118, Q_HA_HO118, fun _ => rfl, Q_X19_⟩
      refine steps_cons ?_ ?_
      ·
       rintro b a w' ⟨v112, adz_v112, v117, adz_v117, m7_, m19_, ha, Q_HO107, Q_HO110, Q_HB, Q_HO113, Q_HA_HO113, Q_HO118, Q_HA_HO118, Q_X7_, Q_X19_⟩ hb_ hon hoff
       refine ⟨_, rfl, fun K hK => ?_⟩
       have e42 : a.tmps[42]? = some (m7_) := by rw [ha]; exact putSel_on (e := (7, 42, m7_)) 4 rfl rfl (hon 7 (by kernel_rfl)) rfl
       rw [Q_X7_ (hon 7 (by kernel_rfl))] at e42
       replace ha := Aside0.mk ha
       have HO107 := Aside0.mk Q_HO107
       have HO110 := Aside0.mk Q_HO110
       have HB := Aside0.mk Q_HB
       have HO113 := Aside0.mk (Q_HO113 (hon 1 (by kernel_rfl)))
       have HA_HO113 := Aside0.mk (Q_HA_HO113 (hon 1 (by kernel_rfl)))
       obtain ⟨c_, hv_⟩ := HA_HO113.out
       have hF_ := HO113.out
       rw [hv_] at hF_
       obtain ⟨ad_, ea_, hx_⟩ := Kd.at_string (Kd.R_reads' hF_).2.2 (ji6) (of_eq_true pi115) (of_eq_true qi115)
       cases ea_
       refine value_ (w1 := w') (v := .string (rdOf ByteArray.empty y111 (ji6))) (by rfl) rfl ?_ ?_
       ·
        go_simp
        (try simp only [i64_w])
        try rfl
       refine hK.out _ _ ⟨v112, adz_v112, v117, adz_v117, m7_, m19_, (by rw [ha.out]; exact putSel_upk 5 hb_ rfl rfl rfl), Q_HO107, Q_HO110, Q_HB, Q_HO113, Q_HA_HO113, Q_HO118, Q_HA_HO118, Q_X7_, Q_X19_⟩
      refine steps_cons ?_ ?_
      ·
       rintro b a w' ⟨v112, adz_v112, v117, adz_v117, m7_, m19_, ha, Q_HO107, Q_HO110, Q_HB, Q_HO113, Q_HA_HO113, Q_HO118, Q_HA_HO118, Q_X7_, Q_X19_⟩ hb_ hon hoff
       refine ⟨_, rfl, fun K hK => ?_⟩
       have e35 : a.tmps[35]? = some (.string x4_1) := by rw [ha]; exact (putSel_off rfl).trans rfl
       have e43 : a.tmps[43]? = some (.string (rdOf ByteArray.empty y111 (ji6))) := by rw [ha]; exact putSel_on (e := (8, 43, .string (rdOf ByteArray.empty y111 (ji6)))) 5 rfl rfl (hon 8 (by kernel_rfl)) rfl
       replace ha := Aside0.mk ha
       have HO107 := Aside0.mk Q_HO107
       have HO110 := Aside0.mk Q_HO110
       have HB := Aside0.mk Q_HB
       have HO113 := Aside0.mk (Q_HO113 (hon 1 (by kernel_rfl)))
       have HA_HO113 := Aside0.mk (Q_HA_HO113 (hon 1 (by kernel_rfl)))
       refine value_ (w1 := w') (v := .string (x4_1 ++ (rdOf ByteArray.empty y111 (ji6)))) (by rfl) rfl ?_ ?_
       ·
        go_simp
        (try simp only [i64_w])
        try rfl
       refine hK.out _ _ ⟨v112, adz_v112, v117, adz_v117, m7_, m19_, (by rw [ha.out]; exact putSel_upk 6 hb_ rfl rfl rfl), Q_HO107, Q_HO110, Q_HB, Q_HO113, Q_HA_HO113, Q_HO118, Q_HA_HO118, Q_X7_, Q_X19_⟩
      refine steps_cons ?_ ?_
      ·
       rintro b a w' ⟨v112, adz_v112, v117, adz_v117, m7_, m19_, ha, Q_HO107, Q_HO110, Q_HB, Q_HO113, Q_HA_HO113, Q_HO118, Q_HA_HO118, Q_X7_, Q_X19_⟩ hb_ hon hoff
       refine ⟨_, rfl, fun K hK => ?_⟩
       have e44 : a.tmps[44]? = some (.string (x4_1 ++ (rdOf ByteArray.empty y111 (ji6)))) := by rw [ha]; exact putSel_on (e := (9, 44, .string (x4_1 ++ (rdOf ByteArray.empty y111 (ji6))))) 6 rfl rfl (hon 9 (by kernel_rfl)) rfl
       have e45 : a.tmps[45]? = some (.string (strOfNums y105)) := by rw [ha]; exact (putSel_off rfl).trans rfl
       replace ha := Aside0.mk ha
       have HO107 := Aside0.mk Q_HO107
       have HO110 := Aside0.mk Q_HO110
       have HB := Aside0.mk Q_HB
       have HO113 := Aside0.mk (Q_HO113 (hon 1 (by kernel_rfl)))
       have HA_HO113 := Aside0.mk (Q_HA_HO113 (hon 1 (by kernel_rfl)))
       refine value_ (w1 := w') (v := .string ((x4_1 ++ (rdOf ByteArray.empty y111 (ji6))) ++ (strOfNums y105))) (by rfl) rfl ?_ ?_
       ·
        go_simp
        (try simp only [i64_w])
        try rfl
       refine hK.out _ _ ⟨v112, adz_v112, v117, adz_v117, m7_, m19_, (by rw [ha.out]; exact putSel_upk 7 hb_ rfl rfl rfl), Q_HO107, Q_HO110, Q_HB, Q_HO113, Q_HA_HO113, Q_HO118, Q_HA_HO118, Q_X7_, Q_X19_⟩
      refine steps_cons ?_ ?_
      ·
       rintro b a w' ⟨v112, adz_v112, v117, adz_v117, m7_, m19_, ha, Q_HO107, Q_HO110, Q_HB, Q_HO113, Q_HA_HO113, Q_HO118, Q_HA_HO118, Q_X7_, Q_X19_⟩ hb_ hon hoff
       refine ⟨_, rfl, fun K hK => ?_⟩
       replace ha := Aside0.mk ha
       have HO107 := Aside0.mk Q_HO107
       have HO110 := Aside0.mk Q_HO110
       have HB := Aside0.mk Q_HB
       refine Kd.R_lit_step Kd.string _ 9 ?hg (N := 47) ?hd (xs := ([(⟨#[44]⟩ : ByteArray), (⟨#[32, 44]⟩ : ByteArray), (⟨#[44, 44]⟩ : ByteArray), (⟨#[44, 32]⟩ : ByteArray)] : List ByteArray)) (inner := [.string (⟨#[44]⟩ : ByteArray), .string (⟨#[32, 44]⟩ : ByteArray), .string (⟨#[44, 44]⟩ : ByteArray), .string (⟨#[44, 32]⟩ : ByteArray)]) (ok := fun _ => True) (okp := fun _ => True) ?hr ?hp (fun _ hk => hk) trivial (Below.refl _ _) (Nat.le_refl _) (by simp) ?_; (case hd => rfl); (case hg => rfl); (case hr => first | (go_simp; done) | (go_simp; rfl)); (case hp => exact (Reps.one (show Kd.M Kd.string _ _ _ (⟨#[44]⟩ : ByteArray) [.string (⟨#[44]⟩ : ByteArray)] from rfl) (Reps.one (show Kd.M Kd.string _ _ _ (⟨#[32, 44]⟩ : ByteArray) [.string (⟨#[32, 44]⟩ : ByteArray)] from rfl) (Reps.one (show Kd.M Kd.string _ _ _ (⟨#[44, 44]⟩ : ByteArray) [.string (⟨#[44, 44]⟩ : ByteArray)] from rfl) (Reps.one (show Kd.M Kd.string _ _ _ (⟨#[44, 32]⟩ : ByteArray) [.string (⟨#[44, 32]⟩ : ByteArray)] from rfl) (Reps.none _ _))))))
       intro v117 w21 ho22 hb hg_ hnew_
       clear hg_ hnew_
       (first | rw [← Ny116.out] at ho22 | (simp only [Int.reduceToNat] at ho22; rw [← Ny116.out] at ho22))
       have n0_ := Aside0.mk (Kd.R_below (by (with_reducible repeat (first | apply Kd.R_alloc | apply Kd.R_drewN | apply Kd.R_drew)); exact HO107.out) hb)
       have n1_ := Aside0.mk (Kd.R_elder' (by (with_reducible repeat (first | apply Kd.R_alloc | apply Kd.R_drewN | apply Kd.R_drew)); exact HO110.out) (Kd.R_base ho22) hb)
       have n2_ := Aside0.mk (Kd.R_lower (Kd.R_new' ho22 (Kd.R_lt (by (with_reducible repeat (first | apply Kd.R_alloc | apply Kd.R_drewN | apply Kd.R_drew)); exact HO110.out))) (below_size (by repeat (first | (with_reducible first | exact HB.out | apply below_alloc | apply pw_below_drewN | apply below_drew1) | exact HB.out))))
       have n3_ := Aside0.mk (below_step (by repeat (first | (with_reducible first | exact HB.out | apply below_alloc | apply pw_below_drewN | apply below_drew1) | exact HB.out)) hb)
       have z_HO113 := fun (h0_ : b 1 = true) => (show Kd.R Kd.string 9 w21 w.heap.size (fun k_ => some k_ ≠ (v109 : Value).ownBlock) v112 y111 from by first | exact (Kd.R_elder' (by (with_reducible repeat (first | apply Kd.R_alloc | apply Kd.R_drewN | apply Kd.R_drew)); exact (Q_HO113 h0_)) (Kd.R_base ho22) hb) | exact Kd.R_mono (Kd.R_elder' (by (with_reducible repeat (first | apply Kd.R_alloc | apply Kd.R_drewN | apply Kd.R_drew)); exact (Q_HO113 h0_)) (Kd.R_base ho22) hb) (fun _ h_ => by first | trivial | exact h_ | exact h_.1))
       clear HO107
       clear HO110
       clear HB
       have HO107 := n0_
       have HO110 := n1_
       have HO118 := n2_
       have HB := n3_
       clear n0_ n1_ n2_ n3_
       clear hb ho22
       obtain ⟨Ao23, co23, eo23⟩ := Kd.R_slice HO118.out
       subst eo23
       obtain ⟨ado23, fo23, _⟩ := Kd.at_string (Kd.R_reads' HO118.out).2.2 0 (by decide) (by rw [Ny116.out]; simp)
       cases fo23
       refine hK.out _ _ ⟨v112, adz_v112, .slice (some ado23) y116.length co23, ado23, m7_, m19_, (by rw [ha.out]; exact putSel_upk 8 hb_ rfl rfl rfl), (by (with_reducible repeat (first | apply Kd.R_alloc | apply Kd.R_drewN | apply Kd.R_drew)); exact HO107.out), (by (with_reducible repeat (first | apply Kd.R_alloc | apply Kd.R_drewN | apply Kd.R_drew)); first | exact Kd.R_mono HO110.out (fun _ hk => hk.2) | exact Kd.R_mono HO110.out (fun _ _ => trivial)), (by repeat (first | (with_reducible first | exact HB.out | apply below_alloc | apply pw_below_drewN | apply below_drew1) | exact HB.out)), z_HO113, Q_HA_HO113, fun _ => (by (with_reducible repeat (first | apply Kd.R_alloc | apply Kd.R_drewN | apply Kd.R_drew)); first | exact Kd.R_mono HO118.out (fun _ hk => hk.2) | exact Kd.R_mono HO118.out (fun _ _ => trivial)), fun _ => ⟨_, rfl⟩, Q_X7_, fun h0_ => absurd ((hoff 19 (by kernel_rfl)).symm.trans h0_) (by decide)⟩
      refine steps_cons ?_ ?_
      ·
       rintro b a w' ⟨v112, adz_v112, v117, adz_v117, m7_, m19_, ha, Q_HO107, Q_HO110, Q_HB, Q_HO113, Q_HA_HO113, Q_HO118, Q_HA_HO118, Q_X7_, Q_X19_⟩ hb_ hon hoff
       refine ⟨_, rfl, fun K hK => ?_⟩
       have e48 : a.tmps[48]? = some (.slice (some ad103) l0.length c0) := by rw [ha]; exact (putSel_off rfl).trans rfl
       have e49 : a.tmps[49]? = some (.int .i64 x5_1) := by rw [ha]; exact (putSel_off rfl).trans rfl
       replace ha := Aside0.mk ha
       have HO107 := Aside0.mk Q_HO107
       have HO110 := Aside0.mk Q_HO110
       have HB := Aside0.mk Q_HB
       have hs1_ : w'.cell? (ad103.add (x5_1).toNat) = some (.int .u8 (rd l0 x5_1)) := ((HB.out.cell (World.block_lt_of_cell? w _ hw119_0)).trans hw119_0)
       refine value_ (w1 := w') (v := .pointer (some (ad103.add (x5_1).toNat))) (by rfl) rfl ?_ ?_
       ·
        go_simp
        (try simp only [i64_w])
        try rfl
       refine hK.out _ _ ⟨v112, adz_v112, v117, adz_v117, m7_, m19_, (by rw [ha.out]; exact putSel_upk 9 hb_ rfl rfl rfl), Q_HO107, Q_HO110, Q_HB, Q_HO113, Q_HA_HO113, Q_HO118, Q_HA_HO118, Q_X7_, fun h0_ => absurd ((hoff 19 (by kernel_rfl)).symm.trans h0_) (by decide)⟩
      refine steps_cons ?_ ?_
      ·
       rintro b a w' ⟨v112, adz_v112, v117, adz_v117, m7_, m19_, ha, Q_HO107, Q_HO110, Q_HB, Q_HO113, Q_HA_HO113, Q_HO118, Q_HA_HO118, Q_X7_, Q_X19_⟩ hb_ hon hoff
       refine ⟨_, rfl, fun K hK => ?_⟩
       have e50 : a.tmps[50]? = some (.pointer (some (ad103.add (x5_1).toNat))) := by rw [ha]; exact putSel_on (e := (15, 50, .pointer (some (ad103.add (x5_1).toNat)))) 9 rfl rfl (hon 15 (by kernel_rfl)) rfl
       replace ha := Aside0.mk ha
       have HO107 := Aside0.mk Q_HO107
       have HO110 := Aside0.mk Q_HO110
       have HB := Aside0.mk Q_HB
       have hs1_ : w'.cell? (ad103.add (x5_1).toNat) = some (.int .u8 (rd l0 x5_1)) := ((HB.out.cell (World.block_lt_of_cell? w _ hw119_0)).trans hw119_0)
       refine value_ (w1 := w') (v := .int .u8 (rd l0 x5_1)) (by rfl) rfl ?_ ?_
       ·
        go_simp
        (try simp only [i64_w])
        try rfl
       refine hK.out _ _ ⟨v112, adz_v112, v117, adz_v117, m7_, m19_, (by rw [ha.out]; exact putSel_upk 10 hb_ rfl rfl rfl), Q_HO107, Q_HO110, Q_HB, Q_HO113, Q_HA_HO113, Q_HO118, Q_HA_HO118, Q_X7_, fun h0_ => absurd ((hoff 19 (by kernel_rfl)).symm.trans h0_) (by decide)⟩
      refine steps_cons ?_ ?_
      ·
       rintro b a w' ⟨v112, adz_v112, v117, adz_v117, m7_, m19_, ha, Q_HO107, Q_HO110, Q_HB, Q_HO113, Q_HA_HO113, Q_HO118, Q_HA_HO118, Q_X7_, Q_X19_⟩ hb_ hon hoff
       refine ⟨_, rfl, fun K hK => ?_⟩
       have e51 : a.tmps[51]? = some (.int .u8 (rd l0 x5_1)) := by rw [ha]; exact putSel_on (e := (16, 51, .int .u8 (rd l0 x5_1))) 10 rfl rfl (hon 16 (by kernel_rfl)) rfl
       replace ha := Aside0.mk ha
       have HO107 := Aside0.mk Q_HO107
       have HO110 := Aside0.mk Q_HO110
       have HB := Aside0.mk Q_HB
       refine value_ (w1 := w') (v := .int .u8 ((Int.tdiv (rd l0 x5_1) 16) % 256)) (by rfl) rfl ?_ ?_
       ·
        go_simp
        (try simp only [i64_w])
        try rfl
       refine hK.out _ _ ⟨v112, adz_v112, v117, adz_v117, m7_, m19_, (by rw [ha.out]; exact putSel_upk 11 hb_ rfl rfl rfl), Q_HO107, Q_HO110, Q_HB, Q_HO113, Q_HA_HO113, Q_HO118, Q_HA_HO118, Q_X7_, fun h0_ => absurd ((hoff 19 (by kernel_rfl)).symm.trans h0_) (by decide)⟩
      refine steps_cons ?_ ?_
      ·
       rintro b a w' ⟨v112, adz_v112, v117, adz_v117, m7_, m19_, ha, Q_HO107, Q_HO110, Q_HB, Q_HO113, Q_HA_HO113, Q_HO118, Q_HA_HO118, Q_X7_, Q_X19_⟩ hb_ hon hoff
       refine ⟨_, rfl, fun K hK => ?_⟩
       have e52 : a.tmps[52]? = some (.int .u8 ((Int.tdiv (rd l0 x5_1) 16) % 256)) := by rw [ha]; exact putSel_on (e := (17, 52, .int .u8 ((Int.tdiv (rd l0 x5_1) 16) % 256))) 11 rfl rfl (hon 17 (by kernel_rfl)) rfl
       replace ha := Aside0.mk ha
       have HO107 := Aside0.mk Q_HO107
       have HO110 := Aside0.mk Q_HO110
       have HB := Aside0.mk Q_HB
       refine value_ (w1 := w') (v := .int .u8 ji11) (by rfl) rfl ?_ ?_
       ·
        go_simp
        (try simp only [i64_w])
        try rfl
        (try (first | (rw [IntKind.wrap_u8]; exact hji11) | (rw [Int.tmod_eq_emod_of_nonneg (by omega)]; exact hji11)))
       refine hK.out _ _ ⟨v112, adz_v112, v117, adz_v117, m7_, m19_, (by rw [ha.out]; exact putSel_upk 12 hb_ rfl rfl rfl), Q_HO107, Q_HO110, Q_HB, Q_HO113, Q_HA_HO113, Q_HO118, Q_HA_HO118, Q_X7_, fun h0_ => absurd ((hoff 19 (by kernel_rfl)).symm.trans h0_) (by decide)⟩
      refine steps_cons ?_ ?_
      ·
       rintro b a w' ⟨v112, adz_v112, v117, adz_v117, m7_, m19_, ha, Q_HO107, Q_HO110, Q_HB, Q_HO113, Q_HA_HO113, Q_HO118, Q_HA_HO118, Q_X7_, Q_X19_⟩ hb_ hon hoff
       refine ⟨_, rfl, fun K hK => ?_⟩
       have e47 : a.tmps[47]? = some (v117) := by rw [ha]; exact putSel_on (e := (12, 47, v117)) 8 rfl rfl (hon 12 (by kernel_rfl)) rfl
       have e53 : a.tmps[53]? = some (.int .u8 ji11) := by rw [ha]; exact putSel_on (e := (18, 53, .int .u8 ji11)) 12 rfl rfl (hon 18 (by kernel_rfl)) rfl
       replace ha := Aside0.mk ha
       have HO107 := Aside0.mk Q_HO107
       have HO110 := Aside0.mk Q_HO110
       have HB := Aside0.mk Q_HB
       have HO118 := Aside0.mk (Q_HO118 (hon 12 (by kernel_rfl)))
       have HA_HO118 := Aside0.mk (Q_HA_HO118 (hon 12 (by kernel_rfl)))
       obtain ⟨c_, hv_⟩ := HA_HO118.out
       rw [hv_] at e47
       refine value_ (w1 := w') (v := .pointer (some (adz_v117.add ((ji11)).toNat))) (by rfl) rfl ?_ ?_
       ·
        go_simp
        (try simp only [i64_w])
        try rfl
       refine hK.out _ _ ⟨v112, adz_v112, v117, adz_v117, m7_, (.pointer (some (adz_v117.add ((ji11)).toNat))), (by rw [ha.out]; exact putSel_upk 13 hb_ rfl rfl rfl), Q_HO107, Q_HO110, Q_HB, Q_HO113, Q_HA_HO113, Q_HO118, Q_HA_HO118, Q_X7_, fun _ => rfl⟩
      refine steps_cons ?_ ?_
      ·
       rintro b a w' ⟨v112, adz_v112, v117, adz_v117, m7_, m19_, ha, Q_HO107, Q_HO110, Q_HB, Q_HO113, Q_HA_HO113, Q_HO118, Q_HA_HO118, Q_X7_, Q_X19_⟩ hb_ hon hoff
       refine ⟨_, rfl, fun K hK => ?_⟩
       have e54 : a.tmps[54]? = some (m19_) := by rw [ha]; exact putSel_on (e := (19, 54, m19_)) 13 rfl rfl (hon 19 (by kernel_rfl)) rfl
       rw [Q_X19_ (hon 19 (by kernel_rfl))] at e54
       replace ha := Aside0.mk ha
       have HO107 := Aside0.mk Q_HO107
       have HO110 := Aside0.mk Q_HO110
       have HB := Aside0.mk Q_HB
       have HO118 := Aside0.mk (Q_HO118 (hon 12 (by kernel_rfl)))
       have HA_HO118 := Aside0.mk (Q_HA_HO118 (hon 12 (by kernel_rfl)))
       obtain ⟨c_, hv_⟩ := HA_HO118.out
       have hF_ := HO118.out
       rw [hv_] at hF_
       obtain ⟨ad_, ea_, hx_⟩ := Kd.at_string (Kd.R_reads' hF_).2.2 (ji11) (of_eq_true pi120) (of_eq_true qi120)
       cases ea_
       refine value_ (w1 := w') (v := .string (rdOf ByteArray.empty y116 (ji11))) (by rfl) rfl ?_ ?_
       ·
        go_simp
        (try simp only [i64_w])
        try rfl
       refine hK.out _ _ ⟨v112, adz_v112, v117, adz_v117, m7_, m19_, (by rw [ha.out]; exact putSel_upk 14 hb_ rfl rfl rfl), Q_HO107, Q_HO110, Q_HB, Q_HO113, Q_HA_HO113, Q_HO118, Q_HA_HO118, Q_X7_, Q_X19_⟩
      refine steps_cons ?_ ?_
      ·
       rintro b a w' ⟨v112, adz_v112, v117, adz_v117, m7_, m19_, ha, Q_HO107, Q_HO110, Q_HB, Q_HO113, Q_HA_HO113, Q_HO118, Q_HA_HO118, Q_X7_, Q_X19_⟩ hb_ hon hoff
       refine ⟨_, rfl, fun K hK => ?_⟩
       have e46 : a.tmps[46]? = some (.string ((x4_1 ++ (rdOf ByteArray.empty y111 (ji6))) ++ (strOfNums y105))) := by rw [ha]; exact putSel_on (e := (11, 46, .string ((x4_1 ++ (rdOf ByteArray.empty y111 (ji6))) ++ (strOfNums y105)))) 7 rfl rfl (hon 11 (by kernel_rfl)) rfl
       have e55 : a.tmps[55]? = some (.string (rdOf ByteArray.empty y116 (ji11))) := by rw [ha]; exact putSel_on (e := (20, 55, .string (rdOf ByteArray.empty y116 (ji11)))) 14 rfl rfl (hon 20 (by kernel_rfl)) rfl
       replace ha := Aside0.mk ha
       have HO107 := Aside0.mk Q_HO107
       have HO110 := Aside0.mk Q_HO110
       have HB := Aside0.mk Q_HB
       have HO113 := Aside0.mk (Q_HO113 (hon 1 (by kernel_rfl)))
       have HA_HO113 := Aside0.mk (Q_HA_HO113 (hon 1 (by kernel_rfl)))
       have HO118 := Aside0.mk (Q_HO118 (hon 12 (by kernel_rfl)))
       have HA_HO118 := Aside0.mk (Q_HA_HO118 (hon 12 (by kernel_rfl)))
       refine value_ (w1 := w') (v := .string (((x4_1 ++ (rdOf ByteArray.empty y111 (ji6))) ++ (strOfNums y105)) ++ (rdOf ByteArray.empty y116 (ji11)))) (by rfl) rfl ?_ ?_
       ·
        go_simp
        (try simp only [i64_w])
        try rfl
       refine hK.out _ _ ⟨v112, adz_v112, v117, adz_v117, m7_, m19_, (by rw [ha.out]; exact putSel_upk 15 hb_ rfl rfl rfl), Q_HO107, Q_HO110, Q_HB, Q_HO113, Q_HA_HO113, Q_HO118, Q_HA_HO118, Q_X7_, Q_X19_⟩
      refine steps_cons ?_ ?_
      ·
       rintro b a w' ⟨v112, adz_v112, v117, adz_v117, m7_, m19_, ha, Q_HO107, Q_HO110, Q_HB, Q_HO113, Q_HA_HO113, Q_HO118, Q_HA_HO118, Q_X7_, Q_X19_⟩ hb_ hon hoff
       refine ⟨_, rfl, fun K hK => ?_⟩
       have e56 : a.tmps[56]? = some (.string (((x4_1 ++ (rdOf ByteArray.empty y111 (ji6))) ++ (strOfNums y105)) ++ (rdOf ByteArray.empty y116 (ji11)))) := by rw [ha]; exact putSel_on (e := (21, 56, .string (((x4_1 ++ (rdOf ByteArray.empty y111 (ji6))) ++ (strOfNums y105)) ++ (rdOf ByteArray.empty y116 (ji11))))) 15 rfl rfl (hon 21 (by kernel_rfl)) rfl
       replace ha := Aside0.mk ha
       have HO107 := Aside0.mk Q_HO107
       have HO110 := Aside0.mk Q_HO110
       have HB := Aside0.mk Q_HB
       have HO113 := Aside0.mk (Q_HO113 (hon 1 (by kernel_rfl)))
       have HA_HO113 := Aside0.mk (Q_HA_HO113 (hon 1 (by kernel_rfl)))
       have HO118 := Aside0.mk (Q_HO118 (hon 12 (by kernel_rfl)))
       have HA_HO118 := Aside0.mk (Q_HA_HO118 (hon 12 (by kernel_rfl)))
       refine value_ (w1 := w') (v := .string (((x4_1 ++ (rdOf ByteArray.empty y111 (ji6))) ++ (strOfNums y105)) ++ (rdOf ByteArray.empty y116 (ji11)))) (by rfl) rfl ?_ ?_
       ·
        go_simp
        (try simp only [i64_w])
        try rfl
       refine hK.out _ _ ⟨v112, adz_v112, v117, adz_v117, m7_, m19_, (by rw [ha.out]; exact putSel_upk 16 hb_ rfl rfl rfl), Q_HO107, Q_HO110, Q_HB, Q_HO113, Q_HA_HO113, Q_HO118, Q_HA_HO118, Q_X7_, Q_X19_⟩
      exact steps_nil
     rintro b a w27 hall ⟨v112, adz_v112, v117, adz_v117, m7_, m19_, ha, Q_HO107, Q_HO110, Q_HB, Q_HO113, Q_HA_HO113, Q_HO118, Q_HA_HO118, Q_X7_, Q_X19_⟩
     clear HB HO107 HO110
     have hb1_ := hall 1 (by kernel_rfl)
     have hb4_ := hall 4 (by kernel_rfl)
     have hb5_ := hall 5 (by kernel_rfl)
     have hb6_ := hall 6 (by kernel_rfl)
     have hb7_ := hall 7 (by kernel_rfl)
     have hb8_ := hall 8 (by kernel_rfl)
     have hb9_ := hall 9 (by kernel_rfl)
     have hb11_ := hall 11 (by kernel_rfl)
     have hb12_ := hall 12 (by kernel_rfl)
     have hb15_ := hall 15 (by kernel_rfl)
     have hb16_ := hall 16 (by kernel_rfl)
     have hb17_ := hall 17 (by kernel_rfl)
     have hb18_ := hall 18 (by kernel_rfl)
     have hb19_ := hall 19 (by kernel_rfl)
     have hb20_ := hall 20 (by kernel_rfl)
     have hb21_ := hall 21 (by kernel_rfl)
     have hb22_ := hall 22 (by kernel_rfl)
     subst ha
     obtain rfl := Q_X7_ hb7_
     obtain rfl := Q_X19_ hb19_
     simp only [putSel, hb1_, hb4_, hb5_, hb6_, hb7_, hb8_, hb9_, hb11_, hb12_, hb15_, hb16_, hb17_, hb18_, hb19_, hb20_, hb21_, hb22_, if_true, Act.put, List.setIfInBounds_toArray, List.set_cons_zero, List.set_cons_succ]
     have HO107 := Aside0.mk Q_HO107
     clear Q_HO107
     have HO110 := Aside0.mk Q_HO110
     clear Q_HO110
     have HB := Aside0.mk Q_HB
     clear Q_HB
     have HO113 := Aside0.mk (Q_HO113 hb1_)
     clear Q_HO113
     have HA_HO113 := Aside0.mk (Q_HA_HO113 hb1_)
     clear Q_HA_HO113
     have HO118 := Aside0.mk (Q_HO118 hb12_)
     clear Q_HO118
     have HA_HO118 := Aside0.mk (Q_HA_HO118 hb12_)
     clear Q_HA_HO118
     clear hall hb1_ hb4_ hb5_ hb6_ hb7_ hb8_ hb9_ hb11_ hb12_ hb15_ hb16_ hb17_ hb18_ hb19_ hb20_ hb21_ hb22_
     obtain ⟨co28, eo28⟩ := HA_HO113.out
     clear HA_HO113
     subst eo28
     obtain ⟨co29, eo29⟩ := HA_HO118.out
     clear HA_HO118
     subst eo29
     try go_wp2
     go_roundg k1
     case measure => have := HK1.out; omega
     case rel => exact ⟨(y108), (((x4_1 ++ (rdOf ByteArray.empty y111 (ji6))) ++ (strOfNums y105)) ++ (rdOf ByteArray.empty y116 (ji11))), (wrap64 (x5_1 + 1)), (by first | rfl | (simp; done) | (simp only [← hji6, ← hji11] <;> (first | rfl | simp)) | (simp [*]; done)), (by first | rfl | (simp; done) | (simp [*]; done)), H', ⟨by have := HK1.out; omega⟩, ⟨by (with_reducible repeat (first | apply Kd.R_alloc | apply Kd.R_drewN | apply Kd.R_drew)); exact Kd.R_mono HO110.out (fun _ hk => trivial)⟩, ⟨by repeat (first | (with_reducible first | exact HB.out | apply below_alloc | apply pw_below_drewN | apply below_drew1) | exact HB.out)⟩⟩
    ·
     rw [if_neg c3] at H
     have c3b0 : decide (x5_1 < 9) = false := decide_eq_false c3
     clear c3
     replace H := Option.bind_eq_some_iff.mp H
     obtain ⟨t121, A300, H⟩ := H
     replace H : ((laws_sameTexts.f k1 t121 x3_1).bind fun t124 => (if t124 = true then ((laws_words.f).bind fun t125 => (some t125)) else (some false))) = some r := H
     have A30 := Aside0.mk A300
     clear A300
     replace H := Option.bind_eq_some_iff.mp H
     obtain ⟨t124, A310, H⟩ := H
     replace H : (if t124 = true then ((laws_words.f).bind fun t125 => (some t125)) else (some false)) = some r := H
     have A31 := Aside0.mk A310
     clear A310
     by_cases c32 : t124 = true
     ·
      subst c32
      have H1 : ((laws_words.f).bind fun t125 => (some t125)) = some r := by rw [if_pos rfl] at H; exact H
      clear H
      have H := H1
      clear H1
      replace H := Option.bind_eq_some_iff.mp H
      obtain ⟨t125, A330, H⟩ := H
      replace H : (some t125) = some r := H
      have A33 := Aside0.mk A330
      clear A330
      obtain rfl := Option.some.inj H
      go_wp2_with (first | ((with_reducible refine gate_callee (f := 15) rfl ?_); refine goesL_ (some 58) rfl rfl Tryd.func15 (by kernel_rfl) rfl #[.string x4_1] rfl (by (try simp only [List.map_toArray, List.map_cons, List.map_nil]); first | done | rfl | (simp only [List.length_drop, List.length_take]; rfl)) ?_; (with_reducible refine (impl_Elements.calls x4_1 t121 _ A30.out).mono ?_); rintro e w34 ⟨v122, rfl, ho0, hb⟩; refine ⟨_, rfl, ?_⟩; have n0_ := Aside0.mk (Kd.R_elder' (by (with_reducible repeat (first | apply Kd.R_alloc | apply Kd.R_drewN | apply Kd.R_drew)); exact HO_3.out) (Kd.R_base ho0) hb); have n1_ := Aside0.mk (Kd.R_lower (Kd.R_new' ho0 (Kd.R_lt (by (with_reducible repeat (first | apply Kd.R_alloc | apply Kd.R_drewN | apply Kd.R_drew)); exact HO_3.out))) (below_size (by repeat (first | (with_reducible first | exact HB.out | apply below_alloc | apply pw_below_drewN | apply below_drew1) | exact HB.out)))); have n2_ := Aside0.mk (below_step (by repeat (first | (with_reducible first | exact HB.out | apply below_alloc | apply pw_below_drewN | apply below_drew1) | exact HB.out)) hb); clear HO_3; clear HB; have HO_3 := n0_; have HO123 := n1_; have HB := n2_; clear n0_ n1_ n2_; (try clear hb); (try clear hb2); (try clear hk); (try clear hi); (try clear ho0); obtain ⟨Ao35, co35, eo35⟩ := Kd.R_slice HO123.out; subst eo35; obtain ⟨Ao36, co36, eo36⟩ := Kd.R_slice HO_3.out; subst eo36) | ((with_reducible refine gate_callee (f := 16) rfl ?_); refine goesL_ (some 60) rfl rfl Tryd.func16 (by kernel_rfl) rfl #[.slice Ao35 t121.length co35, .slice Ao36 x3_1.length co36] rfl (by (try simp only [List.map_toArray, List.map_cons, List.map_nil]); first | done | rfl | (simp only [List.length_drop, List.length_take]; rfl)) ?_; (with_reducible refine (laws_sameTexts.calls k1 _ _ t121 _ _ x3_1 true _ ?side1 ?side2 ?side3 ?side4 A31.out).mono ?_); (case side1 => repeat (first | exact (Kd.R_reads' HO123.out).2.2 | (with_reducible refine Kd.C_alloc ?_ _) | (with_reducible refine Kd.C_drewN ?_ _) | (with_reducible refine Kd.C_drew ?_))); (case side2 => exact (Kd.R_reads' HO123.out).2.1); (case side3 => repeat (first | exact (Kd.R_reads' HO_3.out).2.2 | (with_reducible refine Kd.C_alloc ?_ _) | (with_reducible refine Kd.C_drewN ?_ _) | (with_reducible refine Kd.C_drew ?_))); (case side4 => exact (Kd.R_reads' HO_3.out).2.1); rintro e w' ⟨rfl, ⟨nd, rfl⟩⟩; refine ⟨_, rfl, ?_⟩) | (go_at_call 13; (with_reducible refine (laws_words.calls  t125 _ ?side1 A33.out).mono ?_); (case side1 => exact Tab.below HT.out (by repeat (first | (with_reducible first | exact HB.out | apply below_alloc | apply pw_below_drewN | apply below_drew1) | exact HB.out))); rintro e w37 ⟨rfl, hb⟩; have n0_ := Aside0.mk (Kd.R_below (by (with_reducible repeat (first | apply Kd.R_alloc | apply Kd.R_drewN | apply Kd.R_drew)); exact HO_3.out) hb); have n1_ := Aside0.mk (Kd.R_below (by (with_reducible repeat (first | apply Kd.R_alloc | apply Kd.R_drewN | apply Kd.R_drew)); exact HO123.out) hb); have n2_ := Aside0.mk (below_step (by repeat (first | (with_reducible first | exact HB.out | apply below_alloc | apply pw_below_drewN | apply below_drew1) | exact HB.out)) hb); clear HO_3; clear HO123; clear HB; have HO_3 := n0_; have HO123 := n1_; have HB := n2_; clear n0_ n1_ n2_; (try clear hb); (try clear hb2); (try clear hk); (try clear hi)))
      go_ret
      exact ⟨by first | rfl | (simp [errW_none, errW_some] <;> rfl) | (simp [*, errW_none, errW_some] <;> rfl), by repeat (first | (with_reducible first | exact HB.out | apply below_alloc | apply pw_below_drewN | apply below_drew1) | exact HB.out)⟩
     ·
      replace c32 := Bool.eq_false_iff.mpr c32
      subst c32
      have H1 : (some false) = some r := by rw [if_neg (show ¬ (false = true) by decide)] at H; exact H
      clear H
      have H := H1
      clear H1
      obtain rfl := Option.some.inj H
      go_wp2_with (first | ((with_reducible refine gate_callee (f := 15) rfl ?_); refine goesL_ (some 58) rfl rfl Tryd.func15 (by kernel_rfl) rfl #[.string x4_1] rfl (by (try simp only [List.map_toArray, List.map_cons, List.map_nil]); first | done | rfl | (simp only [List.length_drop, List.length_take]; rfl)) ?_; (with_reducible refine (impl_Elements.calls x4_1 t121 _ A30.out).mono ?_); rintro e w38 ⟨v122, rfl, ho0, hb⟩; refine ⟨_, rfl, ?_⟩; have n0_ := Aside0.mk (Kd.R_elder' (by (with_reducible repeat (first | apply Kd.R_alloc | apply Kd.R_drewN | apply Kd.R_drew)); exact HO_3.out) (Kd.R_base ho0) hb); have n1_ := Aside0.mk (Kd.R_lower (Kd.R_new' ho0 (Kd.R_lt (by (with_reducible repeat (first | apply Kd.R_alloc | apply Kd.R_drewN | apply Kd.R_drew)); exact HO_3.out))) (below_size (by repeat (first | (with_reducible first | exact HB.out | apply below_alloc | apply pw_below_drewN | apply below_drew1) | exact HB.out)))); have n2_ := Aside0.mk (below_step (by repeat (first | (with_reducible first | exact HB.out | apply below_alloc | apply pw_below_drewN | apply below_drew1) | exact HB.out)) hb); clear HO_3; clear HB; have HO_3 := n0_; have HO123 := n1_; have HB := n2_; clear n0_ n1_ n2_; (try clear hb); (try clear hb2); (try clear hk); (try clear hi); (try clear ho0); obtain ⟨Ao39, co39, eo39⟩ := Kd.R_slice HO123.out; subst eo39; obtain ⟨Ao40, co40, eo40⟩ := Kd.R_slice HO_3.out; subst eo40) | ((with_reducible refine gate_callee (f := 16) rfl ?_); refine goesL_ (some 60) rfl rfl Tryd.func16 (by kernel_rfl) rfl #[.slice Ao39 t121.length co39, .slice Ao40 x3_1.length co40] rfl (by (try simp only [List.map_toArray, List.map_cons, List.map_nil]); first | done | rfl | (simp only [List.length_drop, List.length_take]; rfl)) ?_; (with_reducible refine (laws_sameTexts.calls k1 _ _ t121 _ _ x3_1 false _ ?side1 ?side2 ?side3 ?side4 A31.out).mono ?_); (case side1 => repeat (first | exact (Kd.R_reads' HO123.out).2.2 | (with_reducible refine Kd.C_alloc ?_ _) | (with_reducible refine Kd.C_drewN ?_ _) | (with_reducible refine Kd.C_drew ?_))); (case side2 => exact (Kd.R_reads' HO123.out).2.1); (case side3 => repeat (first | exact (Kd.R_reads' HO_3.out).2.2 | (with_reducible refine Kd.C_alloc ?_ _) | (with_reducible refine Kd.C_drewN ?_ _) | (with_reducible refine Kd.C_drew ?_))); (case side4 => exact (Kd.R_reads' HO_3.out).2.1); rintro e w' ⟨rfl, ⟨nd, rfl⟩⟩; refine ⟨_, rfl, ?_⟩))
      go_ret
      exact ⟨by first | rfl | (simp [errW_none, errW_some] <;> rfl) | (simp [*, errW_none, errW_some] <;> rfl), by repeat (first | (with_reducible first | exact HB.out | apply below_alloc | apply pw_below_drewN | apply below_drew1) | exact HB.out)⟩
   ·
    rw [if_neg c2] at H
    have c2b0 : decide (x5_1 < (l0.length : Int)) = false := decide_eq_false c2
    clear c2
    replace H := Option.bind_eq_some_iff.mp H
    obtain ⟨t126, A410, H⟩ := H
    replace H : ((laws_sameTexts.f k1 t126 x3_1).bind fun t129 => (if t129 = true then ((laws_words.f).bind fun t130 => (some t130)) else (some false))) = some r := H
    have A41 := Aside0.mk A410
    clear A410
    replace H := Option.bind_eq_some_iff.mp H
    obtain ⟨t129, A420, H⟩ := H
    replace H : (if t129 = true then ((laws_words.f).bind fun t130 => (some t130)) else (some false)) = some r := H
    have A42 := Aside0.mk A420
    clear A420
    by_cases c43 : t129 = true
    ·
     subst c43
     have H1 : ((laws_words.f).bind fun t130 => (some t130)) = some r := by rw [if_pos rfl] at H; exact H
     clear H
     have H := H1
     clear H1
     replace H := Option.bind_eq_some_iff.mp H
     obtain ⟨t130, A440, H⟩ := H
     replace H : (some t130) = some r := H
     have A44 := Aside0.mk A440
     clear A440
     obtain rfl := Option.some.inj H
     go_wp2_with (first | ((with_reducible refine gate_callee (f := 15) rfl ?_); refine goesL_ (some 58) rfl rfl Tryd.func15 (by kernel_rfl) rfl #[.string x4_1] rfl (by (try simp only [List.map_toArray, List.map_cons, List.map_nil]); first | done | rfl | (simp only [List.length_drop, List.length_take]; rfl)) ?_; (with_reducible refine (impl_Elements.calls x4_1 t126 _ A41.out).mono ?_); rintro e w45 ⟨v127, rfl, ho0, hb⟩; refine ⟨_, rfl, ?_⟩; have n0_ := Aside0.mk (Kd.R_elder' (by (with_reducible repeat (first | apply Kd.R_alloc | apply Kd.R_drewN | apply Kd.R_drew)); exact HO_3.out) (Kd.R_base ho0) hb); have n1_ := Aside0.mk (Kd.R_lower (Kd.R_new' ho0 (Kd.R_lt (by (with_reducible repeat (first | apply Kd.R_alloc | apply Kd.R_drewN | apply Kd.R_drew)); exact HO_3.out))) (below_size (by repeat (first | (with_reducible first | exact HB.out | apply below_alloc | apply pw_below_drewN | apply below_drew1) | exact HB.out)))); have n2_ := Aside0.mk (below_step (by repeat (first | (with_reducible first | exact HB.out | apply below_alloc | apply pw_below_drewN | apply below_drew1) | exact HB.out)) hb); clear HO_3; clear HB; have HO_3 := n0_; have HO128 := n1_; have HB := n2_; clear n0_ n1_ n2_; (try clear hb); (try clear hb2); (try clear hk); (try clear hi); (try clear ho0); obtain ⟨Ao46, co46, eo46⟩ := Kd.R_slice HO128.out; subst eo46; obtain ⟨Ao47, co47, eo47⟩ := Kd.R_slice HO_3.out; subst eo47) | ((with_reducible refine gate_callee (f := 16) rfl ?_); refine goesL_ (some 60) rfl rfl Tryd.func16 (by kernel_rfl) rfl #[.slice Ao46 t126.length co46, .slice Ao47 x3_1.length co47] rfl (by (try simp only [List.map_toArray, List.map_cons, List.map_nil]); first | done | rfl | (simp only [List.length_drop, List.length_take]; rfl)) ?_; (with_reducible refine (laws_sameTexts.calls k1 _ _ t126 _ _ x3_1 true _ ?side1 ?side2 ?side3 ?side4 A42.out).mono ?_); (case side1 => repeat (first | exact (Kd.R_reads' HO128.out).2.2 | (with_reducible refine Kd.C_alloc ?_ _) | (with_reducible refine Kd.C_drewN ?_ _) | (with_reducible refine Kd.C_drew ?_))); (case side2 => exact (Kd.R_reads' HO128.out).2.1); (case side3 => repeat (first | exact (Kd.R_reads' HO_3.out).2.2 | (with_reducible refine Kd.C_alloc ?_ _) | (with_reducible refine Kd.C_drewN ?_ _) | (with_reducible refine Kd.C_drew ?_))); (case side4 => exact (Kd.R_reads' HO_3.out).2.1); rintro e w' ⟨rfl, ⟨nd, rfl⟩⟩; refine ⟨_, rfl, ?_⟩) | (go_at_call 13; (with_reducible refine (laws_words.calls  t130 _ ?side1 A44.out).mono ?_); (case side1 => exact Tab.below HT.out (by repeat (first | (with_reducible first | exact HB.out | apply below_alloc | apply pw_below_drewN | apply below_drew1) | exact HB.out))); rintro e w48 ⟨rfl, hb⟩; have n0_ := Aside0.mk (Kd.R_below (by (with_reducible repeat (first | apply Kd.R_alloc | apply Kd.R_drewN | apply Kd.R_drew)); exact HO_3.out) hb); have n1_ := Aside0.mk (Kd.R_below (by (with_reducible repeat (first | apply Kd.R_alloc | apply Kd.R_drewN | apply Kd.R_drew)); exact HO128.out) hb); have n2_ := Aside0.mk (below_step (by repeat (first | (with_reducible first | exact HB.out | apply below_alloc | apply pw_below_drewN | apply below_drew1) | exact HB.out)) hb); clear HO_3; clear HO128; clear HB; have HO_3 := n0_; have HO128 := n1_; have HB := n2_; clear n0_ n1_ n2_; (try clear hb); (try clear hb2); (try clear hk); (try clear hi)))
     go_ret
     exact ⟨by first | rfl | (simp [errW_none, errW_some] <;> rfl) | (simp [*, errW_none, errW_some] <;> rfl), by repeat (first | (with_reducible first | exact HB.out | apply below_alloc | apply pw_below_drewN | apply below_drew1) | exact HB.out)⟩
    ·
     replace c43 := Bool.eq_false_iff.mpr c43
     subst c43
     have H1 : (some false) = some r := by rw [if_neg (show ¬ (false = true) by decide)] at H; exact H
     clear H
     have H := H1
     clear H1
     obtain rfl := Option.some.inj H
     go_wp2_with (first | ((with_reducible refine gate_callee (f := 15) rfl ?_); refine goesL_ (some 58) rfl rfl Tryd.func15 (by kernel_rfl) rfl #[.string x4_1] rfl (by (try simp only [List.map_toArray, List.map_cons, List.map_nil]); first | done | rfl | (simp only [List.length_drop, List.length_take]; rfl)) ?_; (with_reducible refine (impl_Elements.calls x4_1 t126 _ A41.out).mono ?_); rintro e w49 ⟨v127, rfl, ho0, hb⟩; refine ⟨_, rfl, ?_⟩; have n0_ := Aside0.mk (Kd.R_elder' (by (with_reducible repeat (first | apply Kd.R_alloc | apply Kd.R_drewN | apply Kd.R_drew)); exact HO_3.out) (Kd.R_base ho0) hb); have n1_ := Aside0.mk (Kd.R_lower (Kd.R_new' ho0 (Kd.R_lt (by (with_reducible repeat (first | apply Kd.R_alloc | apply Kd.R_drewN | apply Kd.R_drew)); exact HO_3.out))) (below_size (by repeat (first | (with_reducible first | exact HB.out | apply below_alloc | apply pw_below_drewN | apply below_drew1) | exact HB.out)))); have n2_ := Aside0.mk (below_step (by repeat (first | (with_reducible first | exact HB.out | apply below_alloc | apply pw_below_drewN | apply below_drew1) | exact HB.out)) hb); clear HO_3; clear HB; have HO_3 := n0_; have HO128 := n1_; have HB := n2_; clear n0_ n1_ n2_; (try clear hb); (try clear hb2); (try clear hk); (try clear hi); (try clear ho0); obtain ⟨Ao50, co50, eo50⟩ := Kd.R_slice HO128.out; subst eo50; obtain ⟨Ao51, co51, eo51⟩ := Kd.R_slice HO_3.out; subst eo51) | ((with_reducible refine gate_callee (f := 16) rfl ?_); refine goesL_ (some 60) rfl rfl Tryd.func16 (by kernel_rfl) rfl #[.slice Ao50 t126.length co50, .slice Ao51 x3_1.length co51] rfl (by (try simp only [List.map_toArray, List.map_cons, List.map_nil]); first | done | rfl | (simp only [List.length_drop, List.length_take]; rfl)) ?_; (with_reducible refine (laws_sameTexts.calls k1 _ _ t126 _ _ x3_1 false _ ?side1 ?side2 ?side3 ?side4 A42.out).mono ?_); (case side1 => repeat (first | exact (Kd.R_reads' HO128.out).2.2 | (with_reducible refine Kd.C_alloc ?_ _) | (with_reducible refine Kd.C_drewN ?_ _) | (with_reducible refine Kd.C_drew ?_))); (case side2 => exact (Kd.R_reads' HO128.out).2.1); (case side3 => repeat (first | exact (Kd.R_reads' HO_3.out).2.2 | (with_reducible refine Kd.C_alloc ?_ _) | (with_reducible refine Kd.C_drewN ?_ _) | (with_reducible refine Kd.C_drew ?_))); (case side4 => exact (Kd.R_reads' HO_3.out).2.1); rintro e w' ⟨rfl, ⟨nd, rfl⟩⟩; refine ⟨_, rfl, ?_⟩))
     go_ret
     exact ⟨by first | rfl | (simp [errW_none, errW_some] <;> rfl) | (simp [*, errW_none, errW_some] <;> rfl), by repeat (first | (with_reducible first | exact HB.out | apply below_alloc | apply pw_below_drewN | apply below_drew1) | exact HB.out)⟩

/-- THE ONE PURE STATEMENT of laws_FnElements: yours. -/
def laws_FnElements.Pure : Prop := ∀ (l0 : List Int), l0.length ≤ maxLen → l0.length * 1 ≤ 140737488351232 → (∀ x ∈ l0, (Lit.int .u8 x).wf = true) → ∃ k, laws_FnElements.f k l0 = some true
theorem laws_FnElements.walk (P : laws_FnElements.Pure) (a0 : Option Addr) (len0 cap0 : Nat) (z0 : List Int) (w : World) (w0 : (a0 = none ∧ len0 = 0 ∧ cap0 = 0 ∧ z0 = []) ∨ ∃ x, a0 = some x ∧ len0 ≤ cap0 ∧ cap0 ≤ maxLen ∧ z0.length = cap0 ∧ (∀ i, i < z0.length → w.cell? (x.add i) = some (.int .u8 (z0.getD i 0))) ∧ ∀ n ∈ z0, (Lit.int .u8 n).wf = true) (y0 : len0 * 1 ≤ 140737488351232) (ht : Tab w) :
  Calls Tryd.prog 5 #[.slice a0 len0 cap0] w fun e w' => e = .returned (.bool true) ∧ Below w.heap.size w w' := by
 obtain ⟨l0, rfl, hr0, hm0, hw0, hc0⟩ := ReadsInt.ofRowC w0
 obtain ⟨k, h⟩ := P l0 hm0 y0 hw0
 refine (laws_FnElements.calls k _ _ l0 true w (Kd.C_of_reads (d := (0 : Int)) (h1 := fun _ => rfl) hr0) hc0 ht h).mono ?_
 rintro e w' ⟨rfl, hd⟩
 exact ⟨rfl, hd⟩

end Go.Proofs.YtikeagkcekkioaaDoor.PFnElements
