/- What the program's and the reference's SecondsOf and CivilOf tell, as functions that the printed walks may call. No condition. -/
import Derived.Test.YtgjbhdfncappdaaDoorOkAll
import Derived.Test.YtgjbhdfncappdaaDoorCivWalk
namespace Go.Proofs.YtgjbhdfncappdaaDoor.Foreign
set_option linter.unusedVariables false
set_option linter.unusedSimpArgs false
open Go.RowKit Go.Proofs.YtgjbhdfncappdaaDoor.Dates Go.Proofs.YtgjbhdfncappdaaDoorV.PrintWords Go.Proofs.YtgjbhdfncappdaaDoorV.PrintLast Go.Proofs.YtgjbhdfncappdaaDoorV.PrintMore
theorem bcell {W w1 : World} (hb : Below W.heap.size W w1) : (∀ b o, b < W.heap.size → w1.cell? ⟨b, o, none⟩ = W.cell? ⟨b, o, none⟩) ∧ (∀ b o, b < W.heap.size → w1.frozen? ⟨b, o, none⟩ = W.frozen? ⟨b, o, none⟩) :=
  ⟨fun b o h => hb.cell (p := ⟨b, o, none⟩) h, fun b o h => hb.frozen (p := ⟨b, o, none⟩) h⟩
theorem daysBefore_q (y : Int) (h0 : 1970 ≤ y) (h1 : y ≤ 10000) (w : World) : Calls Tryd.prog 47 #[.int .i64 y] w fun e w' => e = .returned (.int .i64 (dby y)) ∧ w' = w := (daysBefore_c y h0 h1 w).mono fun _ _ ⟨a, b⟩ => ⟨a, b.symm⟩
theorem two {a b : Int} {k : Bool} (h : a = b) : Ending.returned (.tuple #[.int .i64 a, .bool k]) = Ending.returned (.tuple #[.int .i64 b, .bool k]) := by rw [h]
set_option maxHeartbeats 1000000 in
theorem secondsOf_yes (y m d h mn s : Int) (k : okC y m d h mn s) (w : World) : Calls Tryd.prog 24 #[.agg #[.int .i64 y, .int .i64 m, .int .i64 d, .int .i64 h, .int .i64 mn, .int .i64 s]] w fun e w' => e = .returned (.tuple #[.int .i64 (secs y m d h mn s), .bool true]) ∧ Below w.heap.size w w' := by
  have KA : Aside (okC y m d h mn s) := k
  obtain ⟨a0, b0, a1, b1, a2, b2, a3, b3, a4, b4, a5, b5⟩ := k
  have mb := mlen_bd y m
  have d1 : d ≤ 31 := by omega
  have hlo := dby_mono a0; rw [dby_1970] at hlo
  have hhi := dby_mono (show y ≤ 10000 by omega); rw [dby_end] at hhi
  clear b2
  go_enter Tryd.func24, Tryd.ntmps24
  go_wp2_with (go_at_call 25; refine (civilOk_true _ _ _ _ _ _ KA.out _).mono ?_; rintro e w1 ⟨rfl, hb⟩)
  have HB : Aside (Below w.heap.size w w1) := (((Below.refl _ _).alloc (Nat.le_refl _) _).trans (hb.mono (by simp)))
  obtain ⟨hc, hf⟩ := bcell hb
  clear hb
  go_quiet ((go_at_call 47; exact Calls.quiet_of_same (daysBefore_q _ (by omega) (by omega) _)))
  go_wp2
  obtain ⟨W3, hW3⟩ : ∃ W3, W3 = w1.drewN nq := ⟨_, rfl⟩
  have HB3 : Aside (Below w.heap.size w W3) := by rw [hW3]; exact below_drewN_ HB.out nq
  have hc3 : ∀ o, W3.cell? ⟨w.heap.size, o, none⟩ = (w.alloc (.cells #[.int .i64 y, .int .i64 m, .int .i64 d, .int .i64 h, .int .i64 mn, .int .i64 s] 30)).cell? ⟨w.heap.size, o, none⟩ := by
    intro o; rw [hW3, World.cell?_drewN]; exact hc _ _ (by simp)
  rw [← hW3]
  clear hc hf hW3
  go_loopg [4, 5] 13 (fun k s4 s5 wr => ∃ j : Int, 1 ≤ j ∧ j ≤ m ∧ s5 = .int .i64 j ∧ s4 = .int .i64 (dby y + d - 1 + cum y j) ∧ Aside ((12 - j).toNat < k) ∧ wr = W3)
  case atStart => exact ⟨1, by omega, by omega, rfl, by rw [cum_1, Int.add_zero], (by show (_ : Nat) < _; omega), rfl⟩
  case round =>
    obtain ⟨j, hj0, hj1, rfl, rfl, hj2, rfl⟩ := hrel
    have cb := cum_bd y j
    have mb2 := mlen_bd y j
    have CS : Aside (cum y (j + 1) = cum y j + mlen y j) := cum_succ y j hj0 (by omega)
    by_cases hc : j < m
    · go_wp2_with (go_at_call 48; refine (daysOf_c _ _ (by omega) (by omega) _).mono ?_; rintro e w' ⟨rfl, rfl⟩)
      go_roundg (gk - 1)
      case measure => have := hj2.out; omega
      case rel => exact ⟨j + 1, by omega, by omega, rfl, by rw [CS.out]; congr 1; omega, (by have := hj2.out; show (_ : Nat) < _; omega), rfl⟩
    · obtain rfl : j = m := by omega
      clear CS hj2
      go_wp2
      go_ret2
      exact ⟨two (by unfold secs; omega), HB3.out⟩
theorem secondsOf_no (y m d h mn s : Int) (k : ¬ okC y m d h mn s) (w : World) : Calls Tryd.prog 24 #[.agg #[.int .i64 y, .int .i64 m, .int .i64 d, .int .i64 h, .int .i64 mn, .int .i64 s]] w fun e w' => e = .returned (.tuple #[.int .i64 0, .bool false]) ∧ Below w.heap.size w w' := by
  go_enter Tryd.func24, Tryd.ntmps24
  go_wp2_with (go_at_call 25; refine (civilOk_false _ _ _ _ _ _ k _).mono ?_; rintro e w1 ⟨rfl, hb⟩)
  go_ret2
  exact ⟨rfl, (((Below.refl _ _).alloc (Nat.le_refl _) _).trans (hb.mono (by simp)))⟩
set_option maxHeartbeats 1000000 in
theorem specSecondsOf_yes (y m d h mn s : Int) (k : okC y m d h mn s) (w : World) : Calls Tryd.prog 74 #[.agg #[.int .i64 y, .int .i64 m, .int .i64 d, .int .i64 h, .int .i64 mn, .int .i64 s]] w fun e w' => e = .returned (.tuple #[.int .i64 (secs y m d h mn s), .bool true]) ∧ Below w.heap.size w w' := by
  have KA : Aside (okC y m d h mn s) := k
  obtain ⟨a0, b0, a1, b1, a2, b2, a3, b3, a4, b4, a5, b5⟩ := k
  have mb := mlen_bd y m
  have d1 : d ≤ 31 := by omega
  have hlo := dby_mono a0; rw [dby_1970] at hlo
  have hhi := dby_mono (show y ≤ 10000 by omega); rw [dby_end] at hhi
  clear b2
  go_enter Tryd.func74, Tryd.ntmps74
  go_wp2_with (go_at_call 83; refine (specOk_true _ _ _ _ _ _ KA.out _).mono ?_; rintro e w1 ⟨rfl, hb⟩; have HB : Aside (Below w.heap.size w w1) := (((Below.refl _ _).alloc (Nat.le_refl _) _).trans (hb.mono (by simp))); obtain ⟨hc, hf⟩ := bcell hb; clear hb)
  have hc3 : ∀ o, w1.cell? ⟨w.heap.size, o, none⟩ = (w.alloc (.cells #[.int .i64 y, .int .i64 m, .int .i64 d, .int .i64 h, .int .i64 mn, .int .i64 s] 30)).cell? ⟨w.heap.size, o, none⟩ := by
    intro o; exact hc _ _ (by simp)
  clear hc hf
  go_loopg [4, 5] 8031 (fun k s4 s5 wr => ∃ j : Int, 1970 ≤ j ∧ j ≤ y ∧ s5 = .int .i64 j ∧ s4 = .int .i64 (d - 1 + dby j) ∧ Aside ((9999 - j).toNat < k) ∧ w1 = wr)
  case atStart => exact ⟨1970, by omega, by omega, rfl, by rw [dby_1970, Int.add_zero], (by show (_ : Nat) < _; omega), rfl⟩
  case round =>
    obtain ⟨j, hj0, hj1, rfl, rfl, hj2, rfl⟩ := hrel
    have jl := ylen_pos j
    have jlo := dby_mono hj0; rw [dby_1970] at jlo
    have jhi := dby_mono (show j ≤ 10000 by omega); rw [dby_end] at jhi
    have CS : Aside (dby (j + 1) = dby j + ylen j) := dby_succ j
    by_cases hc : j < y
    · go_wp2_with (go_at_call 69; refine (l2year_c _ (by omega) _).mono ?_; rintro e w' ⟨rfl, rfl⟩)
      go_roundg (gk - 1)
      case measure => have := hj2.out; omega
      case rel => exact ⟨j + 1, by omega, by omega, rfl, by rw [CS.out]; congr 1; omega, (by have := hj2.out; show (_ : Nat) < _; omega), rfl⟩
    · obtain rfl : j = y := by omega
      clear CS hj2 hc
      go_wp2
      go_loopg [4, 6] 13 (fun k s4 s6 wr => ∃ i : Int, 1 ≤ i ∧ i ≤ m ∧ s6 = .int .i64 i ∧ s4 = .int .i64 (d - 1 + dby j + cum j i) ∧ Aside ((12 - i).toNat < k) ∧ w1 = wr)
      case atStart => exact ⟨1, by omega, by omega, rfl, by rw [cum_1, Int.add_zero], (by show (_ : Nat) < _; omega), rfl⟩
      case round =>
        obtain ⟨i, hi0, hi1, rfl, rfl, hi2, rfl⟩ := hrel
        have cb := cum_bd j i
        have mb2 := mlen_bd j i
        have CS : Aside (cum j (i + 1) = cum j i + mlen j i) := cum_succ j i hi0 (by omega)
        by_cases hc : i < m
        · go_wp2_with (go_at_call 70; refine (l2days_c _ _ (by omega) _).mono ?_; rintro e w' ⟨rfl, rfl⟩)
          go_roundg (gk - 1)
          case measure => have := hi2.out; omega
          case rel => exact ⟨i + 1, by omega, by omega, rfl, by rw [CS.out]; congr 1; omega, (by have := hi2.out; show (_ : Nat) < _; omega), rfl⟩
        · obtain rfl : i = m := by omega
          clear CS hi2
          go_wp2
          go_ret2
          exact ⟨two (by unfold secs; omega), HB.out⟩
theorem specSecondsOf_no (y m d h mn s : Int) (k : ¬ okC y m d h mn s) (w : World) : Calls Tryd.prog 74 #[.agg #[.int .i64 y, .int .i64 m, .int .i64 d, .int .i64 h, .int .i64 mn, .int .i64 s]] w fun e w' => e = .returned (.tuple #[.int .i64 0, .bool false]) ∧ Below w.heap.size w w' := by
  go_enter Tryd.func74, Tryd.ntmps74
  go_wp2_with (go_at_call 83; refine (specOk_false _ _ _ _ _ _ k _).mono ?_; rintro e w1 ⟨rfl, hb⟩)
  go_ret2
  exact ⟨rfl, (((Below.refl _ _).alloc (Nat.le_refl _) _).trans (hb.mono (by simp)))⟩
theorem isTime_yes (t : Int) (ht : isT t) (w : World) : Calls Tryd.prog 45 #[.int .i64 t] w fun e w' => e = .returned (.bool true) ∧ w = w' := by
  go_enter Tryd.func45, Tryd.ntmps45
  go_wp2_with (go_at_call 49; refine (within_yes t 0 253402300799 ht.1 ht.2 _).mono ?_; rintro e w' ⟨rfl, rfl⟩)
  go_ret
  exact ⟨rfl, rfl⟩
theorem isTime_no (t : Int) (ht : ¬ isT t) (w : World) : Calls Tryd.prog 45 #[.int .i64 t] w fun e w' => e = .returned (.bool false) ∧ w = w' := by
  go_enter Tryd.func45, Tryd.ntmps45
  go_wp2_with (go_at_call 49; refine (within_no t 0 253402300799 ht _).mono ?_; rintro e w' ⟨rfl, rfl⟩)
  go_ret
  exact ⟨rfl, rfl⟩
theorem implCivilOf_yes (t : Int) (ht : isT t) (w : World) :
    Calls Tryd.prog 22 #[.int .i64 t] w fun e w' => e = .returned (.tuple #[.agg #[.int .i64 (yr t), .int .i64 (mo t), .int .i64 (da t), .int .i64 (ho t), .int .i64 (mi t), .int .i64 (se t)], .bool true]) ∧ Below w.heap.size w w' := by
  go_enter Tryd.func22, Tryd.ntmps22
  go_wp2_with (go_at_call 45; refine (isTime_yes t ht _).mono ?_; rintro e w' ⟨rfl, rfl⟩)
  refine (civilOf_c t ht _).mono ?_
  rintro e w1 ⟨rfl, hb⟩
  have HB : Aside (Below w.heap.size w w1) := (((Below.refl _ _).alloc (Nat.le_refl _) _).trans (hb.mono (by simp)))
  have hz := hb.size
  have hz1 : w.heap.size < w1.heap.size := by simp at hz; omega
  obtain ⟨hc, hf⟩ := bcell hb
  clear hb hz
  go_wp2
  refine bodyPost_ret (v := .tuple #[.agg #[.int .i64 (yr t), .int .i64 (mo t), .int .i64 (da t), .int .i64 (ho t), .int .i64 (mi t), .int .i64 (se t)], .bool true]) (by simp [results, Tryd.results22, go_sem, hc, hz1]) rfl ⟨rfl, ?_⟩
  exact (((((HB.out.setCell (by simp) _).setCell (by simp) _).setCell (by simp) _).setCell (by simp) _).setCell (by simp) _).setCell (by simp) _
theorem implCivilOf_no (t : Int) (ht : ¬ isT t) (w : World) :
    Calls Tryd.prog 22 #[.int .i64 t] w fun e w' => e = .returned (.tuple #[.agg #[.int .i64 0, .int .i64 0, .int .i64 0, .int .i64 0, .int .i64 0, .int .i64 0], .bool false]) ∧ Below w.heap.size w w' := by
  go_enter Tryd.func22, Tryd.ntmps22
  go_wp2_with (go_at_call 45; refine (isTime_no t ht _).mono ?_; rintro e w' ⟨rfl, rfl⟩)
  refine bodyPost_ret (v := .tuple #[.agg #[.int .i64 0, .int .i64 0, .int .i64 0, .int .i64 0, .int .i64 0, .int .i64 0], .bool false]) (by simp [results, Tryd.results22, go_sem]) rfl ⟨rfl, (Below.refl _ _).alloc (Nat.le_refl _) _⟩
/-! As functions that the printed walks may call -/
def secM (y m d h mn s : Int) : Int × Bool := if okC y m d h mn s then (secs y m d h mn s, true) else (0, false)
def civM (t : Int) : Int × Int × Int × Int × Int × Int × Bool := if isT t then (yr t, mo t, da t, ho t, mi t, se t, true) else (0, 0, 0, 0, 0, 0, false)
def impl_SecondsOf.f (y m d h mn s : Int) : Option (Int × Bool) := some (secM y m d h mn s)
def spec_SecondsOf.f (y m d h mn s : Int) : Option (Int × Bool) := some (secM y m d h mn s)
def impl_CivilOf.f (t : Int) : Option (Int × Int × Int × Int × Int × Int × Bool) := some (civM t)
def spec_CivilOf.f (t : Int) : Option (Int × Int × Int × Int × Int × Int × Bool) := some (civM t)
def impl_civilOf.f (t : Int) : Option (Int × Int × Int × Int × Int × Int) := if isT t then some (yr t, mo t, da t, ho t, mi t, se t) else none
theorem impl_SecondsOf.calls (y m d h mn s : Int) (r1 : Int) (r2 : Bool) (w : World) (hf : impl_SecondsOf.f y m d h mn s = some (r1, r2)) : Calls Tryd.prog 24 #[.agg #[.int .i64 y, .int .i64 m, .int .i64 d, .int .i64 h, .int .i64 mn, .int .i64 s]] w fun e w' => e = .returned (.tuple #[.int .i64 r1, .bool r2]) ∧ Below w.heap.size w w' := by
  have hf := Option.some.inj hf
  unfold secM at hf
  by_cases k : okC y m d h mn s
  · rw [if_pos k] at hf
    obtain ⟨rfl, rfl⟩ := Prod.mk.inj hf
    exact secondsOf_yes y m d h mn s k w
  · rw [if_neg k] at hf
    obtain ⟨rfl, rfl⟩ := Prod.mk.inj hf
    exact secondsOf_no y m d h mn s k w
theorem spec_SecondsOf.calls (y m d h mn s : Int) (r1 : Int) (r2 : Bool) (w : World) (hf : spec_SecondsOf.f y m d h mn s = some (r1, r2)) : Calls Tryd.prog 74 #[.agg #[.int .i64 y, .int .i64 m, .int .i64 d, .int .i64 h, .int .i64 mn, .int .i64 s]] w fun e w' => e = .returned (.tuple #[.int .i64 r1, .bool r2]) ∧ Below w.heap.size w w' := by
  have hf := Option.some.inj hf
  unfold secM at hf
  by_cases k : okC y m d h mn s
  · rw [if_pos k] at hf
    obtain ⟨rfl, rfl⟩ := Prod.mk.inj hf
    exact specSecondsOf_yes y m d h mn s k w
  · rw [if_neg k] at hf
    obtain ⟨rfl, rfl⟩ := Prod.mk.inj hf
    exact specSecondsOf_no y m d h mn s k w
theorem impl_CivilOf.calls (t : Int) (r1 r2 r3 r4 r5 r6 : Int) (r7 : Bool) (w : World) (hf : impl_CivilOf.f t = some (r1, r2, r3, r4, r5, r6, r7)) : Calls Tryd.prog 22 #[.int .i64 t] w fun e w' => e = .returned (.tuple #[.agg #[.int .i64 r1, .int .i64 r2, .int .i64 r3, .int .i64 r4, .int .i64 r5, .int .i64 r6], .bool r7]) ∧ Below w.heap.size w w' := by
  have hf := Option.some.inj hf
  unfold civM at hf
  by_cases k : isT t
  · rw [if_pos k] at hf
    simp only [Prod.mk.injEq] at hf
    obtain ⟨rfl, rfl, rfl, rfl, rfl, rfl, rfl⟩ := hf
    exact implCivilOf_yes t k w
  · rw [if_neg k] at hf
    simp only [Prod.mk.injEq] at hf
    obtain ⟨rfl, rfl, rfl, rfl, rfl, rfl, rfl⟩ := hf
    exact implCivilOf_no t k w
theorem spec_CivilOf.calls (t : Int) (r1 r2 r3 r4 r5 r6 : Int) (r7 : Bool) (w : World) (hf : spec_CivilOf.f t = some (r1, r2, r3, r4, r5, r6, r7)) : Calls Tryd.prog 39 #[.int .i64 t] w fun e w' => e = .returned (.tuple #[.agg #[.int .i64 r1, .int .i64 r2, .int .i64 r3, .int .i64 r4, .int .i64 r5, .int .i64 r6], .bool r7]) ∧ Below w.heap.size w w' := by
  have hf := Option.some.inj hf
  unfold civM at hf
  by_cases k : isT t
  · rw [if_pos k] at hf
    simp only [Prod.mk.injEq] at hf
    obtain ⟨rfl, rfl, rfl, rfl, rfl, rfl, rfl⟩ := hf
    exact specCivilOf_c t k w
  · rw [if_neg k] at hf
    simp only [Prod.mk.injEq] at hf
    obtain ⟨rfl, rfl, rfl, rfl, rfl, rfl, rfl⟩ := hf
    exact specCivilOf_no t k w
theorem impl_civilOf.calls (t : Int) (r1 r2 r3 r4 r5 r6 : Int) (w : World) (hf : impl_civilOf.f t = some (r1, r2, r3, r4, r5, r6)) : Calls Tryd.prog 46 #[.int .i64 t] w fun e w' => e = .returned (.agg #[.int .i64 r1, .int .i64 r2, .int .i64 r3, .int .i64 r4, .int .i64 r5, .int .i64 r6]) ∧ Below w.heap.size w w' := by
  unfold impl_civilOf.f at hf
  by_cases k : isT t
  · rw [if_pos k] at hf
    simp only [Option.some.injEq, Prod.mk.injEq] at hf
    obtain ⟨rfl, rfl, rfl, rfl, rfl, rfl⟩ := hf
    exact civilOf_c t k w
  · rw [if_neg k] at hf; cases hf
end Go.Proofs.YtgjbhdfncappdaaDoor.Foreign
