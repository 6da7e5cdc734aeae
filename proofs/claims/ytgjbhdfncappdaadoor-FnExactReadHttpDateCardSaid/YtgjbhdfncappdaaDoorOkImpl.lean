/- What the program's and the reference's CivilOk, SecondsOf, CivilOf tell, as functions that the printed walks may call. No condition. -/
import Derived.Test.YtgjbhdfncappdaaDoorCivDays
namespace Go.Proofs.YtgjbhdfncappdaaDoor.Foreign
set_option linter.unusedVariables false
set_option linter.unusedSimpArgs false
open Go.RowKit Go.Proofs.YtgjbhdfncappdaaDoor.Dates Go.Proofs.YtgjbhdfncappdaaDoorV.PrintWords Go.Proofs.YtgjbhdfncappdaaDoorV.PrintLast Go.Proofs.YtgjbhdfncappdaaDoorV.PrintMore
theorem within_yes (n lo hi : Int) (h0 : lo ≤ n) (h1 : n ≤ hi) (w : World) : Calls Tryd.prog 49 #[.int .i64 n, .int .i64 lo, .int .i64 hi] w fun e w' => e = .returned (.bool true) ∧ w' = w := by
  go_enter Tryd.func49, Tryd.ntmps49
  go_wp2
  go_ret
  exact ⟨rfl, rfl⟩
theorem within_no (n lo hi : Int) (h : ¬ (lo ≤ n ∧ n ≤ hi)) (w : World) : Calls Tryd.prog 49 #[.int .i64 n, .int .i64 lo, .int .i64 hi] w fun e w' => e = .returned (.bool false) ∧ w' = w := by
  by_cases h0 : lo ≤ n
  · have h1 : decide (n ≤ hi) = false := decide_eq_false fun h' => h ⟨h0, h'⟩
    clear h
    go_enter Tryd.func49, Tryd.ntmps49
    go_wp2
    go_ret
    exact ⟨rfl, rfl⟩
  · have h1 : decide (lo ≤ n) = false := decide_eq_false h0
    clear h h0
    go_enter Tryd.func49, Tryd.ntmps49
    go_wp2
    go_ret
    exact ⟨rfl, rfl⟩
theorem daysOf_q (y m : Int) (h0 : 1970 ≤ y) (h1 : y ≤ 10000) (w : World) : Calls Tryd.prog 48 #[.int .i64 y, .int .i64 m] w fun e w' => e = .returned (.int .i64 (mlen y m)) ∧ w' = w := (daysOf_c y m h0 h1 w).mono fun _ _ ⟨a, b⟩ => ⟨a, b.symm⟩
theorem l2days_q (y m : Int) (h0 : 1970 ≤ y) (w : World) : Calls Tryd.prog 70 #[.int .i64 y, .int .i64 m] w fun e w' => e = .returned (.int .i64 (mlen y m)) ∧ w' = w := (l2days_c y m h0 w).mono fun _ _ ⟨a, b⟩ => ⟨a, b.symm⟩

theorem below_drewN_ {B : Nat} {w w1 : World} (h : Below B w w1) (n : Nat) : Below B w (w1.drewN n) := pw_below_drewN h n

set_option maxHeartbeats 1000000 in
theorem civilOk_0 (y m d h mn s : Int)  (c : ¬ (1970 ≤ y ∧ y ≤ 9999)) (w : World) : Calls Tryd.prog 25 #[.agg #[.int .i64 y, .int .i64 m, .int .i64 d, .int .i64 h, .int .i64 mn, .int .i64 s]] w fun e w' => e = .returned (.bool false) ∧ Below w.heap.size w w' := by
  have mb := mlen_bd y m
  go_enter Tryd.func25, Tryd.ntmps25
  go_wp2
  go_quiet ((first | (go_at_call 49; with_reducible exact Calls.quiet_of_same (within_no (y) (1970) (9999) c _))))
  go_wp2
  go_ret
  exact ⟨rfl, below_drewN_ ((Below.refl _ _).alloc (Nat.le_refl _) _) _⟩

set_option maxHeartbeats 1000000 in
theorem civilOk_1 (y m d h mn s : Int)  (a0 : 1970 ≤ y) (b0 : y ≤ 9999) (c : ¬ (1 ≤ m ∧ m ≤ 12)) (w : World) : Calls Tryd.prog 25 #[.agg #[.int .i64 y, .int .i64 m, .int .i64 d, .int .i64 h, .int .i64 mn, .int .i64 s]] w fun e w' => e = .returned (.bool false) ∧ Below w.heap.size w w' := by
  have mb := mlen_bd y m
  go_enter Tryd.func25, Tryd.ntmps25
  go_wp2
  go_quiet ((first | (go_at_call 49; with_reducible exact Calls.quiet_of_same (within_yes (y) (1970) (9999) a0 b0 _)) | (go_at_call 49; with_reducible exact Calls.quiet_of_same (within_no (m) (1) (12) c _))))
  go_wp2
  go_ret
  exact ⟨rfl, below_drewN_ ((Below.refl _ _).alloc (Nat.le_refl _) _) _⟩

set_option maxHeartbeats 1000000 in
theorem civilOk_2 (y m d h mn s : Int)  (a0 : 1970 ≤ y) (b0 : y ≤ 9999) (a1 : 1 ≤ m) (b1 : m ≤ 12) (c : ¬ (1 ≤ d ∧ d ≤ mlen y m)) (w : World) : Calls Tryd.prog 25 #[.agg #[.int .i64 y, .int .i64 m, .int .i64 d, .int .i64 h, .int .i64 mn, .int .i64 s]] w fun e w' => e = .returned (.bool false) ∧ Below w.heap.size w w' := by
  have mb := mlen_bd y m
  go_enter Tryd.func25, Tryd.ntmps25
  go_wp2
  go_quiet ((first | (go_at_call 48; exact Calls.quiet_of_same (daysOf_q _ _ (by omega) (by omega) _)) | (go_at_call 49; with_reducible exact Calls.quiet_of_same (within_yes (y) (1970) (9999) a0 b0 _)) | (go_at_call 49; with_reducible exact Calls.quiet_of_same (within_yes (m) (1) (12) a1 b1 _)) | (go_at_call 49; with_reducible exact Calls.quiet_of_same (within_no (d) (1) (mlen y m) c _))))
  go_wp2
  go_ret
  exact ⟨rfl, below_drewN_ ((Below.refl _ _).alloc (Nat.le_refl _) _) _⟩

set_option maxHeartbeats 1000000 in
theorem civilOk_3 (y m d h mn s : Int)  (a0 : 1970 ≤ y) (b0 : y ≤ 9999) (a1 : 1 ≤ m) (b1 : m ≤ 12) (a2 : 1 ≤ d) (b2 : d ≤ mlen y m) (c : ¬ (0 ≤ h ∧ h ≤ 23)) (w : World) : Calls Tryd.prog 25 #[.agg #[.int .i64 y, .int .i64 m, .int .i64 d, .int .i64 h, .int .i64 mn, .int .i64 s]] w fun e w' => e = .returned (.bool false) ∧ Below w.heap.size w w' := by
  have mb := mlen_bd y m
  go_enter Tryd.func25, Tryd.ntmps25
  go_wp2
  go_quiet ((first | (go_at_call 48; exact Calls.quiet_of_same (daysOf_q _ _ (by omega) (by omega) _)) | (go_at_call 49; with_reducible exact Calls.quiet_of_same (within_yes (y) (1970) (9999) a0 b0 _)) | (go_at_call 49; with_reducible exact Calls.quiet_of_same (within_yes (m) (1) (12) a1 b1 _)) | (go_at_call 49; with_reducible exact Calls.quiet_of_same (within_yes (d) (1) (mlen y m) a2 b2 _)) | (go_at_call 49; with_reducible exact Calls.quiet_of_same (within_no (h) (0) (23) c _))))
  go_wp2
  go_ret
  exact ⟨rfl, below_drewN_ ((Below.refl _ _).alloc (Nat.le_refl _) _) _⟩

set_option maxHeartbeats 1000000 in
theorem civilOk_4 (y m d h mn s : Int)  (a0 : 1970 ≤ y) (b0 : y ≤ 9999) (a1 : 1 ≤ m) (b1 : m ≤ 12) (a2 : 1 ≤ d) (b2 : d ≤ mlen y m) (a3 : 0 ≤ h) (b3 : h ≤ 23) (c : ¬ (0 ≤ mn ∧ mn ≤ 59)) (w : World) : Calls Tryd.prog 25 #[.agg #[.int .i64 y, .int .i64 m, .int .i64 d, .int .i64 h, .int .i64 mn, .int .i64 s]] w fun e w' => e = .returned (.bool false) ∧ Below w.heap.size w w' := by
  have mb := mlen_bd y m
  go_enter Tryd.func25, Tryd.ntmps25
  go_wp2
  go_quiet ((first | (go_at_call 48; exact Calls.quiet_of_same (daysOf_q _ _ (by omega) (by omega) _)) | (go_at_call 49; with_reducible exact Calls.quiet_of_same (within_yes (y) (1970) (9999) a0 b0 _)) | (go_at_call 49; with_reducible exact Calls.quiet_of_same (within_yes (m) (1) (12) a1 b1 _)) | (go_at_call 49; with_reducible exact Calls.quiet_of_same (within_yes (d) (1) (mlen y m) a2 b2 _)) | (go_at_call 49; with_reducible exact Calls.quiet_of_same (within_yes (h) (0) (23) a3 b3 _)) | (go_at_call 49; with_reducible exact Calls.quiet_of_same (within_no (mn) (0) (59) c _))))
  go_wp2
  go_ret
  exact ⟨rfl, below_drewN_ ((Below.refl _ _).alloc (Nat.le_refl _) _) _⟩

set_option maxHeartbeats 1000000 in
theorem civilOk_5 (y m d h mn s : Int)  (a0 : 1970 ≤ y) (b0 : y ≤ 9999) (a1 : 1 ≤ m) (b1 : m ≤ 12) (a2 : 1 ≤ d) (b2 : d ≤ mlen y m) (a3 : 0 ≤ h) (b3 : h ≤ 23) (a4 : 0 ≤ mn) (b4 : mn ≤ 59) (c : ¬ (0 ≤ s ∧ s ≤ 59)) (w : World) : Calls Tryd.prog 25 #[.agg #[.int .i64 y, .int .i64 m, .int .i64 d, .int .i64 h, .int .i64 mn, .int .i64 s]] w fun e w' => e = .returned (.bool false) ∧ Below w.heap.size w w' := by
  have mb := mlen_bd y m
  go_enter Tryd.func25, Tryd.ntmps25
  go_wp2
  go_quiet ((first | (go_at_call 48; exact Calls.quiet_of_same (daysOf_q _ _ (by omega) (by omega) _)) | (go_at_call 49; with_reducible exact Calls.quiet_of_same (within_yes (y) (1970) (9999) a0 b0 _)) | (go_at_call 49; with_reducible exact Calls.quiet_of_same (within_yes (m) (1) (12) a1 b1 _)) | (go_at_call 49; with_reducible exact Calls.quiet_of_same (within_yes (d) (1) (mlen y m) a2 b2 _)) | (go_at_call 49; with_reducible exact Calls.quiet_of_same (within_yes (h) (0) (23) a3 b3 _)) | (go_at_call 49; with_reducible exact Calls.quiet_of_same (within_yes (mn) (0) (59) a4 b4 _)) | (go_at_call 49; with_reducible exact Calls.quiet_of_same (within_no (s) (0) (59) c _))))
  go_wp2
  go_ret
  exact ⟨rfl, below_drewN_ ((Below.refl _ _).alloc (Nat.le_refl _) _) _⟩

set_option maxHeartbeats 1000000 in
theorem civilOk_yes (y m d h mn s : Int)  (a0 : 1970 ≤ y) (b0 : y ≤ 9999) (a1 : 1 ≤ m) (b1 : m ≤ 12) (a2 : 1 ≤ d) (b2 : d ≤ mlen y m) (a3 : 0 ≤ h) (b3 : h ≤ 23) (a4 : 0 ≤ mn) (b4 : mn ≤ 59) (a5 : 0 ≤ s) (b5 : s ≤ 59) (w : World) : Calls Tryd.prog 25 #[.agg #[.int .i64 y, .int .i64 m, .int .i64 d, .int .i64 h, .int .i64 mn, .int .i64 s]] w fun e w' => e = .returned (.bool true) ∧ Below w.heap.size w w' := by
  have mb := mlen_bd y m
  go_enter Tryd.func25, Tryd.ntmps25
  go_wp2
  go_quiet ((first | (go_at_call 48; exact Calls.quiet_of_same (daysOf_q _ _ (by omega) (by omega) _)) | (go_at_call 49; with_reducible exact Calls.quiet_of_same (within_yes (y) (1970) (9999) a0 b0 _)) | (go_at_call 49; with_reducible exact Calls.quiet_of_same (within_yes (m) (1) (12) a1 b1 _)) | (go_at_call 49; with_reducible exact Calls.quiet_of_same (within_yes (d) (1) (mlen y m) a2 b2 _)) | (go_at_call 49; with_reducible exact Calls.quiet_of_same (within_yes (h) (0) (23) a3 b3 _)) | (go_at_call 49; with_reducible exact Calls.quiet_of_same (within_yes (mn) (0) (59) a4 b4 _)) | (go_at_call 49; with_reducible exact Calls.quiet_of_same (within_yes (s) (0) (59) a5 b5 _))))
  go_wp2
  go_ret
  exact ⟨rfl, below_drewN_ ((Below.refl _ _).alloc (Nat.le_refl _) _) _⟩

end Go.Proofs.YtgjbhdfncappdaaDoor.Foreign
