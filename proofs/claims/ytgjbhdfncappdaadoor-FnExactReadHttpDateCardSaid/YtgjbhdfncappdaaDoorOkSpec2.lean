/- What the program's and the reference's CivilOk, SecondsOf, CivilOf tell, as functions that the printed walks may call. No condition. -/
import Derived.Test.YtgjbhdfncappdaaDoorOkImpl
namespace Go.Proofs.YtgjbhdfncappdaaDoor.Foreign
set_option linter.unusedVariables false
set_option linter.unusedSimpArgs false
open Go.RowKit Go.Proofs.YtgjbhdfncappdaaDoor.Dates Go.Proofs.YtgjbhdfncappdaaDoorV.PrintWords Go.Proofs.YtgjbhdfncappdaaDoorV.PrintLast Go.Proofs.YtgjbhdfncappdaaDoorV.PrintMore
set_option maxHeartbeats 1000000 in
theorem specOk_7 (y m d h mn s : Int)  (a0 : 1970 ≤ y) (a1 : y ≤ 9999) (a2 : 1 ≤ m) (a3 : m ≤ 12) (a4 : 1 ≤ d) (a5 : d ≤ mlen y m) (a6 : 0 ≤ h) (c : decide (h ≤ 23) = false) (w : World) : Calls Tryd.prog 83 #[.agg #[.int .i64 y, .int .i64 m, .int .i64 d, .int .i64 h, .int .i64 mn, .int .i64 s]] w fun e w' => e = .returned (.bool false) ∧ Below w.heap.size w w' := by
  go_enter Tryd.func83, Tryd.ntmps83
  go_wp2
  go_quiet (((go_at_call 70; exact Calls.quiet_of_same (l2days_q _ _ (by omega) _))))
  go_wp2
  go_ret
  exact ⟨rfl, below_drewN_ ((Below.refl _ _).alloc (Nat.le_refl _) _) _⟩

set_option maxHeartbeats 1000000 in
theorem specOk_8 (y m d h mn s : Int)  (a0 : 1970 ≤ y) (a1 : y ≤ 9999) (a2 : 1 ≤ m) (a3 : m ≤ 12) (a4 : 1 ≤ d) (a5 : d ≤ mlen y m) (a6 : 0 ≤ h) (a7 : h ≤ 23) (c : decide (0 ≤ mn) = false) (w : World) : Calls Tryd.prog 83 #[.agg #[.int .i64 y, .int .i64 m, .int .i64 d, .int .i64 h, .int .i64 mn, .int .i64 s]] w fun e w' => e = .returned (.bool false) ∧ Below w.heap.size w w' := by
  go_enter Tryd.func83, Tryd.ntmps83
  go_wp2
  go_quiet (((go_at_call 70; exact Calls.quiet_of_same (l2days_q _ _ (by omega) _))))
  go_wp2
  go_ret
  exact ⟨rfl, below_drewN_ ((Below.refl _ _).alloc (Nat.le_refl _) _) _⟩

set_option maxHeartbeats 1000000 in
theorem specOk_9 (y m d h mn s : Int)  (a0 : 1970 ≤ y) (a1 : y ≤ 9999) (a2 : 1 ≤ m) (a3 : m ≤ 12) (a4 : 1 ≤ d) (a5 : d ≤ mlen y m) (a6 : 0 ≤ h) (a7 : h ≤ 23) (a8 : 0 ≤ mn) (c : decide (mn ≤ 59) = false) (w : World) : Calls Tryd.prog 83 #[.agg #[.int .i64 y, .int .i64 m, .int .i64 d, .int .i64 h, .int .i64 mn, .int .i64 s]] w fun e w' => e = .returned (.bool false) ∧ Below w.heap.size w w' := by
  go_enter Tryd.func83, Tryd.ntmps83
  go_wp2
  go_quiet (((go_at_call 70; exact Calls.quiet_of_same (l2days_q _ _ (by omega) _))))
  go_wp2
  go_ret
  exact ⟨rfl, below_drewN_ ((Below.refl _ _).alloc (Nat.le_refl _) _) _⟩

set_option maxHeartbeats 1000000 in
theorem specOk_10 (y m d h mn s : Int)  (a0 : 1970 ≤ y) (a1 : y ≤ 9999) (a2 : 1 ≤ m) (a3 : m ≤ 12) (a4 : 1 ≤ d) (a5 : d ≤ mlen y m) (a6 : 0 ≤ h) (a7 : h ≤ 23) (a8 : 0 ≤ mn) (a9 : mn ≤ 59) (c : decide (0 ≤ s) = false) (w : World) : Calls Tryd.prog 83 #[.agg #[.int .i64 y, .int .i64 m, .int .i64 d, .int .i64 h, .int .i64 mn, .int .i64 s]] w fun e w' => e = .returned (.bool false) ∧ Below w.heap.size w w' := by
  go_enter Tryd.func83, Tryd.ntmps83
  go_wp2
  go_quiet (((go_at_call 70; exact Calls.quiet_of_same (l2days_q _ _ (by omega) _))))
  go_wp2
  go_ret
  exact ⟨rfl, below_drewN_ ((Below.refl _ _).alloc (Nat.le_refl _) _) _⟩

set_option maxHeartbeats 1000000 in
theorem specOk_11 (y m d h mn s : Int)  (a0 : 1970 ≤ y) (a1 : y ≤ 9999) (a2 : 1 ≤ m) (a3 : m ≤ 12) (a4 : 1 ≤ d) (a5 : d ≤ mlen y m) (a6 : 0 ≤ h) (a7 : h ≤ 23) (a8 : 0 ≤ mn) (a9 : mn ≤ 59) (a10 : 0 ≤ s) (c : decide (s ≤ 59) = false) (w : World) : Calls Tryd.prog 83 #[.agg #[.int .i64 y, .int .i64 m, .int .i64 d, .int .i64 h, .int .i64 mn, .int .i64 s]] w fun e w' => e = .returned (.bool false) ∧ Below w.heap.size w w' := by
  go_enter Tryd.func83, Tryd.ntmps83
  go_wp2
  go_quiet (((go_at_call 70; exact Calls.quiet_of_same (l2days_q _ _ (by omega) _))))
  go_wp2
  go_ret
  exact ⟨rfl, below_drewN_ ((Below.refl _ _).alloc (Nat.le_refl _) _) _⟩

set_option maxHeartbeats 1000000 in
theorem specOk_yes (y m d h mn s : Int)  (a0 : 1970 ≤ y) (a1 : y ≤ 9999) (a2 : 1 ≤ m) (a3 : m ≤ 12) (a4 : 1 ≤ d) (a5 : d ≤ mlen y m) (a6 : 0 ≤ h) (a7 : h ≤ 23) (a8 : 0 ≤ mn) (a9 : mn ≤ 59) (a10 : 0 ≤ s) (a11 : s ≤ 59) (w : World) : Calls Tryd.prog 83 #[.agg #[.int .i64 y, .int .i64 m, .int .i64 d, .int .i64 h, .int .i64 mn, .int .i64 s]] w fun e w' => e = .returned (.bool true) ∧ Below w.heap.size w w' := by
  go_enter Tryd.func83, Tryd.ntmps83
  go_wp2
  go_quiet (((go_at_call 70; exact Calls.quiet_of_same (l2days_q _ _ (by omega) _))))
  go_wp2
  go_ret
  exact ⟨rfl, below_drewN_ ((Below.refl _ _).alloc (Nat.le_refl _) _) _⟩

end Go.Proofs.YtgjbhdfncappdaaDoor.Foreign
