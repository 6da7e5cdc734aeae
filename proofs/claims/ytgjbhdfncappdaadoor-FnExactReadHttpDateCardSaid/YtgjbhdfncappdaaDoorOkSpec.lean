/- What the program's and the reference's CivilOk, SecondsOf, CivilOf tell, as functions that the printed walks may call. No condition. -/
import Derived.Test.YtgjbhdfncappdaaDoorOkImpl
namespace Go.Proofs.YtgjbhdfncappdaaDoor.Foreign
set_option linter.unusedVariables false
set_option linter.unusedSimpArgs false
open Go.RowKit Go.Proofs.YtgjbhdfncappdaaDoor.Dates Go.Proofs.YtgjbhdfncappdaaDoorV.PrintWords Go.Proofs.YtgjbhdfncappdaaDoorV.PrintLast Go.Proofs.YtgjbhdfncappdaaDoorV.PrintMore
set_option maxHeartbeats 1000000 in
theorem specOk_0 (y m d h mn s : Int)  (c : decide (1970 ≤ y) = false) (w : World) : Calls Tryd.prog 83 #[.agg #[.int .i64 y, .int .i64 m, .int .i64 d, .int .i64 h, .int .i64 mn, .int .i64 s]] w fun e w' => e = .returned (.bool false) ∧ Below w.heap.size w w' := by
  go_enter Tryd.func83, Tryd.ntmps83
  go_wp2
  go_quiet (fail)
  go_wp2
  go_ret
  exact ⟨rfl, below_drewN_ ((Below.refl _ _).alloc (Nat.le_refl _) _) _⟩

set_option maxHeartbeats 1000000 in
theorem specOk_1 (y m d h mn s : Int)  (a0 : 1970 ≤ y) (c : decide (y ≤ 9999) = false) (w : World) : Calls Tryd.prog 83 #[.agg #[.int .i64 y, .int .i64 m, .int .i64 d, .int .i64 h, .int .i64 mn, .int .i64 s]] w fun e w' => e = .returned (.bool false) ∧ Below w.heap.size w w' := by
  go_enter Tryd.func83, Tryd.ntmps83
  go_wp2
  go_quiet (fail)
  go_wp2
  go_ret
  exact ⟨rfl, below_drewN_ ((Below.refl _ _).alloc (Nat.le_refl _) _) _⟩

set_option maxHeartbeats 1000000 in
theorem specOk_2 (y m d h mn s : Int)  (a0 : 1970 ≤ y) (a1 : y ≤ 9999) (c : decide (1 ≤ m) = false) (w : World) : Calls Tryd.prog 83 #[.agg #[.int .i64 y, .int .i64 m, .int .i64 d, .int .i64 h, .int .i64 mn, .int .i64 s]] w fun e w' => e = .returned (.bool false) ∧ Below w.heap.size w w' := by
  go_enter Tryd.func83, Tryd.ntmps83
  go_wp2
  go_quiet (fail)
  go_wp2
  go_ret
  exact ⟨rfl, below_drewN_ ((Below.refl _ _).alloc (Nat.le_refl _) _) _⟩

set_option maxHeartbeats 1000000 in
theorem specOk_3 (y m d h mn s : Int)  (a0 : 1970 ≤ y) (a1 : y ≤ 9999) (a2 : 1 ≤ m) (c : decide (m ≤ 12) = false) (w : World) : Calls Tryd.prog 83 #[.agg #[.int .i64 y, .int .i64 m, .int .i64 d, .int .i64 h, .int .i64 mn, .int .i64 s]] w fun e w' => e = .returned (.bool false) ∧ Below w.heap.size w w' := by
  go_enter Tryd.func83, Tryd.ntmps83
  go_wp2
  go_quiet (fail)
  go_wp2
  go_ret
  exact ⟨rfl, below_drewN_ ((Below.refl _ _).alloc (Nat.le_refl _) _) _⟩

set_option maxHeartbeats 1000000 in
theorem specOk_4 (y m d h mn s : Int)  (a0 : 1970 ≤ y) (a1 : y ≤ 9999) (a2 : 1 ≤ m) (a3 : m ≤ 12) (c : decide (1 ≤ d) = false) (w : World) : Calls Tryd.prog 83 #[.agg #[.int .i64 y, .int .i64 m, .int .i64 d, .int .i64 h, .int .i64 mn, .int .i64 s]] w fun e w' => e = .returned (.bool false) ∧ Below w.heap.size w w' := by
  go_enter Tryd.func83, Tryd.ntmps83
  go_wp2
  go_quiet (fail)
  go_wp2
  go_ret
  exact ⟨rfl, below_drewN_ ((Below.refl _ _).alloc (Nat.le_refl _) _) _⟩

set_option maxHeartbeats 1000000 in
theorem specOk_5 (y m d h mn s : Int)  (a0 : 1970 ≤ y) (a1 : y ≤ 9999) (a2 : 1 ≤ m) (a3 : m ≤ 12) (a4 : 1 ≤ d) (c : decide (d ≤ mlen y m) = false) (w : World) : Calls Tryd.prog 83 #[.agg #[.int .i64 y, .int .i64 m, .int .i64 d, .int .i64 h, .int .i64 mn, .int .i64 s]] w fun e w' => e = .returned (.bool false) ∧ Below w.heap.size w w' := by
  go_enter Tryd.func83, Tryd.ntmps83
  go_wp2
  go_quiet (((go_at_call 70; exact Calls.quiet_of_same (l2days_q _ _ (by omega) _))))
  go_wp2
  go_ret
  exact ⟨rfl, below_drewN_ ((Below.refl _ _).alloc (Nat.le_refl _) _) _⟩

set_option maxHeartbeats 1000000 in
theorem specOk_6 (y m d h mn s : Int)  (a0 : 1970 ≤ y) (a1 : y ≤ 9999) (a2 : 1 ≤ m) (a3 : m ≤ 12) (a4 : 1 ≤ d) (a5 : d ≤ mlen y m) (c : decide (0 ≤ h) = false) (w : World) : Calls Tryd.prog 83 #[.agg #[.int .i64 y, .int .i64 m, .int .i64 d, .int .i64 h, .int .i64 mn, .int .i64 s]] w fun e w' => e = .returned (.bool false) ∧ Below w.heap.size w w' := by
  go_enter Tryd.func83, Tryd.ntmps83
  go_wp2
  go_quiet (((go_at_call 70; exact Calls.quiet_of_same (l2days_q _ _ (by omega) _))))
  go_wp2
  go_ret
  exact ⟨rfl, below_drewN_ ((Below.refl _ _).alloc (Nat.le_refl _) _) _⟩

end Go.Proofs.YtgjbhdfncappdaaDoor.Foreign
