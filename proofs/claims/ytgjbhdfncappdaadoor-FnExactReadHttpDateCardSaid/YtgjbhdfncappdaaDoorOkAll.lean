/- What the program's and the reference's CivilOk tell, as functions that the printed walks may call. No condition. -/
import Derived.Test.YtgjbhdfncappdaaDoorOkSpec
import Derived.Test.YtgjbhdfncappdaaDoorOkSpec2
namespace Go.Proofs.YtgjbhdfncappdaaDoor.Foreign
set_option linter.unusedVariables false
set_option linter.unusedSimpArgs false
open Go.RowKit Go.Proofs.YtgjbhdfncappdaaDoor.Dates Go.Proofs.YtgjbhdfncappdaaDoorV.PrintWords Go.Proofs.YtgjbhdfncappdaaDoorV.PrintLast Go.Proofs.YtgjbhdfncappdaaDoorV.PrintMore
def impl_CivilOk.f (y m d h mn s : Int) : Option Bool := some (decide (okC y m d h mn s))
def spec_CivilOk.f (y m d h mn s : Int) : Option Bool := some (decide (okC y m d h mn s))
theorem civilOk_true (y m d h mn s : Int) (k : okC y m d h mn s) (w : World) : Calls Tryd.prog 25 #[.agg #[.int .i64 y, .int .i64 m, .int .i64 d, .int .i64 h, .int .i64 mn, .int .i64 s]] w fun e w' => e = .returned (.bool true) ∧ Below w.heap.size w w' := by
  obtain ⟨a0, b0, a1, b1, a2, b2, a3, b3, a4, b4, a5, b5⟩ := k
  exact civilOk_yes y m d h mn s a0 b0 a1 b1 a2 b2 a3 b3 a4 b4 a5 b5 w
theorem civilOk_false (y m d h mn s : Int) (k : ¬ okC y m d h mn s) (w : World) : Calls Tryd.prog 25 #[.agg #[.int .i64 y, .int .i64 m, .int .i64 d, .int .i64 h, .int .i64 mn, .int .i64 s]] w fun e w' => e = .returned (.bool false) ∧ Below w.heap.size w w' := by
  by_cases c0 : 1970 ≤ y ∧ y ≤ 9999
  · by_cases c1 : 1 ≤ m ∧ m ≤ 12
    · by_cases c2 : 1 ≤ d ∧ d ≤ mlen y m
      · by_cases c3 : 0 ≤ h ∧ h ≤ 23
        · by_cases c4 : 0 ≤ mn ∧ mn ≤ 59
          · by_cases c5 : 0 ≤ s ∧ s ≤ 59
            · exact absurd ⟨c0.1, c0.2, c1.1, c1.2, c2.1, c2.2, c3.1, c3.2, c4.1, c4.2, c5.1, c5.2⟩ k
            · exact civilOk_5 y m d h mn s c0.1 c0.2 c1.1 c1.2 c2.1 c2.2 c3.1 c3.2 c4.1 c4.2 c5 w
          · exact civilOk_4 y m d h mn s c0.1 c0.2 c1.1 c1.2 c2.1 c2.2 c3.1 c3.2 c4 w
        · exact civilOk_3 y m d h mn s c0.1 c0.2 c1.1 c1.2 c2.1 c2.2 c3 w
      · exact civilOk_2 y m d h mn s c0.1 c0.2 c1.1 c1.2 c2 w
    · exact civilOk_1 y m d h mn s c0.1 c0.2 c1 w
  · exact civilOk_0 y m d h mn s c0 w
theorem specOk_true (y m d h mn s : Int) (k : okC y m d h mn s) (w : World) : Calls Tryd.prog 83 #[.agg #[.int .i64 y, .int .i64 m, .int .i64 d, .int .i64 h, .int .i64 mn, .int .i64 s]] w fun e w' => e = .returned (.bool true) ∧ Below w.heap.size w w' := by
  obtain ⟨a0, b0, a1, b1, a2, b2, a3, b3, a4, b4, a5, b5⟩ := k
  exact specOk_yes y m d h mn s a0 b0 a1 b1 a2 b2 a3 b3 a4 b4 a5 b5 w
theorem specOk_false (y m d h mn s : Int) (k : ¬ okC y m d h mn s) (w : World) : Calls Tryd.prog 83 #[.agg #[.int .i64 y, .int .i64 m, .int .i64 d, .int .i64 h, .int .i64 mn, .int .i64 s]] w fun e w' => e = .returned (.bool false) ∧ Below w.heap.size w w' := by
  by_cases c0 : 1970 ≤ y
  · by_cases c1 : y ≤ 9999
    · by_cases c2 : 1 ≤ m
      · by_cases c3 : m ≤ 12
        · by_cases c4 : 1 ≤ d
          · by_cases c5 : d ≤ mlen y m
            · by_cases c6 : 0 ≤ h
              · by_cases c7 : h ≤ 23
                · by_cases c8 : 0 ≤ mn
                  · by_cases c9 : mn ≤ 59
                    · by_cases c10 : 0 ≤ s
                      · by_cases c11 : s ≤ 59
                        · exact absurd ⟨c0, c1, c2, c3, c4, c5, c6, c7, c8, c9, c10, c11⟩ k
                        · exact specOk_11 y m d h mn s c0 c1 c2 c3 c4 c5 c6 c7 c8 c9 c10 (decide_eq_false c11) w
                      · exact specOk_10 y m d h mn s c0 c1 c2 c3 c4 c5 c6 c7 c8 c9 (decide_eq_false c10) w
                    · exact specOk_9 y m d h mn s c0 c1 c2 c3 c4 c5 c6 c7 c8 (decide_eq_false c9) w
                  · exact specOk_8 y m d h mn s c0 c1 c2 c3 c4 c5 c6 c7 (decide_eq_false c8) w
                · exact specOk_7 y m d h mn s c0 c1 c2 c3 c4 c5 c6 (decide_eq_false c7) w
              · exact specOk_6 y m d h mn s c0 c1 c2 c3 c4 c5 (decide_eq_false c6) w
            · exact specOk_5 y m d h mn s c0 c1 c2 c3 c4 (decide_eq_false c5) w
          · exact specOk_4 y m d h mn s c0 c1 c2 c3 (decide_eq_false c4) w
        · exact specOk_3 y m d h mn s c0 c1 c2 (decide_eq_false c3) w
      · exact specOk_2 y m d h mn s c0 c1 (decide_eq_false c2) w
    · exact specOk_1 y m d h mn s c0 (decide_eq_false c1) w
  · exact specOk_0 y m d h mn s (decide_eq_false c0) w
theorem impl_CivilOk.calls (y m d h mn s : Int) (r : Bool) (w : World) (hf : impl_CivilOk.f y m d h mn s = some r) : Calls Tryd.prog 25 #[.agg #[.int .i64 y, .int .i64 m, .int .i64 d, .int .i64 h, .int .i64 mn, .int .i64 s]] w fun e w' => e = .returned (.bool r) ∧ Below w.heap.size w w' := by
  obtain rfl := Option.some.inj hf
  by_cases k : okC y m d h mn s
  · rw [decide_eq_true k]; exact civilOk_true y m d h mn s k w
  · rw [decide_eq_false k]; exact civilOk_false y m d h mn s k w
theorem spec_CivilOk.calls (y m d h mn s : Int) (r : Bool) (w : World) (hf : spec_CivilOk.f y m d h mn s = some r) : Calls Tryd.prog 83 #[.agg #[.int .i64 y, .int .i64 m, .int .i64 d, .int .i64 h, .int .i64 mn, .int .i64 s]] w fun e w' => e = .returned (.bool r) ∧ Below w.heap.size w w' := by
  obtain rfl := Option.some.inj hf
  by_cases k : okC y m d h mn s
  · rw [decide_eq_true k]; exact specOk_true y m d h mn s k w
  · rw [decide_eq_false k]; exact specOk_false y m d h mn s k w
end Go.Proofs.YtgjbhdfncappdaaDoor.Foreign
