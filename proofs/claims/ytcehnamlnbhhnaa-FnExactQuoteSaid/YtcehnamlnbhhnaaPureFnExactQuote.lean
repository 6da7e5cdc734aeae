/- The law FnExactQuote answers true for every text: both ask the same of its bytes and put the same in quotes. No condition. -/
import Derived.Test.YtcehnamlnbhhnaaQFnExactQuotex1
import Derived.Test.YtcehnamlnbhhnaaBase
namespace Go.Proofs.Ytcehnamlnbhhnaa.Pure
open Go.RowKit Go.Proofs.Ytcehnamlnbhhnaa.PFnExactQuote Go.Proofs.YtcehnamlnbhhnaaW.PrintWords Go.Proofs.YtcehnamlnbhhnaaW.PrintLast Go.Proofs.YtcehnamlnbhhnaaW.PrintMore Go.Proofs.Ytcehnamlnbhhnaa.Base
set_option linter.unusedVariables false
set_option linter.unusedSimpArgs false

/-! Texts in quotes -/
def plain (b : Int) : Bool := if b = 9 then true else if b ≥ 32 then b != 127 else false
theorem impl_plain (b : Int) : impl_isPlain.f b = some (plain b) := by
  unfold impl_isPlain.f plain
  split
  · rfl
  · split <;> rfl
theorem spec_plain (b : Int) : spec_l1plain.f b = some (plain b) := by
  unfold spec_l1plain.f plain
  split
  · rfl
  · split <;> rfl
def plains (s : ByteArray) (i d : Nat) : Bool := (List.range' i d).all fun j => plain (bt s (j : Int))
theorem plains_succ (s : ByteArray) (i d : Nat) : plains s i (d + 1) = (plain (bt s (i : Int)) && plains s (i + 1) d) := by simp [plains, List.range'_succ]
def q1 (b : Int) : List Int := if b = 34 then [92, b] else if b = 92 then [92, b] else [b]
def qs (s : ByteArray) (i d : Nat) : List Int := (List.range' i d).flatMap fun (j : Nat) => q1 (bt s (j : Int))
theorem qs_succ (s : ByteArray) (i d : Nat) : qs s i (d + 1) = q1 (bt s (i : Int)) ++ qs s (i + 1) d := by simp [qs, List.range'_succ]
theorem impl_all_l0 (s : ByteArray) (hb : s.size ≤ 1048576) : ∀ (d i : Nat), i + d = s.size → Ev (fun k => impl_all.l0 k s (i : Int)) (plains s i d) := by
  intro d
  induction d with
  | zero => intro i h; exact Ev.step (fun k => impl_all.l0.eq_2 _ _ k) (Ev.neg (by omega) (Ev.now _))
  | succ d ih =>
    intro i h
    have hw : wrap64 ((i : Int) + 1) = ((i + 1 : Nat) : Int) := by rw [w64 (by omega) (by omega)]; omega
    have h1 := ih (i + 1) (by omega)
    refine Ev.step (fun k => impl_all.l0.eq_2 _ _ k) (Ev.pos (by omega) (Ev.pos (by omega) (Ev.told (impl_plain _) ?_)))
    rw [hw, plains_succ]
    cases ht : plain (bt s (i : Int)) with
    | true => exact Ev.pos rfl (by simpa using h1)
    | false => exact Ev.neg (by simp) (Ev.now _)
theorem impl_q_l0 (s : ByteArray) (hb : s.size ≤ 1048576) : ∀ (d i : Nat) (out : List Int), i + d = s.size → out.length + 2 * d < 1000000000 →
    Ev (fun k => impl_Quote.l0 k s out (i : Int)) (strOfNums (out ++ qs s i d ++ [34]), true) := by
  intro d
  induction d with
  | zero =>
    intro i out h hl
    refine Ev.step (fun k => impl_Quote.l0.eq_2 _ _ _ k) (Ev.neg (by omega) (Ev.pos (by omega) ?_))
    simp only [qs, List.range'_zero, List.flatMap_nil, List.append_nil]; exact Ev.now _
  | succ d ih =>
    intro i out h hl
    have hw : wrap64 ((i : Int) + 1) = ((i + 1 : Nat) : Int) := by rw [w64 (by omega) (by omega)]; omega
    refine Ev.step (fun k => impl_Quote.l0.eq_2 _ _ _ k) (Ev.pos (by omega) (Ev.pos (by omega) ?_))
    rw [hw, qs_succ, ← List.append_assoc]
    have h1 := fun o ho => ih (i + 1) (out ++ o) (by omega) ho
    unfold q1
    by_cases a1 : bt s (i : Int) = 34
    · rw [if_pos a1]
      refine Ev.pos a1 (Ev.pos (by omega) (Ev.told rfl (Ev.pos (by rw [List.length_append, List.length_singleton]; omega) ?_)))
      rw [List.append_assoc]
      exact h1 [92, bt s (i : Int)] (by simp; omega)
    · rw [if_neg a1]
      refine Ev.neg a1 ?_
      by_cases a2 : bt s (i : Int) = 92
      · rw [if_pos a2]
        refine Ev.pos a2 (Ev.pos (by omega) (Ev.told rfl (Ev.pos (by rw [List.length_append, List.length_singleton]; omega) ?_)))
        rw [List.append_assoc]
        exact h1 [92, bt s (i : Int)] (by simp; omega)
      · rw [if_neg a2]
        exact Ev.neg a2 (Ev.pos (by omega) (h1 [bt s (i : Int)] (by simp; omega)))
theorem spec_q_l0 (s : ByteArray) (hb : s.size ≤ 1048576) : ∀ (d i : Nat) (out : List Int), i + d = s.size → out.length + 2 * d < 1000000000 →
    Ev (fun k => spec_Quote.l0 k s out (i : Int)) (if plains s i d = true then (strOfNums (out ++ qs s i d ++ [34]), true) else (⟨#[]⟩, false)) := by
  intro d
  induction d with
  | zero =>
    intro i out h hl
    refine Ev.step (fun k => spec_Quote.l0.eq_2 _ _ _ k) (Ev.neg (by omega) (Ev.pos (by omega) ?_))
    simp only [plains, qs, List.range'_zero, List.flatMap_nil, List.append_nil, List.all_nil, if_true]; exact Ev.now _
  | succ d ih =>
    intro i out h hl
    have hw : wrap64 ((i : Int) + 1) = ((i + 1 : Nat) : Int) := by rw [w64 (by omega) (by omega)]; omega
    refine Ev.step (fun k => spec_Quote.l0.eq_2 _ _ _ k) (Ev.pos (by omega) (Ev.pos (by omega) (Ev.told (spec_plain _) ?_)))
    rw [hw, qs_succ, ← List.append_assoc, plains_succ]
    have h1 := fun o ho => ih (i + 1) (out ++ o) (by omega) ho
    cases ht : plain (bt s (i : Int)) with
    | false => exact Ev.neg (by simp) (Ev.now _)
    | true =>
      refine Ev.pos rfl ?_
      rw [Bool.true_and]
      unfold q1
      by_cases a1 : bt s (i : Int) = 34
      · rw [if_pos a1]
        refine Ev.pos a1 (Ev.pos (by omega) (Ev.told rfl (Ev.pos (by rw [List.length_append, List.length_singleton]; omega) ?_)))
        rw [List.append_assoc]
        exact h1 [92, bt s (i : Int)] (by simp; omega)
      · rw [if_neg a1]
        refine Ev.neg a1 ?_
        by_cases a2 : bt s (i : Int) = 92
        · rw [if_pos a2]
          refine Ev.pos a2 (Ev.pos (by omega) (Ev.told rfl (Ev.pos (by rw [List.length_append, List.length_singleton]; omega) ?_)))
          rw [List.append_assoc]
          exact h1 [92, bt s (i : Int)] (by simp; omega)
        · rw [if_neg a2]
          exact Ev.neg a2 (Ev.pos (by omega) (h1 [bt s (i : Int)] (by simp; omega)))
def quote (s : ByteArray) : ByteArray × Bool := if s.size ≤ 4000 ∧ plains s 0 s.size = true then (strOfNums ([34] ++ qs s 0 s.size ++ [34]), true) else (⟨#[]⟩, false)
theorem quote_long {s : ByteArray} (h : (s.size : Int) > 4000) : quote s = (⟨#[]⟩, false) := by
  unfold quote; exact if_neg (fun x => by omega)
theorem quote_bad {s : ByteArray} (h : plains s 0 s.size = false) : quote s = (⟨#[]⟩, false) := by
  unfold quote; exact if_neg (fun x => by rw [h] at x; exact absurd x.2 (by decide))
theorem quote_good {s : ByteArray} (h4 : ¬ (s.size : Int) > 4000) (h : plains s 0 s.size = true) : quote s = (strOfNums ([34] ++ qs s 0 s.size ++ [34]), true) := by
  unfold quote; exact if_pos ⟨by omega, h⟩
theorem spec_quote (s : ByteArray) (hb : s.size ≤ 1048576) : Ev (fun k => spec_Quote.f k s) (quote s) := by
  unfold spec_Quote.f
  by_cases h4 : (s.size : Int) > 4000
  · rw [quote_long h4]; exact Ev.pos h4 (Ev.now _)
  · refine Ev.neg h4 ?_
    have h1 := spec_q_l0 s hb s.size 0 [34] (by omega) (by simp; omega)
    cases hp : plains s 0 s.size with
    | true => rw [hp, if_pos rfl] at h1; rw [quote_good h4 hp]; exact h1
    | false => rw [hp, if_neg (by decide)] at h1; rw [quote_bad hp]; exact h1
theorem impl_quote (s : ByteArray) (hb : s.size ≤ 1048576) : Ev (fun k => impl_Quote.f k s) (quote s) := by
  unfold impl_Quote.f
  by_cases h4 : (s.size : Int) > 4000
  · rw [quote_long h4]; exact Ev.pos h4 (Ev.step (fun k => impl_Quote.j0.eq_2 _ _ k) (Ev.pos rfl (Ev.now _)))
  · refine Ev.neg h4 (Ev.bind (show Ev (fun k => impl_all.f k s) (plains s 0 s.size) from impl_all_l0 s hb s.size 0 (by omega)) (Ev.step (fun k => impl_Quote.j0.eq_2 _ _ k) ?_))
    cases hp : plains s 0 s.size with
    | true => rw [quote_good h4 hp]; exact Ev.neg (by simp) (impl_q_l0 s hb s.size 0 [34] (by omega) (by simp; omega))
    | false => rw [quote_bad hp]; exact Ev.pos rfl (Ev.now _)

theorem FnExactQuote : laws_FnExactQuote.Pure := by
  intro s hs
  apply Ev.rounds
  unfold laws_FnExactQuote.f
  by_cases h : (s.size : Int) > 1048576
  · exact Ev.pos h (Ev.now _)
  · exact Ev.neg h (Ev.bind (spec_quote s (by omega)) (Ev.bind (impl_quote s (by omega)) (Ev.pos rfl (Ev.neg (by simp) (Ev.now _)))))

end Go.Proofs.Ytcehnamlnbhhnaa.Pure
