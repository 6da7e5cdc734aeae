/- The law FnExactToken answers true for every text: both ask the same of its length and of each of its bytes. No condition. -/
import Derived.Test.YtmplhlimccgcdaaQFnExactTokenx2
import Derived.Test.YtmplhlimccgcdaaBase
namespace Go.Proofs.Ytmplhlimccgcdaa.Pure
open Go.RowKit Go.Proofs.Ytmplhlimccgcdaa.PFnExactToken Go.Proofs.YtmplhlimccgcdaaW.PrintWords Go.Proofs.YtmplhlimccgcdaaW.PrintLast Go.Proofs.YtmplhlimccgcdaaW.PrintMore Go.Proofs.Ytmplhlimccgcdaa.Base
set_option linter.unusedVariables false
set_option linter.unusedSimpArgs false

/-! Signs of a token: both say the same of each byte -/
def tok (b : Int) : Bool := (impl_isTokenByte.f b).getD false
theorem impl_tok_all : ∀ n : Fin 256, impl_isTokenByte.f ((n : Nat) : Int) = some (tok ((n : Nat) : Int)) := by decide +kernel
theorem spec_tok_all : ∀ n : Fin 256, spec_l1tchar.f 20 ((n : Nat) : Int) = some (tok ((n : Nat) : Int)) := by decide +kernel
theorem impl_tok {b : Int} (h0 : 0 ≤ b) (h1 : b < 256) : impl_isTokenByte.f b = some (tok b) := by
  have := impl_tok_all ⟨b.toNat, by omega⟩
  simpa only [Int.toNat_of_nonneg h0] using this
theorem spec_tok {b : Int} (h0 : 0 ≤ b) (h1 : b < 256) : Ev (fun k => spec_l1tchar.f k b) (tok b) := by
  have := spec_tok_all ⟨b.toNat, by omega⟩
  refine Ev.of (fun k => spec_l1tchar.mono b k) (k := 20) ?_
  simpa only [Int.toNat_of_nonneg h0] using this
def toksFrom (s : ByteArray) (i d : Nat) : Bool := (List.range' i d).all fun j => tok (bt s (j : Int))
theorem toksFrom_succ (s : ByteArray) (i d : Nat) : toksFrom s i (d + 1) = (tok (bt s (i : Int)) && toksFrom s (i + 1) d) := by simp [toksFrom, List.range'_succ]
theorem spec_tok_l0 (s : ByteArray) (hb : s.size ≤ 1048576) : ∀ (d i : Nat), i + d = s.size → Ev (fun k => spec_Token.l0 k s (i : Int)) (toksFrom s i d) := by
  intro d
  induction d with
  | zero => intro i h; exact Ev.step (fun k => spec_Token.l0.eq_2 _ _ k) (Ev.neg (by omega) (Ev.now _))
  | succ d ih =>
    intro i h
    have hr := bt_range s (i : Int)
    have hw : wrap64 ((i : Int) + 1) = ((i + 1 : Nat) : Int) := by rw [w64 (by omega) (by omega)]; omega
    have h1 := ih (i + 1) (by omega)
    refine Ev.step (fun k => spec_Token.l0.eq_2 _ _ k) (Ev.pos (by omega) (Ev.pos (by omega) (Ev.bind (spec_tok hr.1 (by omega)) ?_)))
    rw [hw, toksFrom_succ]
    cases ht : tok (bt s (i : Int)) with
    | true => exact Ev.pos rfl (by simpa using h1)
    | false => exact Ev.neg (by simp) (Ev.now _)
theorem impl_tok_l0 (s : ByteArray) (hb : s.size ≤ 1048576) : ∀ (d i : Nat), i + d = s.size → Ev (fun k => impl_all.l0 k s (i : Int)) (toksFrom s i d) := by
  intro d
  induction d with
  | zero => intro i h; exact Ev.step (fun k => impl_all.l0.eq_2 _ _ k) (Ev.neg (by omega) (Ev.now _))
  | succ d ih =>
    intro i h
    have hr := bt_range s (i : Int)
    have hw : wrap64 ((i : Int) + 1) = ((i + 1 : Nat) : Int) := by rw [w64 (by omega) (by omega)]; omega
    have h1 := ih (i + 1) (by omega)
    refine Ev.step (fun k => impl_all.l0.eq_2 _ _ k) (Ev.pos (by omega) (Ev.pos (by omega) (Ev.told (impl_tok hr.1 (by omega)) ?_)))
    rw [hw, toksFrom_succ]
    cases ht : tok (bt s (i : Int)) with
    | true => exact Ev.pos rfl (by simpa using h1)
    | false => exact Ev.neg (by simp) (Ev.now _)
def token (s : ByteArray) : Bool := decide (1 ≤ s.size ∧ s.size ≤ 4000) && toksFrom s 0 s.size
theorem spec_token (s : ByteArray) (hb : s.size ≤ 1048576) : Ev (fun k => spec_Token.f k s) (token s) := by
  unfold spec_Token.f token
  by_cases h0 : (s.size : Int) = 0
  · refine Ev.pos h0 (Ev.step (fun k => spec_Token.j0.eq_2 _ _ k) (Ev.pos rfl ?_))
    rw [decide_eq_false (by omega), Bool.false_and]; exact Ev.now _
  · refine Ev.neg h0 (Ev.step (fun k => spec_Token.j0.eq_2 _ _ k) ?_)
    by_cases h4 : (s.size : Int) > 4000
    · refine Ev.pos (decide_eq_true h4) ?_
      rw [decide_eq_false (by omega), Bool.false_and]; exact Ev.now _
    · refine Ev.neg (by simpa using h4) ?_
      rw [decide_eq_true (by omega), Bool.true_and]; exact spec_tok_l0 s hb s.size 0 (by omega)
theorem impl_token (s : ByteArray) (hb : s.size ≤ 1048576) : Ev (fun k => impl_Token.f k s) (token s) := by
  unfold impl_Token.f token impl_within.f
  by_cases h1 : 1 ≤ (s.size : Int)
  · rw [if_pos h1]
    by_cases h4 : (s.size : Int) ≤ 4000
    · rw [decide_eq_true h4, decide_eq_true (show 1 ≤ s.size ∧ s.size ≤ 4000 by omega), Bool.true_and]
      exact Ev.told rfl (Ev.pos rfl (Ev.bind (show Ev (fun k => impl_all.f k s) _ from impl_tok_l0 s hb s.size 0 (by omega)) (Ev.now _)))
    · rw [decide_eq_false h4, decide_eq_false (show ¬ (1 ≤ s.size ∧ s.size ≤ 4000) by omega), Bool.false_and]
      exact Ev.told rfl (Ev.neg (by simp) (Ev.now _))
  · rw [if_neg h1, decide_eq_false (show ¬ (1 ≤ s.size ∧ s.size ≤ 4000) by omega), Bool.false_and]
    exact Ev.told rfl (Ev.neg (by simp) (Ev.now _))

theorem FnExactToken : laws_FnExactToken.Pure := by
  intro s hs
  apply Ev.rounds
  unfold laws_FnExactToken.f
  by_cases h : (s.size : Int) > 1048576
  · exact Ev.pos h (Ev.now _)
  · exact Ev.neg h (Ev.bind (spec_token s (by omega)) (Ev.bind (impl_token s (by omega)) (Ev.neg (by simp) (Ev.now _))))

end Go.Proofs.Ytmplhlimccgcdaa.Pure
