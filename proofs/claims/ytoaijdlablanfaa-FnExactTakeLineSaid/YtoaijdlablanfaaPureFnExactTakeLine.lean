/- The law FnExactTakeLine answers true for every cursor: both take the same line. No condition. -/
import Derived.Test.YtoaijdlablanfaaQFnExactTakeLinex2
import Derived.Test.YtoaijdlablanfaaBase
namespace Go.Proofs.Ytoaijdlablanfaa.Pure
open Go.RowKit Go.Proofs.Ytoaijdlablanfaa.PFnExactTakeLine Go.Proofs.YtoaijdlablanfaaW.PrintWords Go.Proofs.YtoaijdlablanfaaW.PrintLast Go.Proofs.YtoaijdlablanfaaW.PrintMore Go.Proofs.Ytoaijdlablanfaa.Base
set_option linter.unusedVariables false
set_option linter.unusedSimpArgs false

open Foreign (anyL)
def scan : List Int → Nat → Int × Nat
  | [], _ => (1, 0)
  | x :: r, n => if x = 10 then (2, 0) else if x = 13 then (if r = [] then (1, 0) else if r.getD 0 0 = 10 then (0, n) else (2, 0)) else scan r (n + 1)
def res (T : ByteArray) (a : Nat) (p : Int × Nat) : ByteArray × ByteArray × Int × Int :=
  if p.1 = 0 then (T.extract a (a + p.2), T, ((a + p.2 + 2 : Nat) : Int), 0) else (⟨#[]⟩, ⟨#[]⟩, 0, p.1)
theorem getD_succ (x : Int) (r : List Int) (k : Nat) : (x :: r).getD (k + 1) 0 = r.getD k 0 := by simp [List.getD]
theorem any_cases : ∀ l : List Int, (anyL l = -1 ∧ ∀ n, scan l n = (1, 0)) ∨ ∃ k : Nat, k < l.length ∧ anyL l = (k : Int) ∧ ((l.getD k 0 = 10 ∧ ∀ n, scan l n = (2, 0)) ∨ (l.getD k 0 = 13 ∧ ((k + 1 = l.length ∧ ∀ n, scan l n = (1, 0)) ∨ (k + 1 < l.length ∧ l.getD (k + 1) 0 = 10 ∧ ∀ n, scan l n = (0, n + k)) ∨ (k + 1 < l.length ∧ l.getD (k + 1) 0 ≠ 10 ∧ ∀ n, scan l n = (2, 0)))))
  | [] => Or.inl ⟨rfl, fun _ => rfl⟩
  | x :: r => by
    by_cases h10 : x = 10
    · refine Or.inr ⟨0, by simp, ?_, Or.inl ⟨by simp [h10], ?_⟩⟩
      · rw [anyL, if_pos (Or.inr h10)]; rfl
      · intro n; rw [scan, if_pos h10]
    · by_cases h13 : x = 13
      · refine Or.inr ⟨0, by simp, ?_, Or.inr ⟨by simp [h13], ?_⟩⟩
        · rw [anyL, if_pos (Or.inl h13)]; rfl
        · by_cases hr : r = []
          · exact Or.inl ⟨by simp [hr], fun n => by rw [scan, if_neg h10, if_pos h13, if_pos hr]⟩
          · have hl : 0 < r.length := List.length_pos_iff.mpr hr
            by_cases hy : r.getD 0 0 = 10
            · exact Or.inr (Or.inl ⟨by simp; omega, by rw [getD_succ]; exact hy, fun n => by rw [scan, if_neg h10, if_pos h13, if_neg hr, if_pos hy]; rfl⟩)
            · exact Or.inr (Or.inr ⟨by simp; omega, by rw [getD_succ]; exact hy, fun n => by rw [scan, if_neg h10, if_pos h13, if_neg hr, if_neg hy]⟩)
      · have hs : ∀ n, scan (x :: r) n = scan r (n + 1) := fun n => by rw [scan, if_neg h10, if_neg h13]
        have ha : anyL (x :: r) = if anyL r = -1 then -1 else anyL r + 1 := by rw [anyL, if_neg (by omega)]
        rcases any_cases r with ⟨h1, h2⟩ | ⟨k, hk, h1, h2⟩
        · exact Or.inl ⟨by rw [ha, if_pos h1], fun n => by rw [hs, h2]⟩
        · refine Or.inr ⟨k + 1, by simp; omega, by rw [ha, h1, if_neg (by omega)]; omega, ?_⟩
          rw [getD_succ, getD_succ]
          rcases h2 with ⟨g1, g2⟩ | ⟨g1, g2⟩
          · exact Or.inl ⟨g1, fun n => by rw [hs, g2]⟩
          · refine Or.inr ⟨g1, ?_⟩
            rcases g2 with ⟨g3, g4⟩ | ⟨g3, g4, g5⟩ | ⟨g3, g4, g5⟩
            · exact Or.inl ⟨by simp; omega, fun n => by rw [hs, g4]⟩
            · exact Or.inr (Or.inl ⟨by simp; omega, g4, fun n => by rw [hs, g5]; congr 1; omega⟩)
            · exact Or.inr (Or.inr ⟨by simp; omega, g4, fun n => by rw [hs, g5]⟩)
theorem spec_line_l0 (T : ByteArray) (hT : T.size ≤ 1048576) (a : Nat) (ha : a ≤ T.size) : ∀ (d j : Nat), a + j + d = T.size → Ev (fun k => spec_TakeLine.l0 k ((a + j : Nat) : Int) T (a : Int)) (res T a (scan ((bytesOf T).drop (a + j)) j))
  | 0, j, h => by
    rw [List.drop_eq_nil_of_le (by rw [bytesOf_length]; omega)]
    exact Ev.step (fun k => spec_TakeLine.l0.eq_2 _ _ _ k) (Ev.neg (by omega) (Ev.now _))
  | d + 1, j, h => by
    have hil : a + j < (bytesOf T).length := by rw [bytesOf_length]; omega
    have w1 : wrap64 (((a + j : Nat) : Int) + 1) = ((a + (j + 1) : Nat) : Int) := by rw [w64 (by omega) (by omega)]; omega
    have w2 : wrap64 (((a + j : Nat) : Int) + 2) = ((a + j + 2 : Nat) : Int) := by rw [w64 (by omega) (by omega)]; omega
    have g0 : ((a + j : Nat) : Int) < (T.size : Int) := by omega
    have hb : bt T ((a + j : Nat) : Int) = (bytesOf T).getD (a + j) 0 := bt_nat _ _
    have ih := spec_line_l0 T hT a ha d (j + 1) (by omega)
    refine Ev.step (fun k => spec_TakeLine.l0.eq_2 _ _ _ k) (Ev.pos g0 (Ev.pos (Int.natCast_nonneg _) ?_))
    rw [hb, drop_cons hil, scan, w1, w2]
    by_cases h10 : (bytesOf T).getD (a + j) 0 = 10
    · rw [if_pos h10]; exact Ev.pos h10 (Ev.now _)
    · rw [if_neg h10]
      refine Ev.neg h10 ?_
      by_cases h13 : (bytesOf T).getD (a + j) 0 = 13
      · rw [if_pos h13]
        refine Ev.pos h13 ?_
        by_cases he : a + j + 1 = T.size
        · rw [if_pos (List.drop_eq_nil_of_le (by rw [bytesOf_length]; omega))]
          exact Ev.pos (by omega) (Ev.now _)
        · have hil1 : a + j + 1 < (bytesOf T).length := by rw [bytesOf_length]; omega
          have g1 : ((a + (j + 1) : Nat) : Int) < (T.size : Int) := by omega
          rw [drop_cons hil1, if_neg (List.cons_ne_nil ((bytesOf T).getD (a + j + 1) 0) ((bytesOf T).drop (a + j + 1 + 1)))]
          have hb1 : bt T ((a + (j + 1) : Nat) : Int) = (bytesOf T).getD (a + j + 1) 0 := bt_nat _ _
          rw [hb1]
          refine Ev.neg (by omega) (Ev.pos (Int.natCast_nonneg _) (Ev.pos g1 ?_))
          have e0 : ((bytesOf T).getD (a + j + 1) 0 :: (bytesOf T).drop (a + j + 1 + 1)).getD 0 0 = (bytesOf T).getD (a + j + 1) 0 := rfl
          rw [e0]
          by_cases hy : (bytesOf T).getD (a + j + 1) 0 = 10
          · refine Ev.pos hy ?_
            rw [if_pos hy]
            exact Ev.pos (Int.natCast_nonneg _) (Ev.pos (by omega) (Ev.pos (by omega) (Ev.now _)))
          · refine Ev.neg hy ?_
            rw [if_neg hy]; exact Ev.now _
      · rw [if_neg h13]
        exact Ev.neg h13 ih
theorem w64_less {n : Nat} (h : n ≤ 1048576) : wrap64 ((n : Int) - 1) = (n : Int) - 1 := w64 (by omega) (by omega)
theorem impl_line (T : ByteArray) (hT : T.size ≤ 1048576) (a : Nat) (ha : a ≤ T.size) : Ev (fun k => impl_TakeLine.f k T (a : Int)) (res T a (scan ((bytesOf T).drop a) 0)) := by
  obtain ⟨E, hE⟩ : ∃ E, T.extract a T.size = E := ⟨_, rfl⟩
  have eb : bytesOf E = (bytesOf T).drop a := by rw [← hE, bytes_to_end]
  have ez : E.size = T.size - a := by rw [← bytesOf_length, eb, List.length_drop, bytesOf_length]
  have el : (bytesOf E).length = E.size := bytesOf_length E
  have hEz : E.size ≤ 1048576 := by rw [ez]; exact Nat.le_trans (Nat.sub_le _ _) hT
  have hany : Foreign.strings_IndexAny.f E (⟨#[13, 10]⟩ : ByteArray) = some (anyL (bytesOf E)) := by
    have hz : E.size ≤ 4000000000 := by omega
    unfold Foreign.strings_IndexAny.f
    exact if_pos ⟨rfl, hz⟩
  have hok : impl_CurOk.f T (a : Int) = some true := by
    unfold impl_CurOk.f impl_within.f
    rw [if_pos (Int.natCast_nonneg _), Option.bind_some, decide_eq_true (by omega)]
  have haI : (a : Int) ≤ (T.size : Int) := by omega
  unfold impl_TakeLine.f
  refine Ev.told hok (Ev.pos rfl (Ev.pos (Int.natCast_nonneg _) (Ev.pos haI ?_)))
  rw [show ((a : Int)).toNat = a from rfl, hE, ← eb]
  refine Ev.told hany ?_
  rcases any_cases (bytesOf E) with ⟨h1, h2⟩ | ⟨k, hk, h1, h2⟩
  · rw [h1, h2]
    exact Ev.pos (by decide) (Ev.step (fun k => impl_TakeLine.j0.eq_2 _ _ _ _ _ k) (Ev.pos rfl (Ev.now _)))
  · rw [h1]
    have g0 : ¬ (k : Int) < 0 := by omega
    have g1 : (k : Int) < (E.size : Int) := by omega
    have hb : bt E (k : Int) = (bytesOf E).getD k 0 := bt_nat _ _
    have w1 : wrap64 ((k : Int) + 1) = ((k + 1 : Nat) : Int) := by rw [w64 (by omega) (by omega)]; omega
    have w2 : wrap64 ((wrap64 ((a : Int) + (k : Int))) + 2) = ((a + k + 2 : Nat) : Int) := by
      rw [w64 (n := (a : Int) + (k : Int)) (by omega) (by omega), w64 (by omega) (by omega)]; omega
    have w3 : wrap64 ((E.size : Int) - 1) = (E.size : Int) - 1 := w64_less hEz
    refine Ev.neg g0 (Ev.pos (Int.natCast_nonneg _) (Ev.pos g1 ?_))
    rw [hb]
    rcases h2 with ⟨g2, g3⟩ | ⟨g2, g3⟩
    · rw [g3]
      refine Ev.neg (by rw [g2]; decide) (Ev.step (fun k => impl_TakeLine.j0.eq_2 _ _ _ _ _ k) (Ev.neg (by simp) (Ev.pos (Int.natCast_nonneg _) (Ev.pos g1 ?_))))
      rw [hb]
      exact Ev.neg (by rw [g2]; decide) (Ev.now _)
    · refine Ev.pos g2 ?_
      rw [w3]
      rcases g3 with ⟨g4, g5⟩ | ⟨g4, g5, g6⟩ | ⟨g4, g5, g6⟩
      · rw [g5, show ((k : Int) == (E.size : Int) - 1) = true from beq_iff_eq.mpr (by omega)]
        exact Ev.step (fun k => impl_TakeLine.j0.eq_2 _ _ _ _ _ k) (Ev.pos rfl (Ev.now _))
      · have hb1 : bt E ((k + 1 : Nat) : Int) = (bytesOf E).getD (k + 1) 0 := bt_nat _ _
        have hx : E.extract 0 k = T.extract a (a + k) := by
          apply bytes_inj
          rw [bytes_head, bytes_extract, eb, show a + k - a = k by omega]
        rw [g6, show ((k : Int) == (E.size : Int) - 1) = false from beq_eq_false_iff_ne.mpr (by omega)]
        refine Ev.step (fun k => impl_TakeLine.j0.eq_2 _ _ _ _ _ k) (Ev.neg (by simp) (Ev.pos (Int.natCast_nonneg _) (Ev.pos g1 ?_)))
        rw [hb, w1, w2, hb1, show ((k : Int)).toNat = k from rfl, hx]
        refine Ev.pos g2 (Ev.pos (Int.natCast_nonneg _) (Ev.pos (by omega) (Ev.pos g5 (Ev.pos (by omega) ?_))))
        rw [Nat.zero_add]
        exact Ev.now _
      · have hb1 : bt E ((k + 1 : Nat) : Int) = (bytesOf E).getD (k + 1) 0 := bt_nat _ _
        rw [g6, show ((k : Int) == (E.size : Int) - 1) = false from beq_eq_false_iff_ne.mpr (by omega)]
        refine Ev.step (fun k => impl_TakeLine.j0.eq_2 _ _ _ _ _ k) (Ev.neg (by simp) (Ev.pos (Int.natCast_nonneg _) (Ev.pos g1 ?_)))
        rw [hb, w1, hb1]
        exact Ev.pos g2 (Ev.pos (Int.natCast_nonneg _) (Ev.pos (by omega) (Ev.neg g5 (Ev.now _))))
theorem FnExactTakeLine (a0_0 : ByteArray) (a0_1 : Int) (w0_0 : a0_0.size ≤ maxLen) (w0_1 : (Lit.int .i64 a0_1).wf = true) : ∃ k, laws_FnExactTakeLine.f k a0_0 a0_1 = some true := by
  unfold maxLen at w0_0
  apply Ev.rounds
  have hw : wrap64 (1048576 - (a0_0.size : Int)) = 1048576 - (a0_0.size : Int) := w64 (by omega) (by omega)
  have hs : laws_szCur.f a0_0 a0_1 1048576 = some (if 1048576 - (a0_0.size : Int) < 0 then -1 else 1048576 - (a0_0.size : Int)) := by
    unfold laws_szCur.f
    rw [hw]
    split <;> rfl
  have ht : laws_toCur.f a0_0 a0_1 = some (a0_0, a0_1) := rfl
  unfold laws_FnExactTakeLine.f
  refine Ev.told hs ?_
  by_cases h : 1048576 - (a0_0.size : Int) < 0
  · rw [if_pos h]; exact Ev.pos (by decide) (Ev.now _)
  · rw [if_neg h]
    refine Ev.neg h (Ev.told ht ?_)
    have last : ∀ r : ByteArray × ByteArray × Int × Int, Ev (fun k => spec_TakeLine.f k a0_0 a0_1) r → Ev (fun k => impl_TakeLine.f k a0_0 a0_1) r → Ev (fun k => (spec_TakeLine.f k a0_0 a0_1).bind fun bt121 => ((laws_toCur.f a0_0 a0_1).bind fun bt126 => ((impl_TakeLine.f k bt126.1 bt126.2).bind fun bt128 => (if bt128.1.toList = bt121.1.toList then ((laws_eqCur.f bt128.2.1 bt128.2.2.1 bt121.2.1 bt121.2.2.1).bind fun t133 => (if t133 = true then (if bt128.2.2.2 = bt121.2.2.2 then (some true) else (some false)) else (some false))) else (some false))))) true := by
      intro r h1 h2
      refine Ev.bind h1 (Ev.told ht (Ev.bind h2 (Ev.pos rfl (Ev.told (b := true) ?_ (Ev.pos rfl (Ev.pos rfl (Ev.now _)))))))
      unfold laws_eqCur.f
      rw [if_pos rfl, if_pos rfl]
    by_cases hc : 0 ≤ a0_1 ∧ a0_1 ≤ (a0_0.size : Int)
    · obtain ⟨a, rfl⟩ := Int.eq_ofNat_of_zero_le hc.1
      have ha : a ≤ a0_0.size := by omega
      refine last _ ?_ (impl_line a0_0 (by omega) a ha)
      have hok : spec_CurOk.f a0_0 (a : Int) = some true := by
        unfold spec_CurOk.f
        rw [if_pos (Int.natCast_nonneg _), decide_eq_true (by omega)]
      unfold spec_TakeLine.f
      exact Ev.told hok (Ev.pos rfl (spec_line_l0 a0_0 (by omega) a ha (a0_0.size - a) 0 (by omega)))
    · refine last ((⟨#[]⟩ : ByteArray), (⟨#[]⟩ : ByteArray), 0, 2) ?_ ?_
      · have hok : spec_CurOk.f a0_0 a0_1 = some false := by
          unfold spec_CurOk.f
          by_cases c : a0_1 ≥ 0
          · rw [if_pos c, decide_eq_false (by omega)]
          · rw [if_neg c]
        unfold spec_TakeLine.f
        exact Ev.told hok (Ev.neg (by simp) (Ev.now _))
      · have hok : impl_CurOk.f a0_0 a0_1 = some false := by
          unfold impl_CurOk.f impl_within.f
          by_cases c : 0 ≤ a0_1
          · rw [if_pos c, Option.bind_some, decide_eq_false (by omega)]
          · rw [if_neg c, Option.bind_some]
        unfold impl_TakeLine.f
        exact Ev.told hok (Ev.neg (by simp) (Ev.now _))

end Go.Proofs.Ytoaijdlablanfaa.Pure
