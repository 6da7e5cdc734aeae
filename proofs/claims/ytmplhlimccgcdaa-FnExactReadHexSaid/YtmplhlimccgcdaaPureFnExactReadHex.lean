/- The law FnExactReadHex answers true for every text: both read the same. No condition. -/
import Derived.Test.YtmplhlimccgcdaaPFnExactReadHexx1
import Derived.Test.YtmplhlimccgcdaaBase
namespace Go.Proofs.Ytmplhlimccgcdaa.Pure
open Go.RowKit Go.Proofs.Ytmplhlimccgcdaa.PFnExactReadHex Go.Proofs.YtmplhlimccgcdaaW.PrintWords Go.Proofs.YtmplhlimccgcdaaW.PrintLast Go.Proofs.YtmplhlimccgcdaaW.PrintMore Go.Proofs.Ytmplhlimccgcdaa.Base
set_option linter.unusedVariables false
set_option linter.unusedSimpArgs false

/-! Hexadecimal digits -/
def hexv (x : Int) : Int := if 48 ≤ x ∧ x ≤ 57 then x - 48 else if 97 ≤ x ∧ x ≤ 102 then x - 87 else if 65 ≤ x ∧ x ≤ 70 then x - 55 else -1
def hexread : List Int → Int → Option Int
  | [], n => some n
  | x :: l, n => if hexv x < 0 then none else hexread l (16 * n + hexv x)
def resI (o : Option Int) : Int × Bool := match o with | none => (0, false) | some n => (n, true)
theorem hexv_lt (x : Int) : hexv x < 16 := by unfold hexv; split <;> (try split) <;> (try split) <;> omega
theorem pow16 (i : Nat) (h : i ≤ 6) : (16 : Int) ^ (i + 1) = 16 * 16 ^ i ∧ (16 : Int) ^ i ≤ 16777216 ∧ (0 : Int) < 16 ^ i := by
  have h1 : 16 ^ i ≤ 16777216 := Nat.pow_le_pow_right (n := 16) (by decide) h
  have h2 := Nat.pow_pos (n := i) (show 0 < 16 by decide)
  have e : (16 : Int) ^ i = ((16 ^ i : Nat) : Int) := (Int.natCast_pow 16 i).symm
  rw [Int.pow_succ, e]
  generalize 16 ^ i = p at *
  omega

theorem impl_hexOf_ev (x : Int) (h0 : 0 ≤ x) (h1 : x ≤ 255) : Ev (fun k => impl_hexOf.f k x) (hexv x) := by
  unfold impl_hexOf.f impl_isDigit.f hexv
  by_cases a : 48 ≤ x ∧ x ≤ 57
  · rw [if_pos a, if_pos (by omega), decide_eq_true a.2]
    refine Ev.told rfl (Ev.pos rfl ?_)
    rw [show (x - 48) % 256 = x - 48 by omega]; exact Ev.now _
  · rw [if_neg a]
    have hd : (if x ≥ 48 then some (decide (x ≤ 57)) else some false) = some false := by
      by_cases b : x ≥ 48
      · rw [if_pos b, decide_eq_false (by omega)]
      · rw [if_neg b]
    rw [hd]
    refine Ev.told rfl (Ev.neg (by simp) ?_)
    by_cases b : 97 ≤ x ∧ x ≤ 102
    · rw [if_pos b]
      refine Ev.pos (by omega) ?_
      rw [decide_eq_true b.2]
      refine Ev.step (fun k => impl_hexOf.j0.eq_2 _ _ k) (Ev.pos rfl ?_)
      rw [show (x - 97) % 256 + 10 = x - 87 by omega]; exact Ev.now _
    · rw [if_neg b]
      have hj : Ev (fun k => impl_hexOf.j0 k x false) (if 65 ≤ x ∧ x ≤ 70 then x - 55 else -1) := by
        refine Ev.step (fun k => impl_hexOf.j0.eq_2 _ _ k) (Ev.neg (by simp) ?_)
        by_cases c : 65 ≤ x ∧ x ≤ 70
        · rw [if_pos c]
          refine Ev.pos (by omega) (Ev.pos (by omega) ?_)
          rw [show (x - 65) % 256 + 10 = x - 55 by omega]; exact Ev.now _
        · rw [if_neg c]
          by_cases e : x ≥ 65
          · exact Ev.pos e (Ev.neg (by omega) (Ev.now _))
          · exact Ev.neg e (Ev.now _)
      by_cases e : x ≥ 97
      · refine Ev.pos e ?_
        rw [decide_eq_false (by omega)]; exact hj
      · exact Ev.neg e hj
theorem impl_hex_l0 (s : ByteArray) (hs : s.size ≤ 7) : ∀ (d i : Nat) (n : Int), i + d = s.size → 0 ≤ n → n < 16 ^ i →
    Ev (fun k => impl_ReadHex.l0 k s n (i : Int)) (resI (hexread ((bytesOf s).drop i) n)) := by
  intro d
  induction d with
  | zero =>
    intro i n h h0 h1
    refine Ev.step (fun k => impl_ReadHex.l0.eq_2 _ _ _ k) (Ev.neg (by omega) ?_)
    rw [List.drop_eq_nil_of_le (by rw [bytesOf_length]; omega)]
    exact Ev.now _
  | succ d ih =>
    intro i n h h0 h1
    obtain ⟨p1, p2, p3⟩ := pow16 i (by omega)
    have hbt := bt_range s (i : Int)
    have hw : wrap64 ((i : Int) + 1) = ((i + 1 : Nat) : Int) := by rw [w64 (by omega) (by omega)]; omega
    have hv := hexv_lt (bt s (i : Int))
    refine Ev.step (fun k => impl_ReadHex.l0.eq_2 _ _ _ k) (Ev.pos (by omega) (Ev.pos (by omega) (Ev.bind (impl_hexOf_ev _ hbt.1 hbt.2) ?_)))
    rw [drop_cons (by rw [bytesOf_length]; omega), ← bt_nat]
    simp only [hexread]
    by_cases hn : hexv (bt s (i : Int)) < 0
    · rw [if_pos hn]; exact Ev.pos hn (Ev.now _)
    · rw [if_neg hn]
      refine Ev.neg hn ?_
      rw [hw, w64 (n := 16 * n) (by omega) (by omega), w64 (by omega) (by omega)]
      exact ih (i + 1) _ (by omega) (by omega) (by omega)
theorem impl_readhex (s : ByteArray) (hb : s.size ≤ 140737488351232) : Ev (fun k => impl_ReadHex.f k s) (if 1 ≤ s.size ∧ s.size ≤ 7 then resI (hexread (bytesOf s) 0) else (0, false)) := by
  unfold impl_ReadHex.f impl_within.f
  by_cases h1 : 1 ≤ s.size
  · rw [if_pos (show (1 : Int) ≤ (s.size : Int) by omega)]
    by_cases h7 : s.size ≤ 7
    · rw [if_pos ⟨h1, h7⟩, decide_eq_true (by omega)]
      refine Ev.told rfl (Ev.pos rfl ?_)
      have := impl_hex_l0 s h7 s.size 0 0 (by omega) (by omega) (by decide)
      simpa using this
    · rw [if_neg (by omega), decide_eq_false (by omega)]
      exact Ev.told rfl (Ev.neg (by simp) (Ev.now _))
  · rw [if_neg (show ¬ (1 : Int) ≤ (s.size : Int) by omega), if_neg (by omega)]
    exact Ev.told rfl (Ev.neg (by simp) (Ev.now _))

theorem spec_hex_l0 (s : ByteArray) (hs : s.size ≤ 7) : ∀ (d i : Nat) (n : Int), i + d = s.size → 0 ≤ n → n < 16 ^ i →
    Ev (fun k => spec_ReadHex.l0 k s n (i : Int)) (resI (hexread ((bytesOf s).drop i) n)) := by
  intro d
  induction d with
  | zero =>
    intro i n h h0 h1
    refine Ev.step (fun k => spec_ReadHex.l0.eq_2 _ _ _ k) (Ev.neg (by omega) ?_)
    rw [List.drop_eq_nil_of_le (by rw [bytesOf_length]; omega)]
    exact Ev.now _
  | succ d ih =>
    intro i n h h0 h1
    obtain ⟨p1, p2, p3⟩ := pow16 i (by omega)
    have hbt := bt_range s (i : Int)
    have hw : wrap64 ((i : Int) + 1) = ((i + 1 : Nat) : Int) := by rw [w64 (by omega) (by omega)]; omega
    refine Ev.step (fun k => spec_ReadHex.l0.eq_2 _ _ _ k) (Ev.pos (by omega) (Ev.pos (by omega) ?_))
    rw [drop_cons (by rw [bytesOf_length]; omega), ← bt_nat]
    have hn16 : wrap64 (n * 16) = 16 * n := by rw [w64 (by omega) (by omega)]; omega
    have hg := fun (v : Int) (hv : hexv (bt s (i : Int)) = v) (h0v : 0 ≤ v) (h1v : v < 16) => ih (i + 1) (16 * n + v) (by omega) (by omega) (by omega)
    rw [hw, hn16]
    generalize bt s (i : Int) = x at *
    simp only [hexread]
    by_cases a : 65 ≤ x ∧ x ≤ 90
    · have hl : spec_l1lower.f x = some (x + 32) := by
        unfold spec_l1lower.f; rw [if_pos a.1, if_pos a.2, show (x + 32) % 256 = x + 32 by omega]
      refine Ev.told hl ?_
      have hd : spec_l1digit.f (x + 32) = some false := by
        unfold spec_l1digit.f; rw [if_pos (by omega), decide_eq_false (by omega)]
      refine Ev.told hd (Ev.neg (by simp) (Ev.pos (by omega) ?_))
      by_cases c : x ≤ 70
      · have hv : hexv x = x - 55 := by unfold hexv; rw [if_neg (by omega), if_neg (by omega), if_pos (by omega)]
        rw [if_neg (by omega)]
        refine Ev.pos (by omega) ?_
        have e : wrap64 (wrap64 (16 * n + (x + 32 - 97) % 256) + 10) = 16 * n + hexv x := by
          rw [w64 (n := 16 * n + _) (by omega) (by omega), w64 (by omega) (by omega)]; omega
        rw [e]
        exact hg _ rfl (by omega) (by omega)
      · have hv : hexv x = -1 := by unfold hexv; rw [if_neg (by omega), if_neg (by omega), if_neg (by omega)]
        rw [if_pos (by omega)]
        exact Ev.neg (by omega) (Ev.now _)
    · have hl : spec_l1lower.f x = some x := by
        unfold spec_l1lower.f
        by_cases b : x ≥ 65
        · rw [if_pos b, if_neg (by omega)]
        · rw [if_neg b]
      refine Ev.told hl ?_
      by_cases dg : 48 ≤ x ∧ x ≤ 57
      · have hd : spec_l1digit.f x = some true := by
          unfold spec_l1digit.f; rw [if_pos (by omega), decide_eq_true (by omega)]
        have hv : hexv x = x - 48 := by unfold hexv; rw [if_pos dg]
        rw [if_neg (by omega)]
        refine Ev.told hd (Ev.pos rfl ?_)
        have e : wrap64 (16 * n + (x - 48) % 256) = 16 * n + hexv x := by
          rw [w64 (by omega) (by omega)]; omega
        rw [e]
        exact hg _ rfl (by omega) (by omega)
      · have hd : spec_l1digit.f x = some false := by
          unfold spec_l1digit.f
          by_cases b : x ≥ 48
          · rw [if_pos b, decide_eq_false (by omega)]
          · rw [if_neg b]
        refine Ev.told hd (Ev.neg (by simp) ?_)
        by_cases b : x ≥ 97
        · refine Ev.pos b ?_
          by_cases c : x ≤ 102
          · have hv : hexv x = x - 87 := by unfold hexv; rw [if_neg dg, if_pos (by omega)]
            rw [if_neg (by omega)]
            refine Ev.pos c ?_
            have e : wrap64 (wrap64 (16 * n + (x - 97) % 256) + 10) = 16 * n + hexv x := by
              rw [w64 (n := 16 * n + _) (by omega) (by omega), w64 (by omega) (by omega)]; omega
            rw [e]
            exact hg _ rfl (by omega) (by omega)
          · have hv : hexv x = -1 := by unfold hexv; rw [if_neg dg, if_neg (by omega), if_neg (by omega)]
            rw [if_pos (by omega)]
            exact Ev.neg c (Ev.now _)
        · have hv : hexv x = -1 := by unfold hexv; rw [if_neg dg, if_neg (by omega), if_neg (by omega)]
          rw [if_pos (by omega)]
          exact Ev.neg b (Ev.now _)
theorem spec_readhex (s : ByteArray) (hb : s.size ≤ 140737488351232) : Ev (fun k => spec_ReadHex.f k s) (if 1 ≤ s.size ∧ s.size ≤ 7 then resI (hexread (bytesOf s) 0) else (0, false)) := by
  unfold spec_ReadHex.f
  by_cases h1 : (s.size : Int) = 0
  · rw [if_neg (by omega)]
    exact Ev.pos h1 (Ev.step (fun k => spec_ReadHex.j0.eq_2 _ _ k) (Ev.pos rfl (Ev.now _)))
  · refine Ev.neg h1 ?_
    by_cases h7 : s.size ≤ 7
    · rw [if_pos ⟨by omega, h7⟩, decide_eq_false (by omega)]
      refine Ev.step (fun k => spec_ReadHex.j0.eq_2 _ _ k) (Ev.neg (by simp) ?_)
      have := spec_hex_l0 s h7 s.size 0 0 (by omega) (by omega) (by decide)
      simpa using this
    · rw [if_neg (by omega), decide_eq_true (by omega)]
      exact Ev.step (fun k => spec_ReadHex.j0.eq_2 _ _ k) (Ev.pos rfl (Ev.now _))

theorem FnExactReadHex : laws_FnExactReadHex.Pure := by
  intro s hs
  apply Ev.rounds
  unfold laws_FnExactReadHex.f
  by_cases h : (s.size : Int) > 1048576
  · exact Ev.pos h (Ev.now _)
  · exact Ev.neg h (Ev.bind (spec_readhex s hs) (Ev.bind (impl_readhex s hs) (Ev.pos rfl (Ev.neg (by simp) (Ev.now _)))))

end Go.Proofs.Ytmplhlimccgcdaa.Pure
