/- The law FnExactWarcDate answers true for every whole number: both dates are the same. No condition. -/
import Derived.Test.YtgjbhdfncappdaaDoorQFnExactWarcDatex2
import Derived.Test.YtgjbhdfncappdaaDoorBase
namespace Go.Proofs.YtgjbhdfncappdaaDoor.Pure
open Go.RowKit Go.Proofs.YtgjbhdfncappdaaDoor.PFnExactWarcDate Go.Proofs.YtgjbhdfncappdaaDoorW.PrintWords Go.Proofs.YtgjbhdfncappdaaDoorW.PrintLast Go.Proofs.YtgjbhdfncappdaaDoorW.PrintMore Go.Proofs.YtgjbhdfncappdaaDoor.Base
set_option linter.unusedVariables false
set_option linter.unusedSimpArgs false

/-! Numbers in decimal: the reference's DecText, and with so many digits -/
open Go.Proofs.YtgjbhdfncappdaaDoor.Dates Go.Proofs.YtgjbhdfncappdaaDoor.Pads Go.Proofs.YtgjbhdfncappdaaDoor.Formats Go.Proofs.YtgjbhdfncappdaaDoor.Finds Go.Proofs.YtgjbhdfncappdaaDoor.Places Go.Proofs.YtgjbhdfncappdaaDoor.Reads Go.Proofs.YtgjbhdfncappdaaDoor.Https Go.Proofs.YtgjbhdfncappdaaDoor.Foreign
theorem decL_len : ∀ (f : Nat) (n : Int), (decL f n).length ≤ f + 1
  | 0, _ => by simp [decL]
  | f + 1, n => by
    simp only [decL]; split
    · simp
    · have := decL_len f (n / 10); simp; omega
theorem spec_dec : ∀ (f : Nat) (n : Int), 0 ≤ n → n ≤ 999999999999999 → n < 10 ^ (f + 1) → f ≤ 20 → Ev (fun k => spec_DecText.f k n) (strOfNums (decL f n))
  | f, n, h0, h1, hf, hq => by
    refine Ev.step (fun k => spec_DecText.f.eq_2 n k) (Ev.neg (by omega) ?_)
    rw [show decide (n > 999999999999999) = false from decide_eq_false (by omega)]
    refine Ev.step (fun k => spec_DecText.j0.eq_2 n false k) (Ev.neg (by simp) ?_)
    by_cases c : n < 10
    · refine Ev.pos c ?_
      rw [w64 (by omega) (by omega), show (48 + n) % 256 = 48 + n by omega]
      have e : decL f n = [48 + n] := by
        cases f with
        | zero => simp only [decL]; congr 1; omega
        | succ f => simp only [decL]; rw [if_pos c]
      rw [e]; exact Ev.now _
    · refine Ev.neg c ?_
      match f, hf, hq with
      | 0, hf, _ => have hf : n < 10 := by simpa using hf
                    exact absurd hf c
      | f + 1, hf, hq =>
        have h2 : n / 10 < 10 ^ (f + 1) := by
          have : (10 : Int) ^ (f + 1 + 1) = 10 ^ (f + 1) * 10 := Int.pow_succ ..
          omega
        have ih := spec_dec f (n / 10) (by omega) (by omega) h2 (by omega)
        have e1 : wrap64 (Int.tdiv n 10) = n / 10 := by rw [Int.tdiv_eq_ediv_of_nonneg h0, w64 (by omega) (by omega)]
        have e2 : (wrap64 (48 + Int.tmod n 10)) % 256 = 48 + n % 10 := by rw [Int.tmod_eq_emod_of_nonneg h0, w64 (by omega) (by omega)]; omega
        rw [e1, e2]
        refine Ev.bind ih (Ev.told rfl (Ev.pos ?_ ?_))
        · have := decL_len f (n / 10); rw [size_strOf, size_strOf]; simp; omega
        · rw [strOf_append, show decL f (n / 10) ++ [48 + n % 10] = decL (f + 1) n by simp only [decL]; rw [if_neg c]]; exact Ev.now _
theorem spec_pad_l0 (k : Nat) (hk : k ≤ 100) : ∀ (d : Nat) (l : List Int), l.length + d = k → Ev (fun r => spec_l2pad.l0 r (k : Int) (strOfNums l)) (strOfNums (zeros d ++ l))
  | 0, l, h => by
    refine Ev.step (fun r => spec_l2pad.l0.eq_2 _ _ r) (Ev.neg (by rw [size_strOf]; omega) ?_)
    exact Ev.now _
  | d + 1, l, h => by
    refine Ev.step (fun r => spec_l2pad.l0.eq_2 _ _ r) (Ev.pos (by rw [size_strOf]; omega) (Ev.pos (by rw [size_strOf]; omega) ?_))
    rw [show (⟨#[48]⟩ : ByteArray) = strOfNums [48] from rfl, strOf_append]
    have ih := spec_pad_l0 k hk d ([48] ++ l) (by simp; omega)
    rw [show zeros (d + 1) ++ l = zeros d ++ ([48] ++ l) by simp [zeros, List.replicate_succ']]
    exact ih
theorem spec_pad (n : Int) (k : Nat) (h1 : 1 ≤ k) (hk : k ≤ 15) (h0 : 0 ≤ n) (hn : n < 10 ^ k) : Ev (fun r => spec_l2pad.f r n (k : Int)) (strOfNums (padL k n)) := by
  have hm : n ≤ 999999999999999 := by
    have : (10 : Int) ^ k ≤ 10 ^ 15 := by
      have := Nat.pow_le_pow_right (show 0 < 10 by decide) hk
      exact_mod_cast this
    have e : (10 : Int) ^ 15 = 1000000000000000 := by decide
    omega
  have p := pad_dec k 15 n h1 (by omega) h0 hn
  unfold spec_l2pad.f
  refine Ev.bind (spec_dec 15 n h0 hm (by have e : (10 : Int) ^ (15 + 1) = 10000000000000000 := by decide
                                          omega) (by decide)) ?_
  have := spec_pad_l0 k (by omega) (k - (decL 15 n).length) (decL 15 n) (by omega)
  rw [p.2] at this; exact this
theorem pad4 (n : Int) (h0 : 0 ≤ n) (hn : n ≤ 9999) : Ev (fun r => spec_l2pad.f r n 4) (strOfNums (padL 4 n)) := spec_pad n 4 (by decide) (by decide) h0 (by show _ < (10000 : Int); omega)
theorem pad2 (n : Int) (h0 : 0 ≤ n) (hn : n ≤ 99) : Ev (fun r => spec_l2pad.f r n 2) (strOfNums (padL 2 n)) := spec_pad n 2 (by decide) (by decide) h0 (by show _ < (100 : Int); omega)
theorem civ_yes {t : Int} (h : isT t) : spec_CivilOf.f t = some (yr t, mo t, da t, ho t, mi t, se t, true) := by unfold spec_CivilOf.f civM; rw [if_pos h]
theorem civ_no {t : Int} (h : ¬ isT t) : spec_CivilOf.f t = some (0, 0, 0, 0, 0, 0, false) := by unfold spec_CivilOf.f civM; rw [if_neg h]

/-! The reference's time of day -/
theorem spec_clock {t : Int} (h : isT t) (a b c : Int) : Ev (fun k => spec_l2clock.f k a b c (ho t) (mi t) (se t)) (strOfNums (clockL t)) := by
  obtain ⟨q1, q2, q3, q4, q5, q6⟩ := parts h
  unfold spec_l2clock.f
  rw [show (⟨#[58]⟩ : ByteArray) = strOfNums [58] from rfl]
  refine Ev.bind (pad2 (ho t) (by omega) (by omega)) (Ev.pos ?_ (Ev.bind (pad2 (mi t) (by omega) (by omega)) (Ev.pos ?_ (Ev.pos ?_ (Ev.bind (pad2 (se t) (by omega) (by omega)) (Ev.pos ?_ ?_))))))
  · simp only [strOf_append, size_strOf, padL_length, List.length_append, List.length_cons, List.length_nil]; omega
  · simp only [strOf_append, size_strOf, padL_length, List.length_append, List.length_cons, List.length_nil]; omega
  · simp only [strOf_append, size_strOf, padL_length, List.length_append, List.length_cons, List.length_nil]; omega
  · simp only [strOf_append, size_strOf, padL_length, List.length_append, List.length_cons, List.length_nil]; omega
  · simp only [strOf_append, List.append_assoc, clockL]; exact Ev.now _

/-! The reference's date of records -/
theorem spec_warc (t : Int) : Ev (fun k => spec_WarcDate.f k t) (strOfNums (warcT t)) := by
  unfold spec_WarcDate.f warcT
  by_cases h : isT t
  · obtain ⟨q1, q2, q3, q4, q5, q6⟩ := parts h
    rw [if_pos h, show (⟨#[45]⟩ : ByteArray) = strOfNums [45] from rfl, show (⟨#[84]⟩ : ByteArray) = strOfNums [84] from rfl, show (⟨#[90]⟩ : ByteArray) = strOfNums [90] from rfl]
    refine Ev.told (civ_yes h) (Ev.pos rfl ?_)
    repeat' first
      | refine Ev.pos (by simp only [strOf_append, size_strOf, padL_length, clock_length, List.length_append, List.length_cons, List.length_nil]; omega) ?_
      | refine Ev.bind (pad4 (yr t) (by omega) (by omega)) ?_
      | refine Ev.bind (pad2 (mo t) (by omega) (by omega)) ?_
      | refine Ev.bind (pad2 (da t) (by omega) (by omega)) ?_
      | refine Ev.bind (spec_clock h (yr t) (mo t) (da t)) ?_
    simp only [strOf_append, List.append_assoc, warcL]; exact Ev.now _
  · rw [if_neg h]
    exact Ev.told (civ_no h) (Ev.neg (by simp) (Ev.now _))

theorem FnExactWarcDate : laws_FnExactWarcDate.Pure := by
  intro t ht
  apply Ev.rounds
  unfold laws_FnExactWarcDate.f
  exact Ev.bind (spec_warc t) (Ev.told rfl (Ev.pos rfl (Ev.now _)))

end Go.Proofs.YtgjbhdfncappdaaDoor.Pure
