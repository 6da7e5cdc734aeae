/- The law FnExactHexText answers true for every whole number: both texts are the same. No condition. -/
import Derived.Test.YtoaijdlablanfaaDoorQFnExactHexTextx1
import Derived.Test.YtoaijdlablanfaaDoorBase
namespace Go.Proofs.YtoaijdlablanfaaDoor.Pure
open Go.RowKit Go.Proofs.YtoaijdlablanfaaDoor.PFnExactHexText Go.Proofs.YtoaijdlablanfaaDoorW.PrintWords Go.Proofs.YtoaijdlablanfaaDoorW.PrintLast Go.Proofs.YtoaijdlablanfaaDoorW.PrintMore Go.Proofs.YtoaijdlablanfaaDoor.Base
set_option linter.unusedVariables false
set_option linter.unusedSimpArgs false

/-! A number's digits in sixteens, and the number back -/
open Foreign (hexD hexs hexD_bd hexs_small hexs_big hexT)
theorem hexs_len : ∀ (f u : Nat), u < 16 ^ (f + 1) → 1 ≤ (hexs u).length ∧ (hexs u).length ≤ f + 1
  | 0, u, h => by rw [hexs_small (by simpa using h)]; simp
  | f + 1, u, h => by
    by_cases c : u < 16
    · rw [hexs_small c]; simp
    · have p : 16 ^ (f + 1 + 1) = 16 ^ (f + 1) * 16 := Nat.pow_succ ..
      have := hexs_len f (u / 16) (by omega)
      rw [hexs_big c, List.length_append]; simp only [List.length_cons, List.length_nil]; omega
theorem hexs_bd : ∀ (f u : Nat), u < 16 ^ (f + 1) → ∀ x ∈ hexs u, 0 ≤ x ∧ x < 256
  | 0, u, h => by
    have h : u < 16 := by simpa using h
    rw [hexs_small h]
    intro x hx
    have := hexD_bd (d := (u : Int)) (by omega) (by omega)
    simp only [List.mem_singleton] at hx; omega
  | f + 1, u, h => by
    by_cases c : u < 16
    · rw [hexs_small c]
      intro x hx
      have := hexD_bd (d := (u : Int)) (by omega) (by omega)
      simp only [List.mem_singleton] at hx; omega
    · have p : 16 ^ (f + 1 + 1) = 16 ^ (f + 1) * 16 := Nat.pow_succ ..
      rw [hexs_big c]
      intro x hx
      rcases List.mem_append.mp hx with h1 | h1
      · exact hexs_bd f (u / 16) (by omega) x h1
      · have := hexD_bd (d := ((u % 16 : Nat) : Int)) (by omega) (by omega)
        simp only [List.mem_singleton] at h1; omega

theorem dig16 : ∀ i : Fin 16, (([48, 49, 50, 51, 52, 53, 54, 55, 56, 57, 97, 98, 99, 100, 101, 102] : List Int).drop i.val).take 1 = [hexD (i.val : Int)] := by decide
theorem dig_text {v : Nat} (h : v < 16) : (⟨#[48, 49, 50, 51, 52, 53, 54, 55, 56, 57, 97, 98, 99, 100, 101, 102]⟩ : ByteArray).extract v (v + 1) = strOfNums [hexD (v : Int)] := by
  have hb := hexD_bd (d := (v : Int)) (by omega) (by omega)
  apply bytes_inj
  rw [bytes_extract, bytes_strOf (by intro x hx; simp only [List.mem_singleton] at hx; omega), show v + 1 - v = 1 by omega]
  exact dig16 ⟨v, h⟩
theorem spec_hexT : ∀ (f : Nat) (n : Int), 0 ≤ n → n ≤ 268435455 → n < 16 ^ (f + 1) → f ≤ 9 → Ev (fun k => spec_HexText.f k n) (strOfNums (hexs n.toNat))
  | f, n, h0, h1, hf, hq => by
    refine Ev.step (fun k => spec_HexText.f.eq_2 n k) (Ev.neg (by omega) ?_)
    rw [show decide (n > 268435455) = false from decide_eq_false (by omega)]
    have em : Int.tmod n 16 = ((n.toNat % 16 : Nat) : Int) := by rw [Int.tmod_eq_emod_of_nonneg h0]; omega
    have hm : n.toNat % 16 < 16 := Nat.mod_lt _ (by decide)
    refine Ev.step (fun k => spec_HexText.j0.eq_2 n false k) (Ev.neg (by simp) ?_)
    rw [em, w64 (n := ((n.toNat % 16 : Nat) : Int) + 1) (by omega) (by omega), show (((n.toNat % 16 : Nat) : Int) + 1).toNat = n.toNat % 16 + 1 by omega, show ((n.toNat % 16 : Nat) : Int).toNat = n.toNat % 16 by omega, dig_text hm]
    refine Ev.pos (by omega) (Ev.pos (by omega) (Ev.pos (by omega) ?_))
    by_cases c : n < 16
    · refine Ev.pos c ?_
      rw [hexs_small (by omega), show n.toNat % 16 = n.toNat by omega]; exact Ev.now _
    · refine Ev.neg c ?_
      match f, hf, hq with
      | 0, hf, _ => have hf : n < 16 := by simpa using hf
                    exact absurd hf c
      | f + 1, hf, hq =>
        have p : (16 : Int) ^ (f + 1 + 1) = 16 ^ (f + 1) * 16 := Int.pow_succ ..
        have ih := spec_hexT f (n / 16) (by omega) (by omega) (by omega) (by omega)
        have e1 : wrap64 (Int.tdiv n 16) = n / 16 := by rw [Int.tdiv_eq_ediv_of_nonneg h0, w64 (by omega) (by omega)]
        have hz := (hexs_len 6 (n / 16).toNat (by have : (16 : Nat) ^ (6 + 1) = 268435456 := by decide
                                                  omega)).2
        have eb := hexs_big (u := n.toNat) (by omega)
        rw [show n.toNat / 16 = (n / 16).toNat by omega] at eb
        rw [e1]
        refine Ev.bind ih (Ev.pos ?_ ?_)
        · rw [size_strOf, size_strOf]; simp only [List.length_cons, List.length_nil]; omega
        · rw [strOf_append, eb]; exact Ev.now _
theorem spec_hexT_all (n : Int) : Ev (fun k => spec_HexText.f k n) (hexT n) := by
  unfold hexT
  by_cases h : 0 ≤ n ∧ n ≤ 268435455
  · rw [if_pos h]
    have e : (16 : Int) ^ (6 + 1) = 268435456 := by decide
    exact spec_hexT 6 n h.1 h.2 (by omega) (by decide)
  · rw [if_neg h]
    refine Ev.step (fun k => spec_HexText.f.eq_2 n k) ?_
    by_cases c : n < 0
    · exact Ev.pos c (Ev.step (fun k => spec_HexText.j0.eq_2 n true k) (Ev.pos rfl (Ev.now _)))
    · refine Ev.neg c ?_
      rw [decide_eq_true (show n > 268435455 by omega)]
      exact Ev.step (fun k => spec_HexText.j0.eq_2 n true k) (Ev.pos rfl (Ev.now _))

theorem FnExactHexText : laws_FnExactHexText.Pure := by
  intro n hn
  apply Ev.rounds
  unfold laws_FnExactHexText.f
  exact Ev.bind (spec_hexT_all n) (Ev.told (show Foreign.impl_HexText.f n = some (hexT n) from rfl) (Ev.pos rfl (Ev.now _)))

end Go.Proofs.YtoaijdlablanfaaDoor.Pure
