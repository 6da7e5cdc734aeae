/- The law FnExactDecText answers true for every whole number: both texts are the same. No condition. -/
import Derived.Test.YtoaijdlablanfaaDoorQFnExactDecTextx1
import Derived.Test.YtoaijdlablanfaaDoorBase
namespace Go.Proofs.YtoaijdlablanfaaDoor.Pure
open Go.RowKit Go.Proofs.YtoaijdlablanfaaDoor.PFnExactDecText Go.Proofs.YtoaijdlablanfaaDoorW.PrintWords Go.Proofs.YtoaijdlablanfaaDoorW.PrintLast Go.Proofs.YtoaijdlablanfaaDoorW.PrintMore Go.Proofs.YtoaijdlablanfaaDoor.Base
set_option linter.unusedVariables false
set_option linter.unusedSimpArgs false

/-! Numbers in decimal: the reference's DecText and the library's numeral -/
def decT (u : Nat) : ByteArray := ⟨(Lib.decDigits u).toArray⟩
theorem decT_small {u : Nat} (h : u < 10) : decT u = strOfNums [48 + (u : Int)] := by
  apply bytes_inj
  rw [bytes_strOf (by intro x hx; simp only [List.mem_singleton] at hx; omega)]
  unfold decT; rw [Lib.decDigits, dif_pos h]
  show [((UInt8.ofNat (48 + u)).toNat : Int)] = _
  rw [UInt8.toNat_ofNat']
  congr 1; omega
theorem decT_big {u : Nat} (h : ¬ u < 10) : decT u = decT (u / 10) ++ strOfNums [48 + ((u % 10 : Nat) : Int)] := by
  apply bytes_inj
  rw [bytes_append, bytes_strOf (by intro x hx; simp only [List.mem_singleton] at hx; omega)]
  have e : Lib.decDigits u = Lib.decDigits (u / 10) ++ [UInt8.ofNat (48 + u % 10)] := by rw [Lib.decDigits, dif_neg h]
  unfold decT; rw [e]
  show ((Lib.decDigits (u / 10) ++ [UInt8.ofNat (48 + u % 10)]).map fun b => (b.toNat : Int)) = (Lib.decDigits (u / 10)).map (fun b => (b.toNat : Int)) ++ _
  rw [List.map_append]
  congr 1
  show [((UInt8.ofNat (48 + u % 10)).toNat : Int)] = _
  rw [UInt8.toNat_ofNat']
  congr 1; omega
theorem decT_size : ∀ (f u : Nat), u < 10 ^ (f + 1) → (decT u).size ≤ f + 1
  | 0, u, h => by rw [decT_small (by simpa using h), size_strOf]; simp
  | f + 1, u, h => by
    by_cases c : u < 10
    · rw [decT_small c, size_strOf]; simp
    · have p : 10 ^ (f + 1 + 1) = 10 ^ (f + 1) * 10 := Nat.pow_succ ..
      have := decT_size f (u / 10) (by omega)
      rw [decT_big c, ByteArray.size_append, size_strOf]; simp only [List.length_cons, List.length_nil]; omega
theorem spec_decT : ∀ (f : Nat) (n : Int), 0 ≤ n → n ≤ 999999999999999 → n < 10 ^ (f + 1) → f ≤ 20 → Ev (fun k => spec_DecText.f k n) (decT n.toNat)
  | f, n, h0, h1, hf, hq => by
    refine Ev.step (fun k => spec_DecText.f.eq_2 n k) (Ev.neg (by omega) ?_)
    rw [show decide (n > 999999999999999) = false from decide_eq_false (by omega)]
    refine Ev.step (fun k => spec_DecText.j0.eq_2 n false k) (Ev.neg (by simp) ?_)
    by_cases c : n < 10
    · refine Ev.pos c ?_
      rw [w64 (by omega) (by omega), show (48 + n) % 256 = 48 + n by omega]
      rw [decT_small (by omega), show ((n.toNat : Nat) : Int) = n by omega]; exact Ev.now _
    · refine Ev.neg c ?_
      match f, hf, hq with
      | 0, hf, _ => have hf : n < 10 := by simpa using hf
                    exact absurd hf c
      | f + 1, hf, hq =>
        have p : (10 : Int) ^ (f + 1 + 1) = 10 ^ (f + 1) * 10 := Int.pow_succ ..
        have h2 : n / 10 < 10 ^ (f + 1) := by omega
        have ih := spec_decT f (n / 10) (by omega) (by omega) h2 (by omega)
        have e1 : wrap64 (Int.tdiv n 10) = n / 10 := by rw [Int.tdiv_eq_ediv_of_nonneg h0, w64 (by omega) (by omega)]
        have e2 : (wrap64 (48 + Int.tmod n 10)) % 256 = 48 + n % 10 := by rw [Int.tmod_eq_emod_of_nonneg h0, w64 (by omega) (by omega)]; omega
        have hz := decT_size f (n / 10).toNat (by
          have : (((n / 10).toNat : Nat) : Int) < ((10 ^ (f + 1) : Nat) : Int) := by
            rw [show (((n / 10).toNat : Nat) : Int) = n / 10 by omega]; push_cast; exact h2
          exact_mod_cast this)
        have eb := decT_big (u := n.toNat) (by omega)
        rw [show n.toNat / 10 = (n / 10).toNat by omega, show ((n.toNat % 10 : Nat) : Int) = n % 10 by omega] at eb
        rw [e1, e2]
        refine Ev.bind ih (Ev.told rfl (Ev.pos ?_ ?_))
        · rw [size_strOf]; simp only [List.length_cons, List.length_nil]; omega
        · rw [eb]; exact Ev.now _
theorem spec_decT_out {n : Int} (h : ¬ (0 ≤ n ∧ n ≤ 999999999999999)) : Ev (fun k => spec_DecText.f k n) (⟨#[]⟩ : ByteArray) := by
  refine Ev.step (fun k => spec_DecText.f.eq_2 n k) ?_
  by_cases c : n < 0
  · exact Ev.pos c (Ev.step (fun k => spec_DecText.j0.eq_2 n true k) (Ev.pos rfl (Ev.now _)))
  · refine Ev.neg c ?_
    rw [decide_eq_true (show n > 999999999999999 by omega)]
    exact Ev.step (fun k => spec_DecText.j0.eq_2 n true k) (Ev.pos rfl (Ev.now _))
theorem impl_decT {n : Int} (h : 0 ≤ n ∧ n ≤ 999999999999999) : impl_DecText.f n = some (decT n.toNat) := by
  unfold impl_DecText.f impl_within.f
  rw [if_pos h.1, Option.bind_some, decide_eq_true h.2, if_pos rfl]
  unfold Foreign.strconv_Itoa.f
  rw [if_pos (by omega), Option.bind_some]
  unfold decT Lib.itoa
  rw [if_neg (by omega)]
theorem impl_decT_out {n : Int} (h : ¬ (0 ≤ n ∧ n ≤ 999999999999999)) : impl_DecText.f n = some (⟨#[]⟩ : ByteArray) := by
  unfold impl_DecText.f impl_within.f
  by_cases c : 0 ≤ n
  · rw [if_pos c, Option.bind_some, decide_eq_false (by omega), if_neg (by simp)]
  · rw [if_neg c, Option.bind_some, if_neg (by simp)]

theorem FnExactDecText : laws_FnExactDecText.Pure := by
  intro n hn
  apply Ev.rounds
  unfold laws_FnExactDecText.f
  by_cases h : 0 ≤ n ∧ n ≤ 999999999999999
  · have e : (10 : Int) ^ (14 + 1) = 1000000000000000 := by decide
    exact Ev.bind (spec_decT 14 n h.1 h.2 (by omega) (by decide)) (Ev.told (impl_decT h) (Ev.pos rfl (Ev.now _)))
  · exact Ev.bind (spec_decT_out h) (Ev.told (impl_decT_out h) (Ev.pos rfl (Ev.now _)))

end Go.Proofs.YtoaijdlablanfaaDoor.Pure
