/- The law FnExactTurn answers true for every two whole numbers: both turns are the same. No condition. -/
import Derived.Test.YtcehnamlnbhhnaaPFnExactTurnx1
import Derived.Test.YtcehnamlnbhhnaaBase
namespace Go.Proofs.Ytcehnamlnbhhnaa.Pure
open Go.RowKit Go.Proofs.Ytcehnamlnbhhnaa.PFnExactTurn Go.Proofs.YtcehnamlnbhhnaaW.PrintWords Go.Proofs.YtcehnamlnbhhnaaW.PrintLast Go.Proofs.YtcehnamlnbhhnaaW.PrintMore Go.Proofs.Ytcehnamlnbhhnaa.Base
set_option linter.unusedVariables false
set_option linter.unusedSimpArgs false

/-! A word turned left -/
def rot (w : Int) (n : Nat) : Int := w * 2 ^ n % 4294967296 + w / 2 ^ (32 - n)
theorem pow_pos2 (n : Nat) : (0 : Int) < 2 ^ n := by have := Nat.two_pow_pos n; exact_mod_cast this
theorem pow_split {n : Nat} (h : n ≤ 32) : (2 : Int) ^ n * 2 ^ (32 - n) = 4294967296 := by
  rw [← Int.pow_add, show n + (32 - n) = 32 by omega]; rfl
theorem rot_parts {w : Int} {n : Nat} (h0 : 0 ≤ w) (h1 : w ≤ 4294967295) (hn : n ≤ 31) :
    0 ≤ w / 2 ^ (32 - n) ∧ w / 2 ^ (32 - n) < 2 ^ n ∧ w * 2 ^ n % 4294967296 % 2 ^ n = 0 ∧ w * 2 ^ n % 4294967296 + w / 2 ^ (32 - n) ≤ 4294967295 ∧ w * 2 ^ n % 2 ^ n = 0 := by
  have hp := pow_pos2 n
  have hq := pow_pos2 (32 - n)
  have hs := pow_split (n := n) (by omega)
  have a1 : 0 ≤ w / 2 ^ (32 - n) := Int.ediv_nonneg h0 (Int.le_of_lt hq)
  have a2 : w / 2 ^ (32 - n) < 2 ^ n := by
    apply Int.ediv_lt_of_lt_mul hq
    rw [hs]; omega
  have a5 : w * 2 ^ n % 2 ^ n = 0 := Int.mul_emod_left _ _
  have a3 : w * 2 ^ n % 4294967296 % 2 ^ n = 0 := by
    rw [Int.emod_emod_of_dvd]
    · exact a5
    · exact ⟨2 ^ (32 - n), hs.symm⟩
  refine ⟨a1, a2, a3, ?_, a5⟩
  have b1 : w * 2 ^ n % 4294967296 < 4294967296 := Int.emod_lt_of_pos _ (by decide)
  have b2 : w * 2 ^ n % 4294967296 = 2 ^ n * (w * 2 ^ n % 4294967296 / 2 ^ n) := by
    have := Int.mul_ediv_add_emod (w * 2 ^ n % 4294967296) (2 ^ n)
    omega
  have b3 : w * 2 ^ n % 4294967296 / 2 ^ n < 2 ^ (32 - n) := by
    apply Int.ediv_lt_of_lt_mul hp
    rw [Int.mul_comm (2 ^ (32 - n)), hs]; exact b1
  have b4 : w * 2 ^ n % 4294967296 / 2 ^ n ≤ 2 ^ (32 - n) - 1 := by omega
  have b5 : 2 ^ n * (w * 2 ^ n % 4294967296 / 2 ^ n) ≤ 2 ^ n * (2 ^ (32 - n) - 1) := Int.mul_le_mul_of_nonneg_left b4 (Int.le_of_lt hp)
  rw [Int.mul_sub, hs] at b5
  omega
theorem rot_range {w : Int} {n : Nat} (h0 : 0 ≤ w) (h1 : w ≤ 4294967295) (hn : n ≤ 31) : 0 ≤ rot w n ∧ rot w n ≤ 4294967295 := by
  obtain ⟨a1, a2, a3, a4, a5⟩ := rot_parts h0 h1 hn
  unfold rot
  exact ⟨by have := Int.emod_nonneg (w * 2 ^ n) (show (4294967296 : Int) ≠ 0 by decide); omega, a4⟩
theorem mul_pow_lt {w : Int} {n : Nat} (h0 : 0 ≤ w) (h1 : w ≤ 4294967295) (hn : n ≤ 31) : 0 ≤ w * 2 ^ n ∧ w * 2 ^ n < 2 ^ 63 := by
  have hp := pow_pos2 n
  have h2 : (2 : Int) ^ n ≤ 2 ^ 31 := by
    have := Nat.pow_le_pow_right (n := 2) (by decide) hn
    exact_mod_cast this
  refine ⟨Int.mul_nonneg h0 (Int.le_of_lt hp), ?_⟩
  have h3 : w * 2 ^ n ≤ 4294967295 * 2 ^ 31 := Int.mul_le_mul h1 h2 (Int.le_of_lt hp) (by decide)
  omega
theorem spec_rot {w : Int} {n : Nat} (h0 : 0 ≤ w) (h1 : w ≤ 4294967295) (hn : n ≤ 31) :
    spec_l3turn.f w (n : Int) = some (rot w n) := by
  obtain ⟨a1, a2, a3, a4, a5⟩ := rot_parts h0 h1 hn
  obtain ⟨m0, m1⟩ := mul_pow_lt h0 h1 hn
  have hw : wrap64 (32 - (n : Int)) = ((32 - n : Nat) : Int) := by rw [w64 (by omega) (by omega)]; omega
  unfold spec_l3turn.f
  rw [if_pos (by omega), hw, if_pos (by omega)]
  have e1 : shl .i64 w (n : Int) = w * 2 ^ n := by
    unfold shl
    rw [Int.toNat_natCast, Nat.min_eq_left (by simp [IntKind.bits]; omega), wraps_i64 _ m0 m1]
  have e2 : shr .i64 w ((32 - n : Nat) : Int) = w / 2 ^ (32 - n) := by
    unfold shr
    rw [Int.toNat_natCast, Nat.min_eq_left (by simp [IntKind.bits]; omega)]
  have hp : (2 : Int) ^ n ≤ 2 ^ 31 := by
    have := Nat.pow_le_pow_right (n := 2) (by decide) hn
    exact_mod_cast this
  have e3 : Go.bits .or .i64 (w * 2 ^ n) (w / 2 ^ (32 - n)) = w * 2 ^ n + w / 2 ^ (32 - n) :=
    bits_join .i64 63 (by decide) wraps_i64 n _ _ m0 a5 m1 a1 a2 (by omega)
  have e4 : Go.bits .and .i64 (w * 2 ^ n + w / 2 ^ (32 - n)) (2 ^ 32 - 1) = (w * 2 ^ n + w / 2 ^ (32 - n)) % 2 ^ 32 := by
    refine bits_mask .i64 63 (by decide) wraps_i64 32 (by decide) _ (by omega) ?_
    have h3 : w * 2 ^ n ≤ 4294967295 * 2 ^ 31 := Int.mul_le_mul h1 hp (Int.le_of_lt (pow_pos2 n)) (by decide)
    omega
  have e5 : ((2 : Int) ^ 32 - 1) = 4294967295 := by decide
  rw [e1, e2, e3, ← e5, e4]
  congr 1
  unfold rot
  have e6 : (2 : Int) ^ 32 = 4294967296 := by decide
  rw [e6]
  have := Int.emod_nonneg (w * 2 ^ n) (show (4294967296 : Int) ≠ 0 by decide)
  omega
theorem impl_rot {w : Int} {n : Nat} (h0 : 0 ≤ w) (h1 : w ≤ 4294967295) (hn : n ≤ 31) :
    impl_turn.f w (n : Int) = some (rot w n) := by
  obtain ⟨a1, a2, a3, a4, a5⟩ := rot_parts h0 h1 hn
  have hwr : IntKind.u64.wrap (n : Int) = (n : Int) := wraps_u64 _ (by omega) (by omega)
  have e5 : ((2 : Int) ^ 5 - 1) = 31 := by decide
  have hn31 : Go.bits .and .u64 (n : Int) 31 = (n : Int) := by
    rw [← e5, bits_mask .u64 64 (by decide) wraps_u64 5 (by decide) _ (by omega) (by omega)]
    omega
  have hw : IntKind.u64.wrap (32 - (n : Int)) = ((32 - n : Nat) : Int) := by
    rw [wraps_u64 _ (by omega) (by omega)]; omega
  unfold impl_turn.f bits_RotateLeft32.f
  rw [hwr, hn31, hw, if_pos (by omega), if_pos (by omega)]
  rw [show w % 4294967296 = w by omega]
  have e1 : shl .u32 w (n : Int) = w * 2 ^ n % 4294967296 := by
    unfold shl
    rw [Int.toNat_natCast, Nat.min_eq_left (by simp [IntKind.bits]; omega), IntKind.wrap_u32]
  have e2 : shr .u32 w ((32 - n : Nat) : Int) = w / 2 ^ (32 - n) := by
    unfold shr
    rw [Int.toNat_natCast, Nat.min_eq_left (by simp [IntKind.bits])]
  have hp : (2 : Int) ^ n ≤ 2 ^ 31 := by
    have := Nat.pow_le_pow_right (n := 2) (by decide) hn
    exact_mod_cast this
  have hm := Int.emod_nonneg (w * 2 ^ n) (show (4294967296 : Int) ≠ 0 by decide)
  have hm2 := Int.emod_lt_of_pos (w * 2 ^ n) (show (0 : Int) < 4294967296 by decide)
  have e3 : Go.bits .or .u32 (w * 2 ^ n % 4294967296) (w / 2 ^ (32 - n)) = w * 2 ^ n % 4294967296 + w / 2 ^ (32 - n) :=
    bits_join .u32 32 (by decide) wraps_u32 n _ _ hm a3 (by omega) a1 a2 (by omega)
  rw [e1, e2, e3]
  simp only [Option.bind_some]
  rw [w64 (by omega) (by omega)]
  rfl

theorem FnExactTurn : laws_FnExactTurn.Pure := by
  intro w n hw hn
  unfold laws_FnExactTurn.f spec_Turn.f impl_Turn.f impl_within.f spec_l3word.f
  by_cases h0 : 0 ≤ w
  · by_cases h1 : w ≤ 4294967295
    · by_cases h2 : 0 ≤ n
      · by_cases h3 : n ≤ 31
        · obtain ⟨m, rfl⟩ := Int.eq_ofNat_of_zero_le h2
          have hs := spec_rot h0 h1 (show m ≤ 31 by omega)
          have hi := impl_rot h0 h1 (show m ≤ 31 by omega)
          simp [h0, h1, h3, hs, hi, show ¬ ((m : Int) > 31) by omega, show ¬ ((m : Int) < 0) by omega]
        · simp [h0, h1, h2, h3, show n > 31 by omega, show ¬ (n < 0) by omega]
      · simp [h0, h1, h2, show n < 0 by omega]
    · simp [h0, h1]
  · simp [h0]

end Go.Proofs.Ytcehnamlnbhhnaa.Pure
