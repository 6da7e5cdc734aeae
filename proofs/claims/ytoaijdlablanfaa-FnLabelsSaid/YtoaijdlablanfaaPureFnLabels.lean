/- The law FnLabels answers true for every code: a digest is read back out of its label, and labels are as different as digests are. No condition. -/
import Derived.Test.YtoaijdlablanfaaQFnLabelsx13
import Derived.Test.YtoaijdlablanfaaBaseV
namespace Go.Proofs.Ytoaijdlablanfaa.Pure
open Go.RowKit Go.Proofs.Ytoaijdlablanfaa.PFnLabels Go.Proofs.YtoaijdlablanfaaV.PrintWords Go.Proofs.YtoaijdlablanfaaV.PrintLast Go.Proofs.YtoaijdlablanfaaV.PrintMore Go.Proofs.Ytoaijdlablanfaa.Base
set_option linter.unusedVariables false
set_option linter.unusedSimpArgs false

/-! A word turned left -/
def rot (w : Int) (n : Nat) : Int := w * 2 ^ n % 4294967296 + w / 2 ^ (32 - n)
theorem pow_pos2 (n : Nat) : (0 : Int) < 2 ^ n := by have := Nat.two_pow_pos n; exact_mod_cast this
theorem pow_split {n : Nat} (h : n ≤ 32) : (2 : Int) ^ n * 2 ^ (32 - n) = 4294967296 := by
  rw [← Int.pow_add, show n + (32 - n) = 32 by omega]; rfl
theorem rot_parts {w : Int} {n : Nat} (h0 : 0 ≤ w) (h1 : w ≤ 4294967295) (hn : n ≤ 31) :
    0 ≤ w / 2 ^ (32 - n) ∧ w / 2 ^ (32 - n) < 2 ^ n ∧ w * 2 ^ n % 4294967296 % 2 ^ n = 0 ∧ w * 2 ^ n % 4294967296 + w / 2 ^ (32 - n) ≤ 4294967295 ∧ w * 2 ^ n % 2 ^ n = 0 := by
  have hp := pow_pos2 n
  have hq := pow_pos2 (32 - n)
  have hs := pow_split (n := n) (by omega)
  have a1 : 0 ≤ w / 2 ^ (32 - n) := Int.ediv_nonneg h0 (Int.le_of_lt hq)
  have a2 : w / 2 ^ (32 - n) < 2 ^ n := by
    apply Int.ediv_lt_of_lt_mul hq
    rw [hs]; omega
  have a5 : w * 2 ^ n % 2 ^ n = 0 := Int.mul_emod_left _ _
  have a3 : w * 2 ^ n % 4294967296 % 2 ^ n = 0 := by
    rw [Int.emod_emod_of_dvd]
    · exact a5
    · exact ⟨2 ^ (32 - n), hs.symm⟩
  refine ⟨a1, a2, a3, ?_, a5⟩
  have b1 : w * 2 ^ n % 4294967296 < 4294967296 := Int.emod_lt_of_pos _ (by decide)
  have b2 : w * 2 ^ n % 4294967296 = 2 ^ n * (w * 2 ^ n % 4294967296 / 2 ^ n) := by
    have := Int.mul_ediv_add_emod (w * 2 ^ n % 4294967296) (2 ^ n)
    omega
  have b3 : w * 2 ^ n % 4294967296 / 2 ^ n < 2 ^ (32 - n) := by
    apply Int.ediv_lt_of_lt_mul hp
    rw [Int.mul_comm (2 ^ (32 - n)), hs]; exact b1
  have b4 : w * 2 ^ n % 4294967296 / 2 ^ n ≤ 2 ^ (32 - n) - 1 := by omega
  have b5 : 2 ^ n * (w * 2 ^ n % 4294967296 / 2 ^ n) ≤ 2 ^ n * (2 ^ (32 - n) - 1) := Int.mul_le_mul_of_nonneg_left b4 (Int.le_of_lt hp)
  rw [Int.mul_sub, hs] at b5
  omega
theorem rot_range {w : Int} {n : Nat} (h0 : 0 ≤ w) (h1 : w ≤ 4294967295) (hn : n ≤ 31) : 0 ≤ rot w n ∧ rot w n ≤ 4294967295 := by
  obtain ⟨a1, a2, a3, a4, a5⟩ := rot_parts h0 h1 hn
  unfold rot
  exact ⟨by have := Int.emod_nonneg (w * 2 ^ n) (show (4294967296 : Int) ≠ 0 by decide); omega, a4⟩
theorem mul_pow_lt {w : Int} {n : Nat} (h0 : 0 ≤ w) (h1 : w ≤ 4294967295) (hn : n ≤ 31) : 0 ≤ w * 2 ^ n ∧ w * 2 ^ n < 2 ^ 63 := by
  have hp := pow_pos2 n
  have h2 : (2 : Int) ^ n ≤ 2 ^ 31 := by
    have := Nat.pow_le_pow_right (n := 2) (by decide) hn
    exact_mod_cast this
  refine ⟨Int.mul_nonneg h0 (Int.le_of_lt hp), ?_⟩
  have h3 : w * 2 ^ n ≤ 4294967295 * 2 ^ 31 := Int.mul_le_mul h1 h2 (Int.le_of_lt hp) (by decide)
  omega
theorem spec_rot {w : Int} {n : Nat} (h0 : 0 ≤ w) (h1 : w ≤ 4294967295) (hn : n ≤ 31) :
    spec_l3turn.f w (n : Int) = some (rot w n) := by
  obtain ⟨a1, a2, a3, a4, a5⟩ := rot_parts h0 h1 hn
  obtain ⟨m0, m1⟩ := mul_pow_lt h0 h1 hn
  have hw : wrap64 (32 - (n : Int)) = ((32 - n : Nat) : Int) := by rw [w64 (by omega) (by omega)]; omega
  unfold spec_l3turn.f
  rw [if_pos (by omega), hw, if_pos (by omega)]
  have e1 : shl .i64 w (n : Int) = w * 2 ^ n := by
    unfold shl
    rw [Int.toNat_natCast, Nat.min_eq_left (by simp [IntKind.bits]; omega), wraps_i64 _ m0 m1]
  have e2 : shr .i64 w ((32 - n : Nat) : Int) = w / 2 ^ (32 - n) := by
    unfold shr
    rw [Int.toNat_natCast, Nat.min_eq_left (by simp [IntKind.bits]; omega)]
  have hp : (2 : Int) ^ n ≤ 2 ^ 31 := by
    have := Nat.pow_le_pow_right (n := 2) (by decide) hn
    exact_mod_cast this
  have e3 : Go.bits .or .i64 (w * 2 ^ n) (w / 2 ^ (32 - n)) = w * 2 ^ n + w / 2 ^ (32 - n) :=
    bits_join .i64 63 (by decide) wraps_i64 n _ _ m0 a5 m1 a1 a2 (by omega)
  have e4 : Go.bits .and .i64 (w * 2 ^ n + w / 2 ^ (32 - n)) (2 ^ 32 - 1) = (w * 2 ^ n + w / 2 ^ (32 - n)) % 2 ^ 32 := by
    refine bits_mask .i64 63 (by decide) wraps_i64 32 (by decide) _ (by omega) ?_
    have h3 : w * 2 ^ n ≤ 4294967295 * 2 ^ 31 := Int.mul_le_mul h1 hp (Int.le_of_lt (pow_pos2 n)) (by decide)
    omega
  have e5 : ((2 : Int) ^ 32 - 1) = 4294967295 := by decide
  rw [e1, e2, e3, ← e5, e4]
  congr 1
  unfold rot
  have e6 : (2 : Int) ^ 32 = 4294967296 := by decide
  rw [e6]
  have := Int.emod_nonneg (w * 2 ^ n) (show (4294967296 : Int) ≠ 0 by decide)
  omega
theorem impl_rot {w : Int} {n : Nat} (h0 : 0 ≤ w) (h1 : w ≤ 4294967295) (hn : n ≤ 31) :
    impl_turn.f w (n : Int) = some (rot w n) := by
  obtain ⟨a1, a2, a3, a4, a5⟩ := rot_parts h0 h1 hn
  have hwr : IntKind.u64.wrap (n : Int) = (n : Int) := wraps_u64 _ (by omega) (by omega)
  have e5 : ((2 : Int) ^ 5 - 1) = 31 := by decide
  have hn31 : Go.bits .and .u64 (n : Int) 31 = (n : Int) := by
    rw [← e5, bits_mask .u64 64 (by decide) wraps_u64 5 (by decide) _ (by omega) (by omega)]
    omega
  have hw : IntKind.u64.wrap (32 - (n : Int)) = ((32 - n : Nat) : Int) := by
    rw [wraps_u64 _ (by omega) (by omega)]; omega
  unfold impl_turn.f bits_RotateLeft32.f
  rw [hwr, hn31, hw, if_pos (by omega), if_pos (by omega)]
  rw [show w % 4294967296 = w by omega]
  have e1 : shl .u32 w (n : Int) = w * 2 ^ n % 4294967296 := by
    unfold shl
    rw [Int.toNat_natCast, Nat.min_eq_left (by simp [IntKind.bits]; omega), IntKind.wrap_u32]
  have e2 : shr .u32 w ((32 - n : Nat) : Int) = w / 2 ^ (32 - n) := by
    unfold shr
    rw [Int.toNat_natCast, Nat.min_eq_left (by simp [IntKind.bits])]
  have hp : (2 : Int) ^ n ≤ 2 ^ 31 := by
    have := Nat.pow_le_pow_right (n := 2) (by decide) hn
    exact_mod_cast this
  have hm := Int.emod_nonneg (w * 2 ^ n) (show (4294967296 : Int) ≠ 0 by decide)
  have hm2 := Int.emod_lt_of_pos (w * 2 ^ n) (show (0 : Int) < 4294967296 by decide)
  have e3 : Go.bits .or .u32 (w * 2 ^ n % 4294967296) (w / 2 ^ (32 - n)) = w * 2 ^ n % 4294967296 + w / 2 ^ (32 - n) :=
    bits_join .u32 32 (by decide) wraps_u32 n _ _ hm a3 (by omega) a1 a2 (by omega)
  rw [e1, e2, e3]
  simp only [Option.bind_some]
  rw [w64 (by omega) (by omega)]
  rfl

/-! Words of 32 bits -/
def W (x : Int) : Prop := 0 ≤ x ∧ x ≤ 4294967295
theorem bits_nat64 (a b : Nat) (ha : a < 2 ^ 32) (hb : b < 2 ^ 32) : Go.bits .and .i64 (a : Int) (b : Int) = ((a &&& b : Nat) : Int) ∧ Go.bits .or .i64 (a : Int) (b : Int) = ((a ||| b : Nat) : Int) ∧ Go.bits .xor .i64 (a : Int) (b : Int) = ((a ^^^ b : Nat) : Int) := by
  have ha' : a < 2 ^ 63 := by omega
  have hb' : b < 2 ^ 63 := by omega
  have h := bits_nat .i64 63 (by decide) wraps_i64 a b ha' hb'
  refine ⟨h.1, h.2, ?_⟩
  have e1 : a % 2 ^ IntKind.i64.bits = a := Nat.mod_eq_of_lt (by simp only [IntKind.bits]; omega)
  have e2 : b % 2 ^ IntKind.i64.bits = b := Nat.mod_eq_of_lt (by simp only [IntKind.bits]; omega)
  simp only [Go.bits, BitVec.ofInt_natCast, BitVec.toNat_xor, BitVec.toNat_ofNat, e1, e2]
  have hx := Nat.xor_lt_two_pow ha hb
  exact wraps_i64 _ (Int.natCast_nonneg _) (by have : ((a ^^^ b : Nat) : Int) < ((2 ^ 32 : Nat) : Int) := by exact_mod_cast hx
                                               omega)
theorem and_W {a b : Int} (ha : W a) (hb : W b) : W (Go.bits .and .i64 a b) := by
  obtain ⟨x, rfl⟩ := Int.eq_ofNat_of_zero_le ha.1
  obtain ⟨y, rfl⟩ := Int.eq_ofNat_of_zero_le hb.1
  have h1 := ha.2
  have h2 := hb.2
  rw [(bits_nat64 x y (by omega) (by omega)).1]
  have := Nat.and_lt_two_pow (n := 32) x (show y < 2 ^ 32 by omega)
  exact ⟨by omega, by omega⟩
theorem or_W {a b : Int} (ha : W a) (hb : W b) : W (Go.bits .or .i64 a b) := by
  obtain ⟨x, rfl⟩ := Int.eq_ofNat_of_zero_le ha.1
  obtain ⟨y, rfl⟩ := Int.eq_ofNat_of_zero_le hb.1
  have h1 := ha.2
  have h2 := hb.2
  rw [(bits_nat64 x y (by omega) (by omega)).2.1]
  have := Nat.or_lt_two_pow (n := 32) (show x < 2 ^ 32 by omega) (show y < 2 ^ 32 by omega)
  exact ⟨by omega, by omega⟩
theorem xor_W {a b : Int} (ha : W a) (hb : W b) : W (Go.bits .xor .i64 a b) := by
  obtain ⟨x, rfl⟩ := Int.eq_ofNat_of_zero_le ha.1
  obtain ⟨y, rfl⟩ := Int.eq_ofNat_of_zero_le hb.1
  have h1 := ha.2
  have h2 := hb.2
  rw [(bits_nat64 x y (by omega) (by omega)).2.2]
  have := Nat.xor_lt_two_pow (n := 32) (show x < 2 ^ 32 by omega) (show y < 2 ^ 32 by omega)
  exact ⟨by omega, by omega⟩
theorem mask_W : W 4294967295 := ⟨by decide, by decide⟩
theorem mask_any {a : Int} (h0 : 0 ≤ a) (h1 : a < 9223372036854775808) : Go.bits .and .i64 a 4294967295 = a % 4294967296 := by
  obtain ⟨x, rfl⟩ := Int.eq_ofNat_of_zero_le h0
  rw [and_mask x 32 (by decide) (by omega) 4294967295 (by decide)]
  omega
theorem mask_any_W {a : Int} (h0 : 0 ≤ a) (h1 : a < 9223372036854775808) : W (Go.bits .and .i64 a 4294967295) := by
  rw [mask_any h0 h1]; exact ⟨by omega, by omega⟩
theorem ofInt_wrap (v : BitVec 64) : BitVec.ofInt 64 (IntKind.i64.wrap (v.toNat : Int)) = v := by
  have h := v.isLt
  apply BitVec.eq_of_toNat_eq
  rw [IntKind.wrap_i64, BitVec.toNat_ofInt]
  omega
theorem not_form {b d : Int} (hb : W b) (hd : W d) : Go.bits .and .i64 (Go.bits .and .i64 (Go.bits .xor .i64 (-1) b) d) 4294967295 = Go.bits .and .i64 (Go.bits .xor .i64 b 4294967295) d := by
  obtain ⟨x, rfl⟩ := Int.eq_ofNat_of_zero_le hb.1
  obtain ⟨y, rfl⟩ := Int.eq_ofNat_of_zero_le hd.1
  have hy : y < 2 ^ 32 := by have := hd.2; omega
  show IntKind.i64.wrap ((BitVec.ofInt 64 (IntKind.i64.wrap ((BitVec.ofInt 64 (IntKind.i64.wrap ((BitVec.ofInt 64 (-1) ^^^ BitVec.ofInt 64 (x : Int)).toNat : Int)) &&& BitVec.ofInt 64 (y : Int)).toNat : Int)) &&& BitVec.ofInt 64 4294967295).toNat : Int) = IntKind.i64.wrap ((BitVec.ofInt 64 (IntKind.i64.wrap ((BitVec.ofInt 64 (x : Int) ^^^ BitVec.ofInt 64 4294967295).toNat : Int)) &&& BitVec.ofInt 64 (y : Int)).toNat : Int)
  rw [ofInt_wrap, ofInt_wrap, ofInt_wrap]
  congr 3
  have em : BitVec.ofInt 64 4294967295 = BitVec.ofNat 64 (2 ^ 32 - 1) := by decide
  have e1 : BitVec.ofInt 64 (-1) = BitVec.allOnes 64 := by decide
  rw [em, e1, BitVec.ofInt_natCast, BitVec.ofInt_natCast]
  apply BitVec.eq_of_getLsbD_eq
  intro i hi
  simp only [BitVec.getLsbD_and, BitVec.getLsbD_xor, BitVec.getLsbD_allOnes, BitVec.getLsbD_ofNat, hi, decide_true, Bool.true_and, Bool.true_xor, Nat.testBit_two_pow_sub_one]
  by_cases h : i < 32
  · simp [h]
  · have : y.testBit i = false := Nat.testBit_lt_two_pow (Nat.lt_of_lt_of_le hy (Nat.pow_le_pow_right (by decide) (by omega)))
    simp [this]

/-! The eighty words of a block -/
def w0 (s : ByteArray) (t : Nat) : Int := Go.bits .or .i64 (Go.bits .or .i64 (Go.bits .or .i64 (wrap64 ((wrap64 (bt s ((4 * t : Nat) : Int))) * 16777216)) (wrap64 ((wrap64 (bt s ((4 * t + 1 : Nat) : Int))) * 65536))) (wrap64 ((wrap64 (bt s ((4 * t + 2 : Nat) : Int))) * 256))) (wrap64 (bt s ((4 * t + 3 : Nat) : Int)))
def xr (xs : List Int) (t : Nat) : Int := Go.bits .xor .i64 (Go.bits .xor .i64 (Go.bits .xor .i64 (rd xs ((t - 3 : Nat) : Int)) (rd xs ((t - 8 : Nat) : Int))) (rd xs ((t - 14 : Nat) : Int))) (rd xs ((t - 16 : Nat) : Int))
def schStep (s : ByteArray) (xs : List Int) (t : Nat) : Int := if t < 16 then w0 s t else rot (xr xs t) 1
def sch (s : ByteArray) : Nat → List Int
  | 0 => []
  | t + 1 => sch s t ++ [schStep s (sch s t) t]
theorem sch_length (s : ByteArray) (t : Nat) : (sch s t).length = t := by
  induction t with
  | zero => rfl
  | succ t ih => simp [sch, ih]
theorem w0_W (s : ByteArray) (t : Nat) : W (w0 s t) := by
  have h0 := bt_range s ((4 * t : Nat) : Int)
  have h1 := bt_range s ((4 * t + 1 : Nat) : Int)
  have h2 := bt_range s ((4 * t + 2 : Nat) : Int)
  have h3 := bt_range s ((4 * t + 3 : Nat) : Int)
  unfold w0
  generalize bt s ((4 * t : Nat) : Int) = b0 at *
  generalize bt s ((4 * t + 1 : Nat) : Int) = b1 at *
  generalize bt s ((4 * t + 2 : Nat) : Int) = b2 at *
  generalize bt s ((4 * t + 3 : Nat) : Int) = b3 at *
  rw [w64 (n := b0) (by omega) (by omega), w64 (n := b1) (by omega) (by omega), w64 (n := b2) (by omega) (by omega), w64 (n := b3) (by omega) (by omega), w64 (n := b0 * _) (by omega) (by omega), w64 (n := b1 * _) (by omega) (by omega), w64 (n := b2 * _) (by omega) (by omega)]
  exact or_W (or_W (or_W ⟨by omega, by omega⟩ ⟨by omega, by omega⟩) ⟨by omega, by omega⟩) ⟨by omega, by omega⟩
theorem rd_W {xs : List Int} (h : ∀ x ∈ xs, W x) (i : Int) : W (rd xs i) := by
  unfold rd
  by_cases hi : i.toNat < xs.length
  · exact h _ (getD_mem hi)
  · rw [getD_past (by omega)]; exact ⟨by decide, by decide⟩
theorem xr_W {xs : List Int} (h : ∀ x ∈ xs, W x) (t : Nat) : W (xr xs t) := xor_W (xor_W (xor_W (rd_W h _) (rd_W h _)) (rd_W h _)) (rd_W h _)
theorem rot_W {x : Int} (h : W x) (n : Nat) (hn : n ≤ 31) : W (rot x n) := rot_range h.1 h.2 hn
theorem sch_W (s : ByteArray) (t : Nat) : ∀ x ∈ sch s t, W x := by
  induction t with
  | zero => simp [sch]
  | succ t ih =>
    intro x hx
    simp only [sch, List.mem_append, List.mem_singleton] at hx
    rcases hx with hx | rfl
    · exact ih x hx
    · unfold schStep
      split
      · exact w0_W s t
      · exact rot_W (xr_W ih t) 1 (by omega)
theorem bt_piece (s : ByteArray) (a b j : Nat) (h : b ≤ s.size) (hj : a + j < b) : bt (s.extract a b) (j : Int) = bt s ((a + j : Nat) : Int) := by
  rw [bt_nat, bt_nat, bytes_extract]
  rw [List.getD_eq_getElem?_getD, List.getD_eq_getElem?_getD, List.getElem?_take_of_lt (by omega), List.getElem?_drop]

theorem impl_sch_l0 (s : ByteArray) (h64 : s.size = 64) : ∀ (d t : Nat), t + d = 80 → Ev (fun k => impl_Schedule.l0 k s (sch s t) (t : Int)) (sch s 80) := by
  intro d
  induction d with
  | zero =>
    intro t h
    refine Ev.step (fun k => impl_Schedule.l0.eq_2 _ _ _ k) (Ev.neg (by omega) ?_)
    rw [show t = 80 by omega]; exact Ev.now _
  | succ d ih =>
    intro t h
    have hw : wrap64 ((t : Int) + 1) = ((t + 1 : Nat) : Int) := by rw [w64 (by omega) (by omega)]; omega
    have hl := sch_length s t
    have hn := ih (t + 1) (by omega)
    refine Ev.step (fun k => impl_Schedule.l0.eq_2 _ _ _ k) (Ev.pos (by omega) ?_)
    rw [hw]
    by_cases h16 : t < 16
    · have e4 : wrap64 (4 * (t : Int)) = ((4 * t : Nat) : Int) := by rw [w64 (by omega) (by omega)]; omega
      have e8 : wrap64 (((4 * t : Nat) : Int) + 4) = ((4 * t + 4 : Nat) : Int) := by rw [w64 (by omega) (by omega)]; omega
      rw [e4, e8, Int.toNat_natCast, Int.toNat_natCast]
      have hz : (s.extract (4 * t) (4 * t + 4)).size = 4 := by rw [size_extract _ _ _ (by omega)]; omega
      have b0 : bt (s.extract (4 * t) (4 * t + 4)) 0 = bt s ((4 * t : Nat) : Int) := bt_piece s _ _ 0 (by omega) (by omega)
      have b1 : bt (s.extract (4 * t) (4 * t + 4)) 1 = bt s ((4 * t + 1 : Nat) : Int) := bt_piece s _ _ 1 (by omega) (by omega)
      have b2 : bt (s.extract (4 * t) (4 * t + 4)) 2 = bt s ((4 * t + 2 : Nat) : Int) := bt_piece s _ _ 2 (by omega) (by omega)
      have b3 : bt (s.extract (4 * t) (4 * t + 4)) 3 = bt s ((4 * t + 3 : Nat) : Int) := bt_piece s _ _ 3 (by omega) (by omega)
      rw [hz, b0, b1, b2, b3]
      refine Ev.pos (by omega) (Ev.pos (by omega) (Ev.pos (by omega) (Ev.pos (by omega) (Ev.pos (by omega) (Ev.pos (by omega) (Ev.pos (by omega) (Ev.pos (by omega) (Ev.pos (by omega) ?_))))))))
      have e : sch s (t + 1) = sch s t ++ [w0 s t] := by simp only [sch, schStep]; rw [if_pos h16]
      rw [e] at hn
      exact hn
    · have e3 : wrap64 ((t : Int) - 3) = ((t - 3 : Nat) : Int) := by rw [w64 (by omega) (by omega)]; omega
      have e8 : wrap64 ((t : Int) - 8) = ((t - 8 : Nat) : Int) := by rw [w64 (by omega) (by omega)]; omega
      have e14 : wrap64 ((t : Int) - 14) = ((t - 14 : Nat) : Int) := by rw [w64 (by omega) (by omega)]; omega
      have e16 : wrap64 ((t : Int) - 16) = ((t - 16 : Nat) : Int) := by rw [w64 (by omega) (by omega)]; omega
      rw [e3, e8, e14, e16]
      have hx := xr_W (sch_W s t) t
      refine Ev.neg (by omega) (Ev.pos (by omega) (Ev.pos (by omega) (Ev.pos (by omega) (Ev.pos (by omega) (Ev.pos (by omega) (Ev.pos (by omega) (Ev.pos (by omega) (Ev.pos (by omega) (Ev.told (impl_rot (n := 1) hx.1 hx.2 (by omega)) (Ev.pos (by omega) ?_))))))))))
      have e : sch s (t + 1) = sch s t ++ [rot (xr (sch s t) t) 1] := by simp only [sch, schStep]; rw [if_neg h16]
      rw [e] at hn
      exact hn
theorem impl_sch (s : ByteArray) : Ev (fun k => impl_Schedule.f k s) (if s.size = 64 then sch s 80 else []) := by
  unfold impl_Schedule.f
  by_cases h : s.size = 64
  · rw [if_pos h]; exact Ev.pos (by omega) (impl_sch_l0 s h 80 0 (by omega))
  · rw [if_neg h]; exact Ev.neg (by omega) (Ev.now _)

theorem rd_app {xs ys : List Int} {i : Nat} (h : i < xs.length) : rd (xs ++ ys) (i : Int) = rd xs (i : Int) := by
  unfold rd
  rw [Int.toNat_natCast, List.getD_eq_getElem?_getD, List.getD_eq_getElem?_getD, List.getElem?_append_left h]
theorem set_app (xs : List Int) (m : Nat) (v : Int) (t : Nat) (h : xs.length = t) : (xs ++ List.replicate (m + 1) 0).set t v = (xs ++ [v]) ++ List.replicate m 0 := by
  subst h
  rw [List.set_append_right _ _ (Nat.le_refl _), Nat.sub_self, List.replicate_succ]
  simp
theorem spec_sch_l0 (s : ByteArray) (h64 : s.size = 64) : ∀ (d t : Nat), t + d = 80 → Ev (fun k => spec_Schedule.l0 k s (sch s t ++ List.replicate d 0) (t : Int)) (sch s 80) := by
  intro d
  induction d with
  | zero =>
    intro t h
    refine Ev.step (fun k => spec_Schedule.l0.eq_2 _ _ _ k) (Ev.neg (by omega) ?_)
    rw [show t = 80 by omega, List.replicate_zero, List.append_nil]; exact Ev.now _
  | succ d ih =>
    intro t h
    have hw : wrap64 ((t : Int) + 1) = ((t + 1 : Nat) : Int) := by rw [w64 (by omega) (by omega)]; omega
    have hl := sch_length s t
    have hL : (sch s t ++ List.replicate (d + 1) 0).length = 80 := by simp [hl]; omega
    have hn := ih (t + 1) (by omega)
    refine Ev.step (fun k => spec_Schedule.l0.eq_2 _ _ _ k) (Ev.pos (by omega) ?_)
    rw [hw, hL, Int.toNat_natCast]
    by_cases h16 : t < 16
    · have e4 : wrap64 (4 * (t : Int)) = ((4 * t : Nat) : Int) := by rw [w64 (by omega) (by omega)]; omega
      have e5 : wrap64 (((4 * t : Nat) : Int) + 1) = ((4 * t + 1 : Nat) : Int) := by rw [w64 (by omega) (by omega)]; omega
      have e6 : wrap64 (((4 * t : Nat) : Int) + 2) = ((4 * t + 2 : Nat) : Int) := by rw [w64 (by omega) (by omega)]; omega
      have e7 : wrap64 (((4 * t : Nat) : Int) + 3) = ((4 * t + 3 : Nat) : Int) := by rw [w64 (by omega) (by omega)]; omega
      rw [e4, e5, e6, e7, set_app _ d _ t hl]
      refine Ev.pos (by omega) (Ev.pos (by omega) (Ev.pos (by omega) (Ev.pos (by omega) (Ev.pos (by omega) (Ev.pos (by omega) (Ev.pos (by omega) (Ev.pos (by omega) (Ev.pos (by omega) (Ev.pos (by omega) (Ev.pos (by omega) ?_))))))))))
      have e : sch s (t + 1) = sch s t ++ [w0 s t] := by simp only [sch, schStep]; rw [if_pos h16]
      rw [e] at hn
      exact hn
    · have e3 : wrap64 ((t : Int) - 3) = ((t - 3 : Nat) : Int) := by rw [w64 (by omega) (by omega)]; omega
      have e8 : wrap64 ((t : Int) - 8) = ((t - 8 : Nat) : Int) := by rw [w64 (by omega) (by omega)]; omega
      have e14 : wrap64 ((t : Int) - 14) = ((t - 14 : Nat) : Int) := by rw [w64 (by omega) (by omega)]; omega
      have e16 : wrap64 ((t : Int) - 16) = ((t - 16 : Nat) : Int) := by rw [w64 (by omega) (by omega)]; omega
      rw [e3, e8, e14, e16, rd_app (show t - 3 < _ by omega), rd_app (show t - 8 < _ by omega), rd_app (show t - 14 < _ by omega), rd_app (show t - 16 < _ by omega)]
      have hx := xr_W (sch_W s t) t
      refine Ev.neg (by omega) (Ev.pos (by omega) (Ev.pos (by omega) (Ev.pos (by omega) (Ev.pos (by omega) (Ev.pos (by omega) (Ev.pos (by omega) (Ev.pos (by omega) (Ev.pos (by omega) (Ev.told (spec_rot (n := 1) hx.1 hx.2 (by omega)) (Ev.pos (by omega) (Ev.pos (by omega) ?_)))))))))))
      rw [set_app _ d _ t hl]
      have e : sch s (t + 1) = sch s t ++ [rot (xr (sch s t) t) 1] := by simp only [sch, schStep]; rw [if_neg h16]
      rw [e] at hn
      exact hn
theorem spec_sch (s : ByteArray) : Ev (fun k => spec_Schedule.f k s) (if s.size = 64 then sch s 80 else []) := by
  unfold spec_Schedule.f
  by_cases h : s.size = 64
  · rw [if_pos h]
    refine Ev.pos (by omega) (Ev.pos (by omega) ?_)
    have := spec_sch_l0 s h 80 0 (by omega)
    simpa [sch] using this
  · rw [if_neg h]; exact Ev.neg (by omega) (Ev.now _)

/-! Five words -/
def word (x : Int) : Bool := decide (0 ≤ x) && decide (x ≤ 4294967295)
theorem spec_word (x : Int) : spec_l3word.f x = some (word x) := by
  unfold spec_l3word.f word
  by_cases h : 0 ≤ x
  · rw [if_pos h]; simp [h]
  · rw [if_neg h]; simp [h]
theorem impl_within_word (x : Int) : impl_within.f x 0 4294967295 = some (word x) := by
  unfold impl_within.f word
  by_cases h : 0 ≤ x
  · rw [if_pos h]; simp [h]
  · rw [if_neg h]; simp [h]
theorem all_step (xs : List Int) (i : Nat) (h : i < xs.length) : (xs.drop i).all word = (word (rd xs (i : Int)) && (xs.drop (i + 1)).all word) := by
  rw [drop_cons h]; rfl
theorem spec_words_l0 (xs : List Int) (h5 : xs.length = 5) : ∀ (d i : Nat), i + d = 5 → Ev (fun k => spec_l3words.l0 k xs (i : Int)) ((xs.drop i).all word) := by
  intro d
  induction d with
  | zero =>
    intro i h
    refine Ev.step (fun k => spec_l3words.l0.eq_2 _ _ k) (Ev.neg (by omega) ?_)
    rw [List.drop_eq_nil_of_le (by omega)]; exact Ev.now _
  | succ d ih =>
    intro i h
    have hw : wrap64 ((i : Int) + 1) = ((i + 1 : Nat) : Int) := by rw [w64 (by omega) (by omega)]; omega
    refine Ev.step (fun k => spec_l3words.l0.eq_2 _ _ k) (Ev.pos (by omega) (Ev.pos (by omega) (Ev.pos (by omega) (Ev.told (spec_word _) ?_))))
    rw [all_step xs i (by omega)]
    cases hx : word (rd xs (i : Int)) with
    | true =>
      refine Ev.pos rfl ?_
      rw [hw, Bool.true_and]
      exact ih (i + 1) (by omega)
    | false => exact Ev.neg (by simp) (Ev.now _)
def wordsOk (xs : List Int) : Bool := decide (xs.length = 5) && xs.all word
theorem spec_words (xs : List Int) : Ev (fun k => spec_l3words.f k xs) (wordsOk xs) := by
  unfold spec_l3words.f wordsOk
  by_cases h5 : xs.length = 5
  · refine Ev.pos (by omega) ?_
    have := spec_words_l0 xs h5 5 0 (by omega)
    rw [decide_eq_true h5, Bool.true_and]
    simpa using this
  · refine Ev.neg (by omega) ?_
    rw [decide_eq_false h5, Bool.false_and]; exact Ev.now _
theorem impl_words_l0 (xs : List Int) (hb : xs.length ≤ 140737488355328) : ∀ (d i : Nat), i + d = xs.length → Ev (fun k => impl_areWords.l0 k xs (xs.length : Int) (i : Int)) ((xs.drop i).all word) := by
  intro d
  induction d with
  | zero =>
    intro i h
    refine Ev.step (fun k => impl_areWords.l0.eq_2 _ _ _ k) (Ev.neg (by omega) ?_)
    rw [List.drop_eq_nil_of_le (by omega)]; exact Ev.now _
  | succ d ih =>
    intro i h
    have hw : wrap64 ((i : Int) + 1) = ((i + 1 : Nat) : Int) := by rw [w64 (by omega) (by omega)]; omega
    refine Ev.step (fun k => impl_areWords.l0.eq_2 _ _ _ k) (Ev.pos (by omega) (Ev.pos (by omega) (Ev.pos (by omega) (Ev.told (impl_within_word _) ?_))))
    rw [all_step xs i (by omega)]
    cases hx : word (rd xs (i : Int)) with
    | true =>
      refine Ev.pos rfl ?_
      rw [hw, Bool.true_and]
      exact ih (i + 1) (by omega)
    | false => exact Ev.neg (by simp) (Ev.now _)
theorem impl_words (xs : List Int) : Ev (fun k => impl_areWords.f k xs 5) (wordsOk xs) := by
  unfold impl_areWords.f wordsOk
  by_cases h5 : xs.length = 5
  · refine Ev.pos (by omega) ?_
    have := impl_words_l0 xs (by omega) 5 0 (by omega)
    rw [decide_eq_true h5, Bool.true_and]
    simpa using this
  · refine Ev.neg (by omega) ?_
    rw [decide_eq_false h5, Bool.false_and]; exact Ev.now _

/-! A block mixed into five words -/
abbrev S5 := Int × Int × Int × Int × Int
def fT (t : Nat) (b c d : Int) : Int :=
  if t < 20 then Go.bits .or .i64 (Go.bits .and .i64 b c) (Go.bits .and .i64 (Go.bits .xor .i64 b 4294967295) d)
  else if 40 ≤ t ∧ t < 60 then Go.bits .or .i64 (Go.bits .or .i64 (Go.bits .and .i64 b c) (Go.bits .and .i64 b d)) (Go.bits .and .i64 c d)
  else Go.bits .xor .i64 (Go.bits .xor .i64 b c) d
def kT (t : Nat) : Int := if t < 20 then 1518500249 else if t < 40 then 1859775393 else if t < 60 then 2400959708 else 3395469782
def stepC (t : Nat) (w : Int) : S5 → S5
  | (a, b, c, d, e) => (Go.bits .and .i64 (wrap64 ((wrap64 ((wrap64 ((wrap64 (rot a 5 + fT t b c d)) + e)) + w)) + kT t)) 4294967295, a, rot b 30, c, d)
def runC (ws : List Int) : Nat → Nat → S5 → S5
  | 0, _, s => s
  | n + 1, t, s => runC ws n (t + 1) (stepC t (rd ws (t : Int)) s)
def W5 : S5 → Prop
  | (a, b, c, d, e) => W a ∧ W b ∧ W c ∧ W d ∧ W e
def fin5 (h : List Int) : S5 → List Int
  | (a, b, c, d, e) => [Go.bits .and .i64 (wrap64 ((rd h 0) + a)) 4294967295, Go.bits .and .i64 (wrap64 ((rd h 1) + b)) 4294967295, Go.bits .and .i64 (wrap64 ((rd h 2) + c)) 4294967295, Go.bits .and .i64 (wrap64 ((rd h 3) + d)) 4294967295, Go.bits .and .i64 (wrap64 ((rd h 4) + e)) 4294967295]
def comp (h : List Int) (s : ByteArray) : List Int := fin5 h (runC (sch s 80) 80 0 (rd h 0, rd h 1, rd h 2, rd h 3, rd h 4))
theorem fT_W (t : Nat) {b c d : Int} (hb : W b) (hc : W c) (hd : W d) : W (fT t b c d) := by
  unfold fT
  split
  · exact or_W (and_W hb hc) (and_W (xor_W hb mask_W) hd)
  · split
    · exact or_W (or_W (and_W hb hc) (and_W hb hd)) (and_W hc hd)
    · exact xor_W (xor_W hb hc) hd
theorem kT_W (t : Nat) : W (kT t) := by
  unfold kT
  split
  · exact ⟨by decide, by decide⟩
  · split
    · exact ⟨by decide, by decide⟩
    · split <;> exact ⟨by decide, by decide⟩
theorem sum_W {a b c d e : Int} (ha : W a) (hb : W b) (hc : W c) (hd : W d) (he : W e) : W (Go.bits .and .i64 (wrap64 ((wrap64 ((wrap64 ((wrap64 (a + b)) + c)) + d)) + e)) 4294967295) := by
  have h1 := ha.1; have h2 := ha.2; have h3 := hb.1; have h4 := hb.2; have h5 := hc.1; have h6 := hc.2; have h7 := hd.1; have h8 := hd.2; have h9 := he.1; have h10 := he.2
  rw [w64 (n := a + b) (by omega) (by omega), w64 (n := a + b + c) (by omega) (by omega), w64 (n := a + b + c + d) (by omega) (by omega), w64 (by omega) (by omega)]
  exact mask_any_W (by omega) (by omega)
theorem stepC_W (t : Nat) {w : Int} (hw : W w) {s : S5} (hs : W5 s) : W5 (stepC t w s) := by
  obtain ⟨a, b, c, d, e⟩ := s
  obtain ⟨ha, hb, hc, hd, he⟩ := hs
  exact ⟨sum_W (rot_W ha 5 (by omega)) (fT_W t hb hc hd) he hw (kT_W t), ha, rot_W hb 30 (by omega), hc, hd⟩
theorem runC_W {ws : List Int} (hw : ∀ x ∈ ws, W x) : ∀ (n t : Nat) (s : S5), W5 s → W5 (runC ws n t s) := by
  intro n
  induction n with
  | zero => intro t s h; exact h
  | succ n ih => intro t s h; exact ih _ _ (stepC_W t (rd_W hw _) h)
theorem add_W {a b : Int} (ha : W a) (hb : W b) : W (Go.bits .and .i64 (wrap64 (a + b)) 4294967295) := by
  have h1 := ha.1; have h2 := ha.2; have h3 := hb.1; have h4 := hb.2
  rw [w64 (by omega) (by omega)]
  exact mask_any_W (by omega) (by omega)
theorem comp_W {h : List Int} (hh : ∀ x ∈ h, W x) (s : ByteArray) : (comp h s).length = 5 ∧ ∀ x ∈ comp h s, W x := by
  unfold comp
  have hr := runC_W (sch_W s 80) 80 0 (rd h 0, rd h 1, rd h 2, rd h 3, rd h 4) ⟨rd_W hh _, rd_W hh _, rd_W hh _, rd_W hh _, rd_W hh _⟩
  generalize runC (sch s 80) 80 0 (rd h 0, rd h 1, rd h 2, rd h 3, rd h 4) = r at *
  obtain ⟨a, b, c, d, e⟩ := r
  obtain ⟨ha, hb, hc, hd, he⟩ := hr
  refine ⟨rfl, ?_⟩
  intro x hx
  simp only [fin5, List.mem_cons, List.not_mem_nil, or_false] at hx
  rcases hx with rfl | rfl | rfl | rfl | rfl
  · exact add_W (rd_W hh _) ha
  · exact add_W (rd_W hh _) hb
  · exact add_W (rd_W hh _) hc
  · exact add_W (rd_W hh _) hd
  · exact add_W (rd_W hh _) he
theorem wordsOk_iff {h : List Int} : wordsOk h = true ↔ h.length = 5 ∧ ∀ x ∈ h, W x := by
  unfold wordsOk
  rw [Bool.and_eq_true, decide_eq_true_eq, List.all_eq_true]
  constructor
  · rintro ⟨a, b⟩
    refine ⟨a, fun x hx => ?_⟩
    have := b x hx
    simp only [word, Bool.and_eq_true, decide_eq_true_eq] at this
    exact this
  · rintro ⟨a, b⟩
    refine ⟨a, fun x hx => ?_⟩
    have := b x hx
    simp only [word, Bool.and_eq_true, decide_eq_true_eq]
    exact this
def compR (h : List Int) (s : ByteArray) : List Int := if wordsOk h = true ∧ s.size = 64 then comp h s else []

theorem spec_fT (t : Nat) (ht : t < 80) (b c d : Int) : spec_l3f.f (t : Int) b c d = some (fT t b c d) := by
  have e : wrap64 (Int.tdiv (t : Int) 20) = ((t / 20 : Nat) : Int) := by
    rw [Int.tdiv_eq_ediv_of_nonneg (by omega), w64 (by omega) (by omega)]; omega
  unfold spec_l3f.f fT
  rw [e]
  by_cases h1 : t < 20
  · rw [if_pos (by omega), if_pos h1]
  · rw [if_neg (by omega), if_neg h1]
    by_cases h2 : 40 ≤ t ∧ t < 60
    · rw [if_pos (by omega), if_pos h2]
    · rw [if_neg (by omega), if_neg h2]
theorem spec_kT (t : Nat) (ht : t < 80) : spec_l3k.f (t : Int) = some (kT t) := by
  have e : wrap64 (Int.tdiv (t : Int) 20) = ((t / 20 : Nat) : Int) := by
    rw [Int.tdiv_eq_ediv_of_nonneg (by omega), w64 (by omega) (by omega)]; omega
  unfold spec_l3k.f kT
  rw [e]
  by_cases h1 : t < 20
  · rw [if_pos (by omega), if_pos h1]
  · rw [if_neg (by omega), if_neg h1]
    by_cases h2 : t < 40
    · rw [if_pos (by omega), if_pos h2]
    · rw [if_neg (by omega), if_neg h2]
      by_cases h3 : t < 60
      · rw [if_pos (by omega), if_pos h3]
      · rw [if_neg (by omega), if_neg h3]
theorem spec_comp_l0 (h ws : List Int) (h5 : h.length = 5) (hl : ws.length = 80) (hw : ∀ x ∈ ws, W x) : ∀ (n t : Nat) (a b c d e : Int), t + n = 80 → W5 (a, b, c, d, e) →
    Ev (fun k => spec_Compress.l0 k h ws a b c d e (t : Int)) (fin5 h (runC ws n t (a, b, c, d, e))) := by
  intro n
  induction n with
  | zero =>
    intro t a b c d e ht hs
    refine Ev.step (fun k => spec_Compress.l0.eq_2 _ _ _ _ _ _ _ _ k) (Ev.neg (by omega) (Ev.pos (by omega) (Ev.pos (by omega) (Ev.pos (by omega) (Ev.pos (by omega) (Ev.pos (by omega) ?_))))))
    exact Ev.now _
  | succ n ih =>
    intro t a b c d e ht hs
    have hw1 : wrap64 ((t : Int) + 1) = ((t + 1 : Nat) : Int) := by rw [w64 (by omega) (by omega)]; omega
    obtain ⟨ha, hb, hc, hd, he⟩ := hs
    have hn := stepC_W t (rd_W hw (t : Int)) (s := (a, b, c, d, e)) ⟨ha, hb, hc, hd, he⟩
    refine Ev.step (fun k => spec_Compress.l0.eq_2 _ _ _ _ _ _ _ _ k) (Ev.pos (by omega) (Ev.told (spec_rot (n := 5) ha.1 ha.2 (by omega)) (Ev.told (spec_fT t (by omega) _ _ _) (Ev.pos (by omega) (Ev.pos (by omega) (Ev.told (spec_kT t (by omega)) (Ev.told (spec_rot (n := 30) hb.1 hb.2 (by omega)) ?_)))))))
    rw [hw1]
    exact ih (t + 1) _ _ _ _ _ (by omega) hn
theorem spec_comp (h : List Int) (s : ByteArray) : Ev (fun k => spec_Compress.f k h s) (compR h s) := by
  have bad : Ev (fun k => spec_Compress.j0 k h s true) [] := Ev.step (fun k => spec_Compress.j0.eq_2 _ _ _ k) (Ev.pos rfl (Ev.now _))
  unfold spec_Compress.f compR
  refine Ev.bind (spec_words h) ?_
  by_cases hw : wordsOk h = true
  · refine Ev.pos hw ?_
    by_cases h64 : s.size = 64
    · rw [if_pos ⟨hw, h64⟩]
      have eb : ((s.size : Int) != 64) = false := by rw [bne_eq_false_iff_eq]; omega
      rw [eb]
      obtain ⟨h5, hW⟩ := wordsOk_iff.1 hw
      have hs := spec_sch s
      rw [if_pos h64] at hs
      refine Ev.step (fun k => spec_Compress.j0.eq_2 _ _ _ k) (Ev.neg (by simp) (Ev.bind hs (Ev.pos (by omega) (Ev.pos (by omega) (Ev.pos (by omega) (Ev.pos (by omega) (Ev.pos (by omega) ?_)))))))
      exact spec_comp_l0 h _ h5 (sch_length s 80) (sch_W s 80) 80 0 _ _ _ _ _ (by omega) ⟨rd_W hW _, rd_W hW _, rd_W hW _, rd_W hW _, rd_W hW _⟩
    · rw [if_neg (fun hh => h64 hh.2)]
      have eb : ((s.size : Int) != 64) = true := by rw [bne_iff_ne]; omega
      rw [eb]; exact bad
  · rw [if_neg (fun hh => hw hh.1)]
    exact Ev.neg hw bad

theorem impl_fin (h : List Int) (h5 : h.length = 5) (a b c d e : Int) : Ev (fun k => impl_Compress.l1 k h [a, b, c, d, e] 5 0) (fin5 h (a, b, c, d, e)) := by
  have e1 : wrap64 (0 + 1) = 1 := by exact w64 (by omega) (by omega)
  have e2 : wrap64 (1 + 1) = 2 := by exact w64 (by omega) (by omega)
  have e3 : wrap64 (2 + 1) = 3 := by exact w64 (by omega) (by omega)
  have e4 : wrap64 (3 + 1) = 4 := by exact w64 (by omega) (by omega)
  have e5 : wrap64 (4 + 1) = 5 := by exact w64 (by omega) (by omega)
  refine Ev.step (fun k => impl_Compress.l1.eq_2 _ _ _ _ k) (Ev.pos (by decide) (Ev.pos (by decide) (Ev.pos (by simp) (Ev.pos (by omega) ?_))))
  rw [e1]
  refine Ev.step (fun k => impl_Compress.l1.eq_2 _ _ _ _ k) (Ev.pos (by decide) (Ev.pos (by decide) (Ev.pos (by simp) (Ev.pos (by omega) ?_))))
  rw [e2]
  refine Ev.step (fun k => impl_Compress.l1.eq_2 _ _ _ _ k) (Ev.pos (by decide) (Ev.pos (by decide) (Ev.pos (by simp) (Ev.pos (by omega) ?_))))
  rw [e3]
  refine Ev.step (fun k => impl_Compress.l1.eq_2 _ _ _ _ k) (Ev.pos (by decide) (Ev.pos (by decide) (Ev.pos (by simp) (Ev.pos (by omega) ?_))))
  rw [e4]
  refine Ev.step (fun k => impl_Compress.l1.eq_2 _ _ _ _ k) (Ev.pos (by decide) (Ev.pos (by decide) (Ev.pos (by simp) (Ev.pos (by omega) ?_))))
  rw [e5]
  refine Ev.step (fun k => impl_Compress.l1.eq_2 _ _ _ _ k) (Ev.neg (by decide) ?_)
  have ef : fin5 h (a, b, c, d, e) = [Go.bits .and .i64 (wrap64 (a + (rd h 0))) 4294967295, Go.bits .and .i64 (wrap64 (b + (rd h 1))) 4294967295, Go.bits .and .i64 (wrap64 (c + (rd h 2))) 4294967295, Go.bits .and .i64 (wrap64 (d + (rd h 3))) 4294967295, Go.bits .and .i64 (wrap64 (e + (rd h 4))) 4294967295] := by
    unfold fin5
    rw [Int.add_comm a, Int.add_comm b, Int.add_comm c, Int.add_comm d, Int.add_comm e]
  rw [ef]
  exact Ev.now _
theorem impl_comp_l0 (h ws : List Int) (h5 : h.length = 5) (hl : ws.length = 80) (hw : ∀ x ∈ ws, W x) : ∀ (n t : Nat) (a b c d e : Int), t + n = 80 → W5 (a, b, c, d, e) →
    Ev (fun k => impl_Compress.l0 k h a b c d e ws (ws.length : Int) (t : Int)) (fin5 h (runC ws n t (a, b, c, d, e))) := by
  intro n
  induction n with
  | zero =>
    intro t a b c d e ht hs
    refine Ev.step (fun k => impl_Compress.l0.eq_2 _ _ _ _ _ _ _ _ _ k) (Ev.neg (by omega) (Ev.told rfl ?_))
    exact impl_fin h h5 a b c d e
  | succ n ih =>
    intro t a b c d e ht hs
    have hw1 : wrap64 ((t : Int) + 1) = ((t + 1 : Nat) : Int) := by exact w64 (by omega) (by omega)
    obtain ⟨ha, hb, hc, hd, he⟩ := hs
    have hn := stepC_W t (rd_W hw (t : Int)) (s := (a, b, c, d, e)) ⟨ha, hb, hc, hd, he⟩
    have hi := ih (t + 1) _ _ _ _ _ (by omega) hn
    have r5 := impl_rot (n := 5) ha.1 ha.2 (by omega)
    have r30 := impl_rot (n := 30) hb.1 hb.2 (by omega)
    refine Ev.step (fun k => impl_Compress.l0.eq_2 _ _ _ _ _ _ _ _ _ k) (Ev.pos (by omega) (Ev.pos (by omega) (Ev.pos (by omega) ?_)))
    rw [hw1]
    by_cases t1 : t < 20
    · refine Ev.pos (by omega) (Ev.told r5 (Ev.told r30 ?_))
      have ef : fT t b c d = Go.bits .or .i64 (Go.bits .and .i64 b c) (Go.bits .and .i64 (Go.bits .and .i64 (Go.bits .xor .i64 (-1) b) d) 4294967295) := by
        unfold fT; rw [if_pos t1, not_form hb hd]
      have ek : kT t = 1518500249 := by unfold kT; rw [if_pos t1]
      rw [← ef, ← ek]
      exact hi
    · refine Ev.neg (by omega) ?_
      by_cases t3 : 60 ≤ t
      · refine Ev.pos (by omega) (Ev.told r5 (Ev.told r30 ?_))
        have ef : fT t b c d = Go.bits .xor .i64 (Go.bits .xor .i64 b c) d := by
          unfold fT; rw [if_neg t1, if_neg (by omega)]
        have ek : kT t = 3395469782 := by unfold kT; rw [if_neg t1, if_neg (by omega), if_neg (by omega)]
        rw [← ef, ← ek]
        exact hi
      · refine Ev.neg (by omega) ?_
        by_cases t2 : 40 ≤ t
        · refine Ev.pos (by omega) (Ev.told r5 (Ev.told r30 ?_))
          have ef : fT t b c d = Go.bits .or .i64 (Go.bits .or .i64 (Go.bits .and .i64 b c) (Go.bits .and .i64 b d)) (Go.bits .and .i64 c d) := by
            unfold fT; rw [if_neg t1, if_pos (by omega)]
          have ek : kT t = 2400959708 := by unfold kT; rw [if_neg t1, if_neg (by omega), if_pos (by omega)]
          rw [← ef, ← ek]
          exact hi
        · refine Ev.neg (by omega) (Ev.told r5 (Ev.told r30 ?_))
          have ef : fT t b c d = Go.bits .xor .i64 (Go.bits .xor .i64 b c) d := by
            unfold fT; rw [if_neg t1, if_neg (by omega)]
          have ek : kT t = 1859775393 := by unfold kT; rw [if_neg t1, if_pos (by omega)]
          rw [← ef, ← ek]
          exact hi
theorem impl_comp (h : List Int) (s : ByteArray) : Ev (fun k => impl_Compress.f k h s) (compR h s) := by
  have bad : Ev (fun k => impl_Compress.j0 k h s true) [] := Ev.step (fun k => impl_Compress.j0.eq_2 _ _ _ k) (Ev.pos rfl (Ev.now _))
  unfold impl_Compress.f compR
  refine Ev.bind (impl_words h) ?_
  by_cases hw : wordsOk h = true
  · refine Ev.pos hw ?_
    by_cases h64 : s.size = 64
    · rw [if_pos ⟨hw, h64⟩]
      have eb : ((s.size : Int) != 64) = false := by rw [bne_eq_false_iff_eq]; omega
      rw [eb]
      obtain ⟨h5, hW⟩ := wordsOk_iff.1 hw
      have hs := impl_sch s
      rw [if_pos h64] at hs
      refine Ev.step (fun k => impl_Compress.j0.eq_2 _ _ _ k) (Ev.neg (by simp) (Ev.pos (by omega) (Ev.pos (by omega) (Ev.pos (by omega) (Ev.pos (by omega) (Ev.pos (by omega) (Ev.bind hs ?_)))))))
      exact impl_comp_l0 h _ h5 (sch_length s 80) (sch_W s 80) 80 0 _ _ _ _ _ (by omega) ⟨rd_W hW _, rd_W hW _, rd_W hW _, rd_W hW _, rd_W hW _⟩
    · rw [if_neg (fun hh => h64 hh.2)]
      have eb : ((s.size : Int) != 64) = true := by rw [bne_iff_ne]; omega
      rw [eb]; exact bad
  · rw [if_neg (fun hh => hw hh.1)]
    exact Ev.neg hw bad

def shaOk (h : List Int) (r : ByteArray) (n : Int) : Bool := wordsOk h && (decide (0 ≤ n) && (decide (n ≤ 999999999999999) && ((r.size : Int) == Int.tmod n 64)))
theorem spec_shaOk (h : List Int) (r : ByteArray) (n : Int) : Ev (fun k => spec_ShaOk.f k h r n) (shaOk h r n) := by
  unfold spec_ShaOk.f shaOk
  refine Ev.bind (spec_words h) ?_
  cases hw : wordsOk h with
  | false => exact Ev.neg (by simp) (Ev.now _)
  | true =>
    refine Ev.pos rfl ?_
    rw [Bool.true_and]
    by_cases h0 : 0 ≤ n
    · refine Ev.pos h0 ?_
      rw [decide_eq_true h0, Bool.true_and]
      by_cases h1 : n ≤ 999999999999999
      · refine Ev.pos h1 ?_
        rw [decide_eq_true h1, Bool.true_and]; exact Ev.now _
      · refine Ev.neg h1 ?_
        rw [decide_eq_false h1, Bool.false_and]; exact Ev.now _
    · refine Ev.neg h0 ?_
      rw [decide_eq_false h0, Bool.false_and]; exact Ev.now _
theorem impl_shaOk (h : List Int) (r : ByteArray) (n : Int) : Ev (fun k => impl_ShaOk.f k h r n) (shaOk h r n) := by
  unfold impl_ShaOk.f shaOk
  refine Ev.bind (impl_words h) ?_
  cases hw : wordsOk h with
  | false => exact Ev.neg (by simp) (Ev.now _)
  | true =>
    refine Ev.pos rfl ?_
    rw [Bool.true_and]
    unfold impl_within.f
    by_cases h0 : 0 ≤ n
    · rw [if_pos h0, decide_eq_true h0, Bool.true_and]
      by_cases h1 : n ≤ 999999999999999
      · rw [decide_eq_true h1, Bool.true_and]; exact Ev.told rfl (Ev.pos rfl (Ev.now _))
      · rw [decide_eq_false h1, Bool.false_and]; exact Ev.told rfl (Ev.neg (by simp) (Ev.now _))
    · rw [if_neg h0, decide_eq_false h0, Bool.false_and]; exact Ev.told rfl (Ev.neg (by simp) (Ev.now _))

/-! Bytes that come in; the end -/
def compL (h l : List Int) : List Int := comp h (strOfNums l)
def blocks : Nat → List Int → List Int → List Int
  | 0, h, _ => h
  | n + 1, h, l => blocks n (compL h (l.take 64)) (l.drop 64)
def be : Nat → Int → List Int
  | 0, _ => []
  | c + 1, n => n / 2 ^ (8 * c) % 256 :: be c n
def digest (h : List Int) : List Int := (h.map (be 4)).flatten
def padded (r : List Int) (n : Int) : List Int := r ++ (128 :: (List.replicate ((119 - r.length) % 64) 0 ++ be 8 (8 * n)))
def endM (h r : List Int) (n : Int) : List Int := digest (blocks ((padded r n).length / 64) h (padded r n))
def Byte (x : Int) : Prop := 0 ≤ x ∧ x < 256
def H5 (h : List Int) : Prop := h.length = 5 ∧ ∀ x ∈ h, W x
theorem compL_H5 {h : List Int} (hh : H5 h) (l : List Int) : H5 (compL h l) := comp_W hh.2 _
theorem blocks_H5 : ∀ (n : Nat) (h l : List Int), H5 h → H5 (blocks n h l) := by
  intro n
  induction n with
  | zero => intro h l hh; exact hh
  | succ n ih => intro h l hh; exact ih _ _ (compL_H5 hh _)
theorem compR_64 {h : List Int} (hh : H5 h) {s : ByteArray} (h64 : s.size = 64) : compR h s = compL h (bytesOf s) := by
  unfold compR compL
  rw [if_pos ⟨wordsOk_iff.2 hh, h64⟩, strOf_bytes]
theorem be_length (c : Nat) (n : Int) : (be c n).length = c := by
  induction c with
  | zero => rfl
  | succ c ih => simp [be, ih]
theorem be_bytes (c : Nat) (n : Int) : ∀ x ∈ be c n, Byte x := by
  induction c with
  | zero => intro x hx; cases hx
  | succ c ih =>
    intro x hx
    simp only [be, List.mem_cons] at hx
    rcases hx with rfl | hx
    · exact ⟨Int.emod_nonneg _ (by decide), Int.emod_lt_of_pos _ (by decide)⟩
    · exact ih x hx
theorem digest_bytes (h : List Int) : ∀ x ∈ digest h, Byte x := by
  intro x hx
  simp only [digest, List.mem_flatten, List.mem_map] at hx
  obtain ⟨l, ⟨y, _, rfl⟩, hx⟩ := hx
  exact be_bytes 4 y x hx
theorem digest_length {h : List Int} (hh : h.length = 5) : (digest h).length = 20 := by
  obtain ⟨a, b, c, d, e, rfl⟩ : ∃ a b c d e, h = [a, b, c, d, e] := by
    match h, hh with
    | [a, b, c, d, e], _ => exact ⟨a, b, c, d, e, rfl⟩
  simp [digest, be_length]
theorem padded_bytes {r : List Int} (hr : ∀ x ∈ r, Byte x) (n : Int) : ∀ x ∈ padded r n, Byte x := by
  intro x hx
  simp only [padded, List.mem_append, List.mem_cons, List.mem_replicate] at hx
  rcases hx with hx | rfl | ⟨_, rfl⟩ | hx
  · exact hr x hx
  · exact ⟨by decide, by decide⟩
  · exact ⟨by decide, by decide⟩
  · exact be_bytes _ _ x hx
theorem padded_length (r : List Int) (n : Int) (h : r.length < 64) : (padded r n).length % 64 = 0 ∧ (padded r n).length = r.length + 9 + (119 - r.length) % 64 := by
  simp only [padded, List.length_append, List.length_cons, List.length_replicate, be_length]
  omega
theorem shr_int (x : Int) (a : Nat) (h : a ≤ 64) : shr .i64 x (a : Int) = x / 2 ^ a := by
  unfold shr
  rw [Int.toNat_natCast, Nat.min_eq_left (by simpa [IntKind.bits] using h)]
theorem blocks_add : ∀ (n m : Nat) (h l : List Int), blocks (n + m) h l = blocks m (blocks n h l) (l.drop (64 * n)) := by
  intro n
  induction n with
  | zero => intro m h l; simp [blocks]
  | succ n ih =>
    intro m h l
    rw [show n + 1 + m = (n + m) + 1 by omega]
    simp only [blocks]
    rw [ih, List.drop_drop]
    congr 2
    omega
theorem blocks_take : ∀ (n : Nat) (h l l2 : List Int), 64 * n ≤ l.length → blocks n h (l ++ l2) = blocks n h l := by
  intro n
  induction n with
  | zero => intro h l l2 _; rfl
  | succ n ih =>
    intro h l l2 hl
    simp only [blocks]
    rw [List.take_append_of_le_length (by omega), List.drop_append_of_le_length (by omega), ih _ _ _ (by simp; omega)]
def addB (h r b : List Int) : List Int := blocks ((r ++ b).length / 64) h (r ++ b)
def addR (r b : List Int) : List Int := (r ++ b).drop (64 * ((r ++ b).length / 64))
theorem addR_length (r b : List Int) : (addR r b).length = (r.length + b.length) % 64 := by
  simp only [addR, List.length_drop, List.length_append]
  omega
theorem add_stream (h r b c : List Int) : addB (addB h r b) (addR r b) c = addB h r (b ++ c) ∧ addR (addR r b) c = addR r (b ++ c) := by
  have hd : (r ++ (b ++ c)).drop (64 * ((r ++ b).length / 64)) = addR r b ++ c := by
    rw [← List.append_assoc, List.drop_append_of_le_length (by omega)]; rfl
  have hl : (r ++ (b ++ c)).length / 64 = (r ++ b).length / 64 + (addR r b ++ c).length / 64 := by
    rw [show (addR r b ++ c).length = (addR r b).length + c.length from List.length_append, addR_length]
    simp only [List.length_append]
    omega
  constructor
  · unfold addB
    rw [hl, blocks_add, hd]
    congr 1
    rw [← List.append_assoc]
    exact (blocks_take _ h (r ++ b) c (by omega)).symm
  · unfold addR
    rw [hl, Nat.mul_add, ← List.drop_drop, hd]
    rfl

def addOk (h : List Int) (r : ByteArray) (n : Int) (b : ByteArray) : Bool := shaOk h r n && decide ((b.size : Int) ≤ 999999999999999 - n)
def shaAdd (h : List Int) (r : ByteArray) (n : Int) (b : ByteArray) : List Int × ByteArray × Int :=
  if addOk h r n b = true then (addB h (bytesOf r) (bytesOf b), strOfNums (addR (bytesOf r) (bytesOf b)), n + (b.size : Int)) else ([], ⟨#[]⟩, 0)
theorem shaOk_iff {h : List Int} {r : ByteArray} {n : Int} : shaOk h r n = true ↔ H5 h ∧ 0 ≤ n ∧ n ≤ 999999999999999 ∧ (r.size : Int) = n % 64 := by
  unfold shaOk
  simp only [Bool.and_eq_true, decide_eq_true_eq, beq_iff_eq]
  constructor
  · rintro ⟨a, b, c, d⟩
    rw [Int.tmod_eq_emod_of_nonneg b] at d
    exact ⟨wordsOk_iff.1 a, b, c, d⟩
  · rintro ⟨a, b, c, d⟩
    rw [Int.tmod_eq_emod_of_nonneg b]
    exact ⟨wordsOk_iff.2 a, b, c, d⟩

theorem strOf_size (l : List Int) : (strOfNums l).size = l.length := size_strOf l
def shaEnd (h : List Int) (r : ByteArray) (n : Int) : ByteArray := if shaOk h r n = true then strOfNums (endM h (bytesOf r) n) else ⟨#[]⟩

theorem impl_add_l0 : ∀ (m : Nat) (s : ByteArray) (h : List Int) (n : Int), s.size / 64 = m → H5 h → s.size ≤ 9223372036854775807 →
    Ev (fun k => impl_ShaAdd.l0 k h s n) (blocks m h (bytesOf s), strOfNums ((bytesOf s).drop (64 * m)), n) := by
  intro m
  induction m with
  | zero =>
    intro s h n hm hh hb
    refine Ev.step (fun k => impl_ShaAdd.l0.eq_2 _ _ _ k) (Ev.neg (by omega) ?_)
    have e : strOfNums ((bytesOf s).drop (64 * 0)) = s := by simp [strOf_bytes]
    rw [e]
    exact Ev.now _
  | succ m ih =>
    intro s h n hm hh hb
    have hc := impl_comp h (s.extract 0 64)
    rw [compR_64 hh (by rw [size_extract _ _ _ (by omega)]), bytes_head] at hc
    refine Ev.step (fun k => impl_ShaAdd.l0.eq_2 _ _ _ k) (Ev.pos (by omega) (Ev.pos (by decide) (Ev.pos (by omega) (Ev.bind hc ?_))))
    have h2 := ih (s.extract 64 s.size) (compL h ((bytesOf s).take 64)) n (by rw [size_extract _ _ _ (by omega)]; omega) (compL_H5 hh _) (by rw [size_extract _ _ _ (by omega)]; omega)
    rw [bytes_to_end, List.drop_drop, show 64 + 64 * m = 64 * (m + 1) by omega] at h2
    exact h2
theorem impl_add (h : List Int) (r : ByteArray) (n : Int) (b : ByteArray) (hb : b.size ≤ 140737488351232) : Ev (fun k => impl_ShaAdd.f k h r n b) (shaAdd h r n b) := by
  have bad : Ev (fun k => impl_ShaAdd.j0 k b true h r n) ([], ⟨#[]⟩, 0) := Ev.step (fun k => impl_ShaAdd.j0.eq_2 _ _ _ _ _ k) (Ev.pos rfl (Ev.now _))
  unfold impl_ShaAdd.f shaAdd addOk
  refine Ev.bind (impl_shaOk h r n) ?_
  cases ho : shaOk h r n with
  | false => exact Ev.neg (by simp) (by simpa using bad)
  | true =>
    obtain ⟨hh, n0, n1, hr⟩ := shaOk_iff.1 ho
    refine Ev.pos rfl ?_
    rw [w64 (n := 999999999999999 - n) (by omega) (by omega), Bool.true_and]
    by_cases hf : (b.size : Int) ≤ 999999999999999 - n
    · rw [if_pos (decide_eq_true hf), decide_eq_false (by omega)]
      have hw : wrap64 (n + (b.size : Int)) = n + (b.size : Int) := w64 (by omega) (by omega)
      have hsz : (r ++ b).size = r.size + b.size := by rw [← bytesOf_length, bytes_append]; simp [bytesOf_length]
      refine Ev.step (fun k => impl_ShaAdd.j0.eq_2 _ _ _ _ _ k) (Ev.neg (by simp) (Ev.told rfl (Ev.pos (by have := hh.1; simp; omega) (Ev.pos (by omega) ?_))))
      rw [hw, List.nil_append]
      have h2 := impl_add_l0 _ (r ++ b) h (n + (b.size : Int)) rfl hh (by omega)
      unfold addB addR
      rw [← bytes_append, bytesOf_length]
      exact h2
    · rw [if_neg (by simpa using hf), decide_eq_true (by omega)]
      exact bad

theorem impl_be_l0 (n : Int) (h0 : 0 ≤ n) : ∀ (c : Nat) (out : List Int), c ≤ 8 → out.length + c ≤ 100 → Ev (fun k => impl_bigEndian.l0 k n out (8 * ((c : Int) - 1))) (strOfNums (out ++ be c n)) := by
  intro c
  induction c with
  | zero =>
    intro out hc ho
    refine Ev.step (fun k => impl_bigEndian.l0.eq_2 _ _ _ k) (Ev.neg (by omega) ?_)
    simp only [be, List.append_nil]
    exact Ev.now _
  | succ c ih =>
    intro out hc ho
    have e1 : 8 * (((c + 1 : Nat) : Int) - 1) = ((8 * c : Nat) : Int) := by omega
    have e2 : wrap64 (((8 * c : Nat) : Int) - 8) = 8 * ((c : Int) - 1) := by rw [w64 (by omega) (by omega)]; omega
    refine Ev.step (fun k => impl_bigEndian.l0.eq_2 _ _ _ k) ?_
    rw [e1, e2, shr_int n _ (by omega)]
    refine Ev.pos (by omega) (Ev.pos (by omega) (Ev.pos (by omega) ?_))
    have h := fun ho2 => ih (out ++ [n / 2 ^ (8 * c) % 256]) (by omega) ho2
    simp only [be]
    rw [List.append_assoc] at h
    exact h (by simp; omega)
theorem impl_be (n : Int) (h0 : 0 ≤ n) (c : Nat) (hc : c ≤ 8) : Ev (fun k => impl_bigEndian.f k n (c : Int)) (strOfNums (be c n)) := by
  unfold impl_bigEndian.f
  have e : wrap64 (8 * wrap64 ((c : Int) - 1)) = 8 * ((c : Int) - 1) := by rw [w64 (n := (c : Int) - 1) (by omega) (by omega), w64 (by omega) (by omega)]
  rw [e]
  have := impl_be_l0 n h0 c [] hc (by simp; omega)
  simpa using this
theorem impl_end_l2 (h : List Int) (hh : H5 h) : ∀ (d i : Nat) (out : List Int), i + d = 5 → out.length = 4 * i → Ev (fun k => impl_ShaEnd.l2 k (strOfNums out) h (h.length : Int) (i : Int)) (strOfNums (out ++ digest (h.drop i))) := by
  have h5 := hh.1
  intro d
  induction d with
  | zero =>
    intro i out hi ho
    refine Ev.step (fun k => impl_ShaEnd.l2.eq_2 _ _ _ _ k) (Ev.neg (by omega) ?_)
    rw [List.drop_eq_nil_of_le (by omega)]
    simp only [digest, List.map_nil, List.flatten_nil, List.append_nil]
    exact Ev.now _
  | succ d ih =>
    intro i out hi ho
    have hw : wrap64 ((i : Int) + 1) = ((i + 1 : Nat) : Int) := by rw [w64 (by omega) (by omega)]; omega
    have hr := rd_W hh.2 (i : Int)
    refine Ev.step (fun k => impl_ShaEnd.l2.eq_2 _ _ _ _ k) (Ev.pos (by omega) (Ev.pos (by omega) (Ev.pos (by omega) (Ev.bind (impl_be (rd h (i : Int)) hr.1 4 (by omega)) (Ev.pos (by rw [strOf_size, strOf_size, be_length]; omega) ?_)))))
    rw [hw, strOf_append]
    have h2 := ih (i + 1) (out ++ be 4 (rd h (i : Int))) (by omega) (by simp [be_length]; omega)
    have e : digest (h.drop i) = be 4 (rd h (i : Int)) ++ digest (h.drop (i + 1)) := by
      rw [drop_cons (by omega)]; rfl
    rw [e, ← List.append_assoc]
    exact h2
theorem impl_end_l1 : ∀ (m : Nat) (s : ByteArray) (h : List Int), s.size = 64 * m → s.size ≤ 9223372036854775807 → H5 h →
    Ev (fun k => impl_ShaEnd.l1 k s h) (strOfNums (digest (blocks m h (bytesOf s)))) := by
  intro m
  induction m with
  | zero =>
    intro s h hm hb hh
    refine Ev.step (fun k => impl_ShaEnd.l1.eq_2 _ _ k) (Ev.pos (toList_nil_size.mpr (by omega)) ?_)
    have := impl_end_l2 h hh 5 0 [] (by omega) rfl
    rw [nil_str]
    simpa [blocks] using this
  | succ m ih =>
    intro s h hm hb hh
    have hc := impl_comp h (s.extract 0 64)
    rw [compR_64 hh (by rw [size_extract _ _ _ (by omega)]), bytes_head] at hc
    refine Ev.step (fun k => impl_ShaEnd.l1.eq_2 _ _ k) (Ev.neg (fun hn => by have := toList_nil_size.mp hn; omega) (Ev.pos (by decide) (Ev.pos (by omega) (Ev.bind hc ?_))))
    have h2 := ih (s.extract 64 s.size) (compL h ((bytesOf s).take 64)) (by rw [size_extract _ _ _ (by omega)]; omega) (by rw [size_extract _ _ _ (by omega)]; omega) (compL_H5 hh _)
    rw [bytes_to_end] at h2
    exact h2
theorem impl_end_l0 (h : List Int) (hh : H5 h) (r : List Int) (hr : ∀ x ∈ r, Byte x) (hl : r.length < 64) (n : Int) (n0 : 0 ≤ n) (n1 : n ≤ 999999999999999) (r0 : ByteArray) :
    ∀ (d j : Nat), j + d = (119 - r.length) % 64 → Ev (fun k => impl_ShaEnd.l0 k (strOfNums (r ++ 128 :: List.replicate j 0)) h r0 n) (strOfNums (endM h r n)) := by
  have hp := padded_length r n hl
  intro d
  induction d with
  | zero =>
    intro j hj
    have e8 : wrap64 (8 * n) = 8 * n := w64 (by omega) (by omega)
    have hz : (strOfNums (r ++ 128 :: List.replicate j 0)).size = r.length + 1 + j := by rw [strOf_size]; simp; omega
    refine Ev.step (fun k => impl_ShaEnd.l0.eq_2 _ _ _ _ k) (Ev.pos (by rw [hz]; omega) ?_)
    rw [e8]
    refine Ev.bind (impl_be (8 * n) (by omega) 8 (by omega)) (Ev.pos (by rw [hz, strOf_size, be_length]; omega) ?_)
    rw [strOf_append]
    have e : r ++ 128 :: List.replicate j 0 ++ be 8 (8 * n) = padded r n := by
      unfold padded
      rw [show j = (119 - r.length) % 64 by omega]; simp
    rw [e]
    have h2 := impl_end_l1 ((padded r n).length / 64) (strOfNums (padded r n)) h (by rw [strOf_size]; omega) (by rw [strOf_size]; omega) hh
    rw [bytes_strOf (padded_bytes hr n)] at h2
    exact h2
  | succ d ih =>
    intro j hj
    have hz : (strOfNums (r ++ 128 :: List.replicate j 0)).size = r.length + 1 + j := by rw [strOf_size]; simp; omega
    refine Ev.step (fun k => impl_ShaEnd.l0.eq_2 _ _ _ _ k) (Ev.neg (by rw [hz]; omega) (Ev.pos (by rw [hz]; omega) ?_))
    have e : strOfNums (r ++ 128 :: List.replicate j 0) ++ (⟨#[0]⟩ : ByteArray) = strOfNums (r ++ 128 :: List.replicate (j + 1) 0) := by
      rw [show (⟨#[0]⟩ : ByteArray) = strOfNums [0] from rfl, strOf_append]
      congr 1
      rw [List.replicate_succ']
      simp
    rw [e]
    exact ih (j + 1) (by omega)
theorem impl_end (h : List Int) (r : ByteArray) (n : Int) : Ev (fun k => impl_ShaEnd.f k h r n) (shaEnd h r n) := by
  unfold impl_ShaEnd.f shaEnd
  refine Ev.bind (impl_shaOk h r n) ?_
  cases ho : shaOk h r n with
  | false => rw [if_neg (by simp)]; exact Ev.neg (by simp) (Ev.now _)
  | true =>
    obtain ⟨hh, n0, n1, hr⟩ := shaOk_iff.1 ho
    rw [if_pos rfl]
    refine Ev.pos rfl (Ev.pos (by omega) ?_)
    have e : r ++ (⟨#[128]⟩ : ByteArray) = strOfNums (bytesOf r ++ 128 :: List.replicate 0 0) := by
      conv => lhs; rw [← strOf_bytes r]
      rw [show (⟨#[128]⟩ : ByteArray) = strOfNums [128] from rfl, strOf_append]; rfl
    rw [e]
    exact impl_end_l0 h hh (bytesOf r) (fun x hx => bytes_lt hx) (by rw [bytesOf_length]; omega) n n0 n1 r _ 0 (Nat.zero_add _)

theorem spec_add_l0 (b : ByteArray) (h0 : List Int) (r0 : ByteArray) (n0 : Int) (s : ByteArray) (hb : s.size ≤ 4611686018427387904) : ∀ (m j : Nat) (h : List Int), s.size / 64 = j + m → H5 h →
    Ev (fun k => spec_ShaAdd.l0 k b h s ((64 * j : Nat) : Int) h0 r0 n0) (blocks m h ((bytesOf s).drop (64 * j)), strOfNums ((bytesOf s).drop (64 * (j + m))), wrap64 (n0 + (b.size : Int))) := by
  intro m
  induction m with
  | zero =>
    intro j h hm hh
    have e1 : wrap64 ((s.size : Int) - ((64 * j : Nat) : Int)) = (s.size : Int) - ((64 * j : Nat) : Int) := w64 (by omega) (by omega)
    refine Ev.step (fun k => spec_ShaAdd.l0.eq_2 _ _ _ _ _ _ _ k) ?_
    rw [e1]
    refine Ev.neg (by omega) (Ev.pos (by omega) (Ev.pos (by omega) ?_))
    rw [Int.toNat_natCast]
    have e : strOfNums ((bytesOf s).drop (64 * (j + 0))) = s.extract (64 * j) s.size := by
      rw [Nat.add_zero, ← bytes_to_end, strOf_bytes]
    rw [e]
    exact Ev.now _
  | succ m ih =>
    intro j h hm hh
    have e1 : wrap64 ((s.size : Int) - ((64 * j : Nat) : Int)) = (s.size : Int) - ((64 * j : Nat) : Int) := w64 (by omega) (by omega)
    have e2 : wrap64 (((64 * j : Nat) : Int) + 64) = ((64 * (j + 1) : Nat) : Int) := by rw [w64 (by omega) (by omega)]; omega
    have hc := spec_comp h (s.extract (64 * j) (64 * (j + 1)))
    rw [compR_64 hh (by rw [size_extract _ _ _ (by omega)]; omega), bytes_extract, show 64 * (j + 1) - 64 * j = 64 by omega] at hc
    refine Ev.step (fun k => spec_ShaAdd.l0.eq_2 _ _ _ _ _ _ _ k) ?_
    rw [e1, e2, Int.toNat_natCast, Int.toNat_natCast]
    refine Ev.pos (by omega) (Ev.pos (by omega) (Ev.pos (by omega) (Ev.pos (by omega) (Ev.bind hc ?_))))
    have h2 := ih (j + 1) (compL h (((bytesOf s).drop (64 * j)).take 64)) (by omega) (compL_H5 hh _)
    rw [show j + 1 + m = j + (m + 1) by omega] at h2
    simp only [blocks]
    rw [List.drop_drop, show 64 * j + 64 = 64 * (j + 1) by omega]
    exact h2
theorem spec_add (h : List Int) (r : ByteArray) (n : Int) (b : ByteArray) (hb : b.size ≤ 140737488351232) : Ev (fun k => spec_ShaAdd.f k h r n b) (shaAdd h r n b) := by
  have bad : Ev (fun k => spec_ShaAdd.j0 k b true h r n) ([], ⟨#[]⟩, 0) := Ev.step (fun k => spec_ShaAdd.j0.eq_2 _ _ _ _ _ k) (Ev.pos rfl (Ev.now _))
  unfold spec_ShaAdd.f shaAdd addOk
  refine Ev.bind (spec_shaOk h r n) ?_
  cases ho : shaOk h r n with
  | false => exact Ev.neg (by simp) (by simpa using bad)
  | true =>
    obtain ⟨hh, n0, n1, hr⟩ := shaOk_iff.1 ho
    refine Ev.pos rfl ?_
    rw [w64 (n := 999999999999999 - n) (by omega) (by omega), Bool.true_and]
    by_cases hf : (b.size : Int) ≤ 999999999999999 - n
    · rw [if_pos (decide_eq_true hf), decide_eq_false (by omega)]
      have hw : wrap64 (n + (b.size : Int)) = n + (b.size : Int) := w64 (by omega) (by omega)
      have hsz : (r ++ b).size = r.size + b.size := by rw [← bytesOf_length, bytes_append]; simp [bytesOf_length]
      refine Ev.step (fun k => spec_ShaAdd.j0.eq_2 _ _ _ _ _ k) (Ev.neg (by simp) (Ev.told rfl (Ev.pos (by have := hh.1; simp; omega) (Ev.pos (by omega) ?_))))
      rw [List.nil_append]
      have h2 := spec_add_l0 b h r n (r ++ b) (by omega) ((r ++ b).size / 64) 0 h (by omega) hh
      rw [hw] at h2
      unfold addB addR
      rw [← bytes_append, bytesOf_length]
      simpa using h2
    · rw [if_neg (by simpa using hf), decide_eq_true (by omega)]
      exact bad

theorem spec_end_l3 (h : List Int) (hh : H5 h) : ∀ (d i : Nat) (out : List Int), i + d = 5 → out.length = 4 * i → Ev (fun k => spec_ShaEnd.l3 k h out (i : Int)) (strOfNums (out ++ digest (h.drop i))) := by
  have h5 := hh.1
  intro d
  induction d with
  | zero =>
    intro i out hi ho
    refine Ev.step (fun k => spec_ShaEnd.l3.eq_2 _ _ _ k) (Ev.neg (by omega) ?_)
    rw [List.drop_eq_nil_of_le (by omega)]
    simp only [digest, List.map_nil, List.flatten_nil, List.append_nil]
    exact Ev.now _
  | succ d ih =>
    intro i out hi ho
    have hw : wrap64 ((i : Int) + 1) = ((i + 1 : Nat) : Int) := by rw [w64 (by omega) (by omega)]; omega
    have eb : [rd h (i : Int) / 16777216 % 256, rd h (i : Int) / 65536 % 256, rd h (i : Int) / 256 % 256, rd h (i : Int) % 256] = be 4 (rd h (i : Int)) := by
      simp only [be]
      congr 3
      simp
    refine Ev.step (fun k => spec_ShaEnd.l3.eq_2 _ _ _ k) (Ev.pos (by omega) (Ev.pos (by omega) (Ev.pos (by omega) ?_)))
    rw [eb]
    refine Ev.told rfl (Ev.pos (by rw [be_length]; omega) ?_)
    rw [hw]
    have h2 := ih (i + 1) (out ++ be 4 (rd h (i : Int))) (by omega) (by simp [be_length]; omega)
    have e : digest (h.drop i) = be 4 (rd h (i : Int)) ++ digest (h.drop (i + 1)) := by
      rw [drop_cons (by omega)]; rfl
    rw [e, ← List.append_assoc]
    exact h2
theorem spec_end_l2 (s : ByteArray) (hb : s.size ≤ 4611686018427387904) : ∀ (m j : Nat) (h : List Int), s.size = 64 * (j + m) → H5 h →
    Ev (fun k => spec_ShaEnd.l2 k s h ((64 * j : Nat) : Int)) (strOfNums (digest (blocks m h ((bytesOf s).drop (64 * j))))) := by
  intro m
  induction m with
  | zero =>
    intro j h hm hh
    refine Ev.step (fun k => spec_ShaEnd.l2.eq_2 _ _ _ k) (Ev.neg (by omega) ?_)
    have := spec_end_l3 h hh 5 0 [] (by omega) rfl
    simpa [blocks] using this
  | succ m ih =>
    intro j h hm hh
    have e2 : wrap64 (((64 * j : Nat) : Int) + 64) = ((64 * (j + 1) : Nat) : Int) := by rw [w64 (by omega) (by omega)]; omega
    have hc := spec_comp h (s.extract (64 * j) (64 * (j + 1)))
    rw [compR_64 hh (by rw [size_extract _ _ _ (by omega)]; omega), bytes_extract, show 64 * (j + 1) - 64 * j = 64 by omega] at hc
    refine Ev.step (fun k => spec_ShaEnd.l2.eq_2 _ _ _ k) ?_
    rw [e2, Int.toNat_natCast, Int.toNat_natCast]
    refine Ev.pos (by omega) (Ev.pos (by omega) (Ev.pos (by omega) (Ev.pos (by omega) (Ev.bind hc ?_))))
    have h2 := ih (j + 1) (compL h (((bytesOf s).drop (64 * j)).take 64)) (by omega) (compL_H5 hh _)
    simp only [blocks]
    rw [List.drop_drop, show 64 * j + 64 = 64 * (j + 1) by omega]
    exact h2
theorem spec_end_l1 (h : List Int) (hh : H5 h) (r : ByteArray) (hl : r.size < 64) (n : Int) (n0 : 0 ≤ n) (n1 : n ≤ 999999999999999) : ∀ (c : Nat) (out : List Int), c ≤ 8 →
    out ++ be c (8 * n) = 128 :: (List.replicate ((119 - r.size) % 64) 0 ++ be 8 (8 * n)) → Ev (fun k => spec_ShaEnd.l1 k out (8 * n) ((c : Int) - 1) h r n) (strOfNums (endM h (bytesOf r) n)) := by
  have hp := padded_length (bytesOf r) n (by rw [bytesOf_length]; exact hl)
  have hbr : ∀ x ∈ bytesOf r, Byte x := fun x hx => bytes_lt hx
  intro c
  induction c with
  | zero =>
    intro out hc he
    rw [show be 0 (8 * n) = [] from rfl, List.append_nil] at he
    have e : r ++ strOfNums out = strOfNums (padded (bytesOf r) n) := by
      conv => lhs; rw [← strOf_bytes r]
      rw [strOf_append, he]
      unfold padded
      rw [bytesOf_length]
    have hz : (r ++ strOfNums out).size = (padded (bytesOf r) n).length := by rw [e, strOf_size]
    have hz2 : r.size + (strOfNums out).size = (padded (bytesOf r) n).length := by
      rw [← hz, ← bytesOf_length, ← bytesOf_length, ← bytesOf_length, bytes_append, List.length_append]
    rw [bytesOf_length] at hp
    refine Ev.step (fun k => spec_ShaEnd.l1.eq_2 _ _ _ _ _ _ k) (Ev.neg (by omega) (Ev.pos (by omega) (Ev.told rfl (Ev.pos (by have := hh.1; simp; omega) ?_))))
    rw [List.nil_append, e]
    have h2 := spec_end_l2 (strOfNums (padded (bytesOf r) n)) (by rw [strOf_size]; omega) ((padded (bytesOf r) n).length / 64) 0 h (by rw [strOf_size]; omega) hh
    rw [bytes_strOf (padded_bytes hbr n)] at h2
    show Ev _ (strOfNums (digest (blocks ((padded (bytesOf r) n).length / 64) h (padded (bytesOf r) n))))
    simpa using h2
  | succ c ih =>
    intro out hc he
    have hlen : out.length ≤ 200 := by
      have := congrArg List.length he
      simp [be_length] at this
      omega
    have e1 : ((c + 1 : Nat) : Int) - 1 = (c : Int) := by omega
    have e2 : wrap64 (8 * (c : Int)) = ((8 * c : Nat) : Int) := by rw [w64 (by omega) (by omega)]; omega
    have e3 : wrap64 ((c : Int) - 1) = (c : Int) - 1 := w64 (by omega) (by omega)
    refine Ev.step (fun k => spec_ShaEnd.l1.eq_2 _ _ _ _ _ _ k) ?_
    rw [e1, e2, e3, shr_int _ _ (by omega)]
    refine Ev.pos (by omega) (Ev.pos (by omega) (Ev.pos (by omega) ?_))
    refine ih _ (by omega) ?_
    rw [← he]
    simp [be]
theorem spec_end_l0 (h : List Int) (hh : H5 h) (r : ByteArray) (hl : r.size < 64) (n : Int) (n0 : 0 ≤ n) (n1 : n ≤ 999999999999999) :
    ∀ (d j : Nat), j + d = (119 - r.size) % 64 → Ev (fun k => spec_ShaEnd.l0 k (128 :: List.replicate j 0) h r n) (strOfNums (endM h (bytesOf r) n)) := by
  intro d
  induction d with
  | zero =>
    intro j hj
    have e8 : wrap64 (8 * n) = 8 * n := w64 (by omega) (by omega)
    have hz : ((128 : Int) :: List.replicate j 0).length = j + 1 := by simp
    have ew : wrap64 ((r.size : Int) + ((((128 : Int) :: List.replicate j 0).length : Nat) : Int)) = ((r.size + j + 1 : Nat) : Int) := by rw [hz, w64 (by omega) (by omega)]; omega
    refine Ev.step (fun k => spec_ShaEnd.l0.eq_2 _ _ _ _ k) ?_
    rw [ew, e8, Int.tmod_eq_emod_of_nonneg (by omega)]
    refine Ev.pos (by omega) ?_
    have h2 := spec_end_l1 h hh r hl n n0 n1 8 (128 :: List.replicate j 0) (by omega) (by rw [show j = (119 - r.size) % 64 by omega]; simp)
    exact h2
  | succ d ih =>
    intro j hj
    have hz : ((128 : Int) :: List.replicate j 0).length = j + 1 := by simp
    have ew : wrap64 ((r.size : Int) + ((((128 : Int) :: List.replicate j 0).length : Nat) : Int)) = ((r.size + j + 1 : Nat) : Int) := by rw [hz, w64 (by omega) (by omega)]; omega
    refine Ev.step (fun k => spec_ShaEnd.l0.eq_2 _ _ _ _ k) ?_
    rw [ew, Int.tmod_eq_emod_of_nonneg (by omega)]
    refine Ev.neg (by omega) (Ev.pos (by rw [hz]; omega) ?_)
    have e : (128 : Int) :: List.replicate j 0 ++ [0] = 128 :: List.replicate (j + 1) 0 := by
      rw [List.replicate_succ']; rfl
    rw [e]
    exact ih (j + 1) (by omega)
theorem spec_end (h : List Int) (r : ByteArray) (n : Int) : Ev (fun k => spec_ShaEnd.f k h r n) (shaEnd h r n) := by
  unfold spec_ShaEnd.f shaEnd
  refine Ev.bind (spec_shaOk h r n) ?_
  cases ho : shaOk h r n with
  | false => rw [if_neg (by simp)]; exact Ev.neg (by simp) (Ev.now _)
  | true =>
    obtain ⟨hh, n0, n1, hr⟩ := shaOk_iff.1 ho
    rw [if_pos rfl]
    refine Ev.pos rfl ?_
    exact spec_end_l0 h hh r (by omega) n n0 n1 _ 0 (Nat.zero_add _)

def h0 : List Int := [1732584193, 4023233417, 2562383102, 271733878, 3285377520]
def shaSum (b : ByteArray) : ByteArray := strOfNums (endM (addB h0 [] (bytesOf b)) (addR [] (bytesOf b)) (b.size : Int))
theorem h0_H5 : H5 h0 := ⟨rfl, by intro x hx; simp only [h0, List.mem_cons, List.not_mem_nil, or_false] at hx; rcases hx with rfl | rfl | rfl | rfl | rfl <;> exact ⟨by decide, by decide⟩⟩
theorem new_ok : shaOk h0 ⟨#[]⟩ 0 = true := shaOk_iff.2 ⟨h0_H5, by decide, by decide, rfl⟩
theorem add_new (b : ByteArray) (hb : b.size ≤ 140737488351232) : shaAdd h0 ⟨#[]⟩ 0 b = (addB h0 [] (bytesOf b), strOfNums (addR [] (bytesOf b)), (b.size : Int)) := by
  unfold shaAdd addOk
  rw [new_ok, Bool.true_and, if_pos (decide_eq_true (by omega)), Int.zero_add]
  rfl
theorem addR_bytes {r b : List Int} (hr : ∀ x ∈ r, Byte x) (hb : ∀ x ∈ b, Byte x) : ∀ x ∈ addR r b, Byte x := by
  intro x hx
  have := List.mem_of_mem_drop hx
  rcases List.mem_append.1 this with h | h
  · exact hr x h
  · exact hb x h
theorem after_ok (b : ByteArray) (hb : b.size ≤ 140737488351232) : shaOk (addB h0 [] (bytesOf b)) (strOfNums (addR [] (bytesOf b))) (b.size : Int) = true := by
  refine shaOk_iff.2 ⟨blocks_H5 _ _ _ h0_H5, by omega, by omega, ?_⟩
  rw [strOf_size, addR_length, bytesOf_length]
  simp
theorem end_add (b : ByteArray) (hb : b.size ≤ 140737488351232) : shaEnd (addB h0 [] (bytesOf b)) (strOfNums (addR [] (bytesOf b))) (b.size : Int) = shaSum b := by
  unfold shaEnd shaSum
  rw [if_pos (after_ok b hb), bytes_strOf (addR_bytes (by intro x hx; cases hx) (fun x hx => bytes_lt hx))]
theorem impl_sum (b : ByteArray) (hb : b.size ≤ 140737488351232) : Ev (fun k => impl_Sha1.f k b) (shaSum b) := by
  unfold impl_Sha1.f
  have h1 := impl_add h0 ⟨#[]⟩ 0 b hb
  rw [add_new b hb] at h1
  have h2 := impl_end (addB h0 [] (bytesOf b)) (strOfNums (addR [] (bytesOf b))) (b.size : Int)
  rw [end_add b hb] at h2
  exact Ev.told rfl (Ev.bind h1 (Ev.bind h2 (Ev.now _)))
theorem spec_sum (b : ByteArray) (hb : b.size ≤ 140737488351232) : Ev (fun k => spec_Sha1.f k b) (shaSum b) := by
  unfold spec_Sha1.f
  have h1 := spec_add h0 ⟨#[]⟩ 0 b hb
  rw [add_new b hb] at h1
  have h2 := spec_end (addB h0 [] (bytesOf b)) (strOfNums (addR [] (bytesOf b))) (b.size : Int)
  rw [end_add b hb] at h2
  exact Ev.told rfl (Ev.bind h1 (Ev.bind h2 (Ev.now _)))

/-! The reader of draws -/
def Bs (b : List Int) : Prop := b.length ≤ 140737488351240
theorem and255 (y : Int) : 0 ≤ Go.bits .and .i64 y 255 ∧ Go.bits .and .i64 y 255 ≤ 255 := by
  have h : (BitVec.ofInt 64 y &&& BitVec.ofInt 64 255).toNat ≤ 255 := by
    rw [BitVec.toNat_and]
    exact Nat.and_le_right
  show 0 ≤ IntKind.i64.wrap ((BitVec.ofInt 64 y &&& BitVec.ofInt 64 255).toNat : Int) ∧ IntKind.i64.wrap ((BitVec.ofInt 64 y &&& BitVec.ofInt 64 255).toNat : Int) ≤ 255
  rw [wraps_i64 _ (Int.natCast_nonneg _) (by omega)]
  omega
theorem draw_byte {b : List Int} (hb : Bs b) (i h : Int) (hi : 0 ≤ i) : ∃ x i' h' : Int, spec_l1Byte.f b i h = some (x, i', h') ∧ 0 ≤ x ∧ x ≤ 255 ∧ 0 ≤ i' := by
  unfold Bs at hb
  unfold spec_l1Byte.f
  by_cases c : i < (b.length : Int)
  · rw [if_pos c, if_pos hi]
    exact ⟨_, _, _, rfl, (and255 _).1, (and255 _).2, by rw [w64 (by omega) (by omega)]; omega⟩
  · rw [if_neg c]
    exact ⟨_, _, _, rfl, (and255 _).1, (and255 _).2, hi⟩
theorem tmod_in {x n : Int} (hx : 0 ≤ x) (hn : 0 < n) : 0 ≤ Int.tmod x n ∧ Int.tmod x n < n := by
  rw [Int.tmod_eq_emod_of_nonneg hx]
  exact ⟨Int.emod_nonneg _ (by omega), Int.emod_lt_of_pos _ hn⟩
theorem draw_below {b : List Int} (hb : Bs b) (i h n : Int) (hi : 0 ≤ i) : ∃ x i' h' : Int, spec_l1Below.f b i h n = some (x, i', h') ∧ 0 ≤ x ∧ (0 < n → x < n) ∧ (n ≤ 0 → x = 0) ∧ 0 ≤ i' := by
  unfold spec_l1Below.f
  by_cases c0 : n ≤ 0
  · rw [if_pos c0]
    exact ⟨_, _, _, rfl, by omega, fun h => by omega, fun _ => rfl, hi⟩
  · rw [if_neg c0]
    obtain ⟨x, i1, h1, e1, x0, x1, j1⟩ := draw_byte hb i h hi
    by_cases c1 : n ≤ 256
    · rw [if_pos c1, e1]
      simp only [Option.bind_some]
      rw [if_neg (by omega)]
      have := tmod_in x0 (show 0 < n by omega)
      exact ⟨_, _, _, rfl, this.1, fun _ => this.2, fun h => by omega, j1⟩
    · obtain ⟨y, i2, h2, e2, y0, y1, j2⟩ := draw_byte hb i1 h1 j1
      obtain ⟨z, i3, h3, e3, z0, z1, j3⟩ := draw_byte hb i2 h2 j2
      obtain ⟨w, i4, h4, e4, v0, v1, j4⟩ := draw_byte hb i3 h3 j3
      rw [if_neg c1, e1]
      simp only [Option.bind_some]
      rw [e2]
      simp only [Option.bind_some]
      rw [e3]
      simp only [Option.bind_some]
      rw [e4]
      simp only [Option.bind_some]
      rw [if_neg (by omega)]
      have hs : 0 ≤ wrap64 ((wrap64 ((wrap64 ((wrap64 (x * 16777216)) + (wrap64 (y * 65536)))) + (wrap64 (z * 256)))) + w) := by
        rw [w64 (n := x * 16777216) (by omega) (by omega), w64 (n := y * 65536) (by omega) (by omega), w64 (n := z * 256) (by omega) (by omega), w64 (n := x * 16777216 + y * 65536) (by omega) (by omega), w64 (n := x * 16777216 + y * 65536 + z * 256) (by omega) (by omega), w64 (by omega) (by omega)]
        omega
      have := tmod_in hs (show 0 < n by omega)
      exact ⟨_, _, _, rfl, this.1, fun _ => this.2, fun h => by omega, j4⟩
theorem draw_new {b : List Int} (hb : Bs b) : ∃ h : Int, Ev (fun k => spec_l1New.f k b) (b, 0, h) := by
  unfold Bs at hb
  have loop : ∀ (d i : Nat) (x : Int), i + d = b.length → ∃ h : Int, Ev (fun k => spec_l1New.l0 k b x (i : Int)) (b, 0, h) := by
    intro d
    induction d with
    | zero => intro i x hi; exact ⟨_, Ev.step (fun k => spec_l1New.l0.eq_2 _ _ _ k) (Ev.neg (by omega) (Ev.now _))⟩
    | succ d ih =>
      intro i x hi
      by_cases c : (i : Int) < 4000
      · have hw : wrap64 ((i : Int) + 1) = ((i + 1 : Nat) : Int) := by rw [w64 (by omega) (by omega)]; omega
        obtain ⟨h, e⟩ := ih (i + 1) (Go.bits .and .i64 (wrap64 ((wrap64 ((wrap64 (x * 131)) + (wrap64 (rd b (i : Int))))) + 7)) 1073741823) (by omega)
        refine ⟨h, Ev.step (fun k => spec_l1New.l0.eq_2 _ _ _ k) (Ev.pos (by omega) (Ev.pos c (Ev.pos (by omega) ?_)))⟩
        rw [hw]; exact e
      · exact ⟨_, Ev.step (fun k => spec_l1New.l0.eq_2 _ _ _ k) (Ev.pos (by omega) (Ev.neg c (Ev.now _)))⟩
  exact loop b.length 0 _ (by omega)

theorem draw_once {b : List Int} (hb : Bs b) (i h n : Int) (hi : 0 ≤ i) : ∃ (x : Bool) (i' h' : Int), spec_l1Once.f b i h n = some (x, i', h') ∧ 0 ≤ i' := by
  obtain ⟨x, i1, h1, e, _, _, _, j⟩ := draw_below hb i h n hi
  exact ⟨_, _, _, by unfold spec_l1Once.f; rw [e]; rfl, j⟩
theorem draw_pick {b : List Int} (hb : Bs b) (i h : Int) (l : List Int) (hl : 0 < l.length) (hi : 0 ≤ i) : ∃ x i' h' : Int, spec_l1PickInt.f b i h l = some (x, i', h') ∧ x ∈ l ∧ 0 ≤ i' := by
  obtain ⟨x, i1, h1, e, x0, x1, _, j⟩ := draw_below hb i h (l.length : Int) hi
  have hx := x1 (by omega)
  refine ⟨rd l x, i1, h1, ?_, ?_, j⟩
  · unfold spec_l1PickInt.f
    rw [e]
    simp only [Option.bind_some]
    rw [if_pos x0, if_pos hx]
  · unfold rd
    exact getD_mem (by omega)

theorem draw_bytes {b : List Int} (hb : Bs b) (n : Nat) (hn : n ≤ 1000000) (i h : Int) (hi : 0 ≤ i) : ∃ (s : ByteArray) (i' h' : Int), Ev (fun k => spec_l3bytes.f k b i h (n : Int)) (s, i', h') ∧ s.size = n ∧ 0 ≤ i' := by
  have loop : ∀ (d j : Nat) (out : List Int) (i h : Int), j + d = n → out.length = j → 0 ≤ i → ∃ (s : ByteArray) (i' h' : Int), Ev (fun k => spec_l3bytes.l0 k (n : Int) out (j : Int) b i h) (s, i', h') ∧ s.size = n ∧ 0 ≤ i' := by
    intro d
    induction d with
    | zero =>
      intro j out i h hj ho hi
      exact ⟨_, _, _, Ev.step (fun k => spec_l3bytes.l0.eq_2 _ _ _ _ _ _ k) (Ev.neg (by omega) (Ev.now _)), by rw [size_strOf]; omega, hi⟩
    | succ d ih =>
      intro j out i h hj ho hi
      obtain ⟨x, i1, h1, e, x0, x1, j1⟩ := draw_byte hb i h hi
      have hw : wrap64 ((j : Int) + 1) = ((j + 1 : Nat) : Int) := by rw [w64 (by omega) (by omega)]; omega
      obtain ⟨s, i2, h2, e2, hs, j2⟩ := ih (j + 1) (out ++ [x % 256]) i1 h1 (by omega) (by simp; omega) j1
      refine ⟨s, i2, h2, Ev.step (fun k => spec_l3bytes.l0.eq_2 _ _ _ _ _ _ k) (Ev.pos (by omega) (Ev.told e (Ev.pos (by omega) ?_))), hs, j2⟩
      rw [hw]; exact e2
  exact loop n 0 [] i h (by omega) rfl hi

theorem draw_sha {b : List Int} (hb : Bs b) : ∃ s : ByteArray, Ev (fun k => spec_DrawSha1.f k b) s ∧ s.size ≤ 1000 := by
  obtain ⟨h0_, e0⟩ := draw_new hb
  obtain ⟨o, i1, h1, e1, j1⟩ := draw_once hb 0 h0_ 3 (by omega)
  unfold spec_DrawSha1.f
  cases o with
  | true =>
    obtain ⟨p, i2, h2, e2, p0, j2⟩ := draw_pick hb i1 h1 [0, 54, 55, 56, 57, 63, 64, 65, 119, 120] (by decide) j1
    have hp : 0 ≤ p ∧ p ≤ 120 := by
      simp only [List.mem_cons, List.not_mem_nil, or_false] at p0
      omega
    obtain ⟨m, rfl⟩ := Int.eq_ofNat_of_zero_le hp.1
    obtain ⟨s, i3, h3, e3, hs, j3⟩ := draw_bytes hb m (by omega) i2 h2 j2
    exact ⟨s, Ev.bind e0 (Ev.told e1 (Ev.pos rfl (Ev.told e2 (Ev.bind e3 (Ev.now _))))), by omega⟩
  | false =>
    unfold Bs at hb
    obtain ⟨z, ez, hz⟩ : ∃ z : Int, spec_l1Size.f b 200 = some z ∧ z ≤ 200 := by
      unfold spec_l1Size.f
      rw [w64 (n := (b.length : Int) / 20) (by omega) (by omega), w64 (n := 2 + (b.length : Int) / 20) (by omega) (by omega)]
      by_cases c : 2 + (b.length : Int) / 20 > 200
      · exact ⟨_, by rw [if_pos c], by omega⟩
      · exact ⟨_, by rw [if_neg c], by omega⟩
    obtain ⟨x, i2, h2, e2, x0, x1, x2, j2⟩ := draw_below hb i1 h1 z j1
    have hx : x ≤ 200 := by
      by_cases c : 0 < z
      · have := x1 c; omega
      · have := x2 (by omega); omega
    obtain ⟨m, rfl⟩ := Int.eq_ofNat_of_zero_le x0
    obtain ⟨s, i3, h3, e3, hs, j3⟩ := draw_bytes hb m (by omega) i2 h2 j2
    exact ⟨s, Ev.bind e0 (Ev.told e1 (Ev.neg (by simp) (Ev.told ez (Ev.told e2 (Ev.bind e3 (Ev.now _)))))), by omega⟩

theorem impl_Turn_in {w : Int} {n : Nat} (h : W w) (hn : n ≤ 31) : impl_Turn.f w (n : Int) = some (rot w n) := by
  unfold impl_Turn.f impl_within.f
  rw [if_pos h.1, decide_eq_true h.2, if_pos (show (0 : Int) ≤ (n : Int) by omega), decide_eq_true (show (n : Int) ≤ 31 by omega), impl_rot h.1 h.2 hn]
  rfl
theorem impl_Turn_out {w n : Int} (h : ¬ (W w ∧ 0 ≤ n ∧ n ≤ 31)) : impl_Turn.f w n = some (-1) := by
  unfold impl_Turn.f impl_within.f
  by_cases h0 : 0 ≤ w
  · by_cases h1 : w ≤ 4294967295
    · rw [if_pos h0, decide_eq_true h1]
      simp only [Option.bind_some, if_true]
      by_cases h2 : 0 ≤ n
      · rw [if_pos h2, decide_eq_false (fun h3 => h ⟨⟨h0, h1⟩, h2, h3⟩)]; simp
      · rw [if_neg h2]; simp
    · rw [if_pos h0, decide_eq_false h1]; simp
  · rw [if_neg h0]; simp

theorem new_told : impl_ShaNew.f = some (h0, ⟨#[]⟩, 0) := rfl
theorem shaSum_size (b : ByteArray) : (shaSum b).size = 20 := by
  unfold shaSum
  rw [strOf_size]
  exact digest_length (blocks_H5 _ _ _ (blocks_H5 _ _ _ h0_H5)).1
theorem sums_true : Ev (fun k => laws_sums.f k) true := by
  unfold laws_sums.f
  have ht : impl_Turn.f 1 31 = some 2147483648 := by
    rw [show (31 : Int) = ((31 : Nat) : Int) from rfl, impl_Turn_in ⟨by decide, by decide⟩ (by decide)]
    congr 1
  have hi := impl_sum ⟨#[97]⟩ (by decide)
  have hs := spec_sum ⟨#[97]⟩ (by decide)
  have hz := shaSum_size ⟨#[97]⟩
  have ho := impl_shaOk h0 ⟨#[]⟩ 0
  rw [new_ok] at ho
  exact Ev.told ht (Ev.pos rfl (Ev.bind hi (Ev.pos (by rw [hz]; rfl) (Ev.bind hi (Ev.bind hs (Ev.pos rfl (Ev.told new_told (Ev.bind ho (Ev.now _)))))))))

/-! Letters of five bits -/
def tbl : ByteArray := ⟨#[65, 66, 67, 68, 69, 70, 71, 72, 73, 74, 75, 76, 77, 78, 79, 80, 81, 82, 83, 84, 85, 86, 87, 88, 89, 90, 50, 51, 52, 53, 54, 55]⟩
def letter (v : Nat) : Int := bt tbl (v : Int)
def bit8 (l : List Int) (k : Nat) : Nat := (l.getD (k / 8) 0).toNat / 2 ^ (7 - k % 8) % 2
def b32from (l : List Int) (g d : Nat) : List Int := (List.range' g d).map fun j => letter (num (bit8 l) (5 * j) 5)
def b32 (l : List Int) : List Int := b32from l 0 ((8 * l.length + 4) / 5)
theorem bit8_le (l : List Int) (k : Nat) : bit8 l k ≤ 1 := by unfold bit8; omega
theorem bit8_past {l : List Int} {k : Nat} (h : 8 * l.length ≤ k) : bit8 l k = 0 := by
  unfold bit8
  rw [getD_past (by omega)]
  simp
theorem bit8_byte (l : List Int) (i : Nat) (h : ∀ x ∈ l, 0 ≤ x ∧ x < 256) : num (bit8 l) (8 * i) 8 = (l.getD i 0).toNat := by
  have hx : (l.getD i 0).toNat < 256 := by
    by_cases hi : i < l.length
    · have := h _ (getD_mem hi); omega
    · rw [getD_past (by omega)]; simp
  generalize hv : (l.getD i 0).toNat = v at hx
  have hb : ∀ j, j < 8 → bit8 l (8 * i + j) = v / 2 ^ (7 - j) % 2 := by
    intro j hj
    unfold bit8
    rw [show (8 * i + j) / 8 = i by omega, show (8 * i + j) % 8 = j by omega, hv]
  simp only [num]
  rw [hb 0 (by omega), hb 1 (by omega), hb 2 (by omega), hb 3 (by omega), hb 4 (by omega), hb 5 (by omega), hb 6 (by omega), hb 7 (by omega)]
  simp only [Nat.reduceSub, Nat.reducePow]
  omega
theorem b32from_cons (l : List Int) (g d : Nat) : b32from l g (d + 1) = letter (num (bit8 l) (5 * g) 5) :: b32from l (g + 1) d := by
  simp [b32from, List.range'_succ]
theorem snoc_cons (a : List Int) (x : Int) (b : List Int) : (a ++ [x]) ++ b = a ++ x :: b := by simp

theorem impl_b32_l1 (s : ByteArray) (hb : s.size ≤ 1048576) (i : Nat) (hi : i < s.size)
    (H : ∀ (m x c : Nat) (out : List Int), x < 32 → c ≤ 4 → x % 2 ^ c = num (bit8 (bytesOf s)) (5 * m) c → 5 * m + c = 8 * (i + 1) → out.length = m →
      Ev (fun k => impl_base32.l0 k s out (x : Int) (c : Int) ((i + 1 : Nat) : Int)) (strOfNums (out ++ b32from (bytesOf s) m ((8 * s.size + 4) / 5 - m)))) :
    ∀ (n c m y : Nat) (out : List Int), c ≤ n → y < 2 ^ 20 → y % 2 ^ c = num (bit8 (bytesOf s)) (5 * m) c → 5 * m + c = 8 * (i + 1) → out.length = m → c ≤ 12 →
      Ev (fun k => impl_base32.l1 k s out (y : Int) (c : Int) (i : Int)) (strOfNums (out ++ b32from (bytesOf s) m ((8 * s.size + 4) / 5 - m))) := by
  intro n
  induction n with
  | zero =>
    intro c m y out hc hy hv hq hl hc2
    obtain rfl : c = 0 := by omega
    refine Ev.step (fun k => impl_base32.l1.eq_2 _ _ _ _ _ k) ?_
    refine Ev.neg (by omega) ?_
    rw [and_mask y 5 (by decide) (by omega) 31 (by decide), w64 (by omega) (by omega)]
    exact H m (y % 32) 0 out (by omega) (by omega) (by simpa using hv) hq hl
  | succ n ih =>
    intro c m y out hc hy hv hq hl hc2
    refine Ev.step (fun k => impl_base32.l1.eq_2 _ _ _ _ _ k) ?_
    by_cases h5 : 5 ≤ c
    · obtain ⟨a, rfl⟩ : ∃ a, c = a + 5 := ⟨c - 5, by omega⟩
      obtain ⟨e1, e2⟩ := num_five (bit8_le (bytesOf s)) hv
      have hw : wrap64 (((a + 5 : Nat) : Int) - 5) = (a : Int) := by rw [w64 (by omega) (by omega)]; omega
      have hy2 : y / 2 ^ a < 2 ^ 63 := Nat.lt_of_le_of_lt (Nat.div_le_self _ _) (by omega)
      have hv2 : Go.bits .and .i64 (shr .i64 (y : Int) (a : Int)) 31 = ((num (bit8 (bytesOf s)) (5 * m) 5 : Nat) : Int) := by
        rw [shr_nat y a (by omega), and_mask _ 5 (by decide) hy2 31 (by decide), ← e1]
      have hlt := num_lt (bit8_le (bytesOf s)) (5 * m) 5
      rw [hw, hv2]
      refine Ev.pos (by omega) (Ev.pos (by omega) (Ev.pos (by omega) (Ev.pos (by omega) (Ev.pos (by omega) ?_))))
      have hd : (8 * s.size + 4) / 5 - m = ((8 * s.size + 4) / 5 - (m + 1)) + 1 := by omega
      have h1 := ih a (m + 1) y (out ++ [letter (num (bit8 (bytesOf s)) (5 * m) 5)]) (by omega) hy (by rw [e2]; congr 1) (by omega) (by simp [hl]) (by omega)
      rw [hd, b32from_cons, ← snoc_cons out _ (b32from _ _ _)]
      exact h1
    · refine Ev.neg (by omega) ?_
      rw [and_mask y 5 (by decide) (by omega) 31 (by decide), w64 (by omega) (by omega)]
      refine H m (y % 32) c out (by omega) (by omega) ?_ hq hl
      rw [← hv]
      exact Nat.mod_mod_of_dvd _ ⟨2 ^ (5 - c), by rw [← Nat.pow_add, show c + (5 - c) = 5 by omega]⟩
theorem impl_b32_l0 (s : ByteArray) (hb : s.size ≤ 1048576) : ∀ (d i m x c : Nat) (out : List Int), i + d = s.size → x < 32 → c ≤ 4 → x % 2 ^ c = num (bit8 (bytesOf s)) (5 * m) c → 5 * m + c = 8 * i → out.length = m →
      Ev (fun k => impl_base32.l0 k s out (x : Int) (c : Int) (i : Int)) (strOfNums (out ++ b32from (bytesOf s) m ((8 * s.size + 4) / 5 - m))) := by
  intro d
  induction d with
  | zero =>
    intro i m x c out hd hx hc hv hq hl
    refine Ev.step (fun k => impl_base32.l0.eq_2 _ _ _ _ _ k) ?_
    refine Ev.neg (by omega) ?_
    by_cases h0 : c = 0
    · subst h0
      refine Ev.neg (by omega) ?_
      rw [show (8 * s.size + 4) / 5 - m = 0 by omega]
      simp only [b32from, List.range'_zero, List.map_nil, List.append_nil]
      exact Ev.now _
    · have hw : wrap64 (5 - (c : Int)) = ((5 - c : Nat) : Int) := by rw [w64 (by omega) (by omega)]; omega
      have hp : 2 ^ (5 - c) ≤ 2 ^ 5 := Nat.pow_le_pow_right (by decide) (by omega)
      have hm : x * 2 ^ (5 - c) ≤ 32 * 2 ^ 5 := Nat.mul_le_mul (by omega) hp
      have h32 : 32 = 2 ^ c * 2 ^ (5 - c) := by rw [← Nat.pow_add, show c + (5 - c) = 5 by omega]
      have hv2 : Go.bits .and .i64 (shl .i64 (x : Int) ((5 - c : Nat) : Int)) 31 = ((num (bit8 (bytesOf s)) (5 * m) 5 : Nat) : Int) := by
        rw [shl_nat x _ (by omega) (by omega), and_mask _ 5 (by decide) (by omega) 31 (by decide)]
        congr 1
        have e := num_add (bit8 (bytesOf s)) (5 * m) c (5 - c)
        rw [show c + (5 - c) = 5 by omega, num_zero (q := 5 * m + c) (fun k hk => bit8_past (by rw [bytesOf_length]; omega)), Nat.add_zero] at e
        rw [e, ← hv, show (2 : Nat) ^ 5 = 32 by rfl]
        conv => lhs; rw [h32]
        exact Nat.mul_mod_mul_right _ _ _
      have hlt := num_lt (bit8_le (bytesOf s)) (5 * m) 5
      rw [hw, hv2]
      refine Ev.pos (by omega) (Ev.pos (by omega) (Ev.pos (by omega) (Ev.pos (by omega) (Ev.pos (by omega) ?_))))
      rw [show (8 * s.size + 4) / 5 - m = 0 + 1 by omega, b32from_cons]
      simp only [b32from, List.range'_zero, List.map_nil]
      exact Ev.now _
  | succ d ih =>
    intro i m x c out hd hx hc hv hq hl
    have hbt := bt_range s (i : Int)
    obtain ⟨b, hbb⟩ := Int.eq_ofNat_of_zero_le hbt.1
    have hbv : num (bit8 (bytesOf s)) (8 * i) 8 = b := by
      rw [bit8_byte _ _ (fun x hx => bytes_lt hx), ← bt_nat, hbb]; rfl
    refine Ev.step (fun k => impl_base32.l0.eq_2 _ _ _ _ _ k) ?_
    have e1 : wrap64 ((x : Int) * 256) = ((x * 256 : Nat) : Int) := by rw [w64 (by omega) (by omega)]; omega
    have e2 : wrap64 (bt s (i : Int)) = (b : Int) := by rw [hbb, w64 (by omega) (by omega)]
    have e3 : wrap64 ((c : Int) + 8) = ((c + 8 : Nat) : Int) := by rw [w64 (by omega) (by omega)]; omega
    rw [e1, e2, e3, or_add (x * 256) b 8 (by omega) (by omega) (by omega) (by omega)]
    refine Ev.pos (by omega) (Ev.pos (by omega) ?_)
    refine impl_b32_l1 s hb i (by omega) (fun m x c out h1 h2 h3 h4 h5 => ih (i + 1) m x c out (by omega) h1 h2 h3 h4 h5) 12 (c + 8) m (x * 256 + b) out (by omega) (by omega) ?_ (by omega) hl (by omega)
    rw [num_grow (by omega) hv, num_add, hq, hbv]
theorem impl_b32 (s : ByteArray) (hb : s.size ≤ 1048576) : Ev (fun k => impl_base32.f k s) (strOfNums (b32 (bytesOf s))) := by
  have h := impl_b32_l0 s hb s.size 0 0 0 0 [] (by omega) (by omega) (by omega) (by simp [num]) (by omega) rfl
  unfold b32
  rw [bytesOf_length]
  show Ev (fun k => impl_base32.l0 k s [] 0 0 0) _
  simpa using h

/-! Five bits of each letter, and the bytes out of them -/
@[irreducible] def five (b : Int) : Int := if 65 ≤ b ∧ b ≤ 90 then b - 65 else if 50 ≤ b ∧ b ≤ 55 then b - 50 + 26 else -1
theorem five_lt (b : Int) : five b < 32 := by unfold five; split; omega; split <;> omega
theorem index_five {b : Int} (h0 : 0 ≤ b) (h1 : b < 256) : Lib.indexByte tbl.data.toList b.toNat.toUInt8 = five b := by
  have h : ∀ n : Fin 256, Lib.indexByte tbl.data.toList (n : Nat).toUInt8 = five ((n : Nat) : Int) := by decide +kernel
  have := h ⟨b.toNat, by omega⟩
  simpa only [Int.toNat_of_nonneg h0] using this
def bit5 (l : List Int) (k : Nat) : Nat := (five (l.getD (k / 5) 0)).toNat / 2 ^ (4 - k % 5) % 2
theorem bit5_le (l : List Int) (k : Nat) : bit5 l k ≤ 1 := by unfold bit5; omega
theorem bit5_five (l : List Int) (i : Nat) : num (bit5 l) (5 * i) 5 = (five (l.getD i 0)).toNat := by
  have hx := five_lt (l.getD i 0)
  have hx' : (five (l.getD i 0)).toNat < 32 := by omega
  clear hx
  generalize hv : (five (l.getD i 0)).toNat = v at hx'
  have hb : ∀ j, j < 5 → bit5 l (5 * i + j) = v / 2 ^ (4 - j) % 2 := by
    intro j hj
    unfold bit5
    rw [show (5 * i + j) / 5 = i by omega, show (5 * i + j) % 5 = j by omega, hv]
  simp only [num]
  rw [hb 0 (by omega), hb 1 (by omega), hb 2 (by omega), hb 3 (by omega), hb 4 (by omega)]
  simp only [Nat.reduceSub, Nat.reducePow]
  omega
def d32 (l : List Int) (n : Nat) : List Int := (List.range n).map fun m => ((num (bit5 l) (8 * m) 8 : Nat) : Int)
theorem d32_length (l : List Int) (n : Nat) : (d32 l n).length = n := by simp [d32]
theorem d32_succ (l : List Int) (n : Nat) : d32 l (n + 1) = d32 l n ++ [((num (bit5 l) (8 * n) 8 : Nat) : Int)] := by simp [d32, List.range_succ]
theorem d32_bytes (l : List Int) (n : Nat) : ∀ x ∈ d32 l n, 0 ≤ x ∧ x < 256 := by
  intro x hx
  simp only [d32, List.mem_map] at hx
  obtain ⟨m, _, rfl⟩ := hx
  have := num_lt (bit5_le l) (8 * m) 8
  omega
def text32 (s : ByteArray) : ByteArray := strOfNums (d32 (bytesOf s) (5 * s.size / 8))
def rb32 (s : ByteArray) : ByteArray × Bool :=
  if (∀ x ∈ bytesOf s, 0 ≤ five x) ∧ s.size ≤ 6400 ∧ (strOfNums (b32 (bytesOf (text32 s)))).toList = s.toList then (text32 s, true) else (⟨#[]⟩, false)
theorem b32_length (l : List Int) : (b32 l).length = (8 * l.length + 4) / 5 := by simp [b32, b32from]
theorem text32_size (s : ByteArray) : (text32 s).size = 5 * s.size / 8 := by unfold text32; rw [size_strOf, d32_length]
theorem rb32_bad {s : ByteArray} {i : Nat} (h : i < s.size) (hb : five (bt s (i : Int)) < 0) : rb32 s = (⟨#[]⟩, false) := by
  unfold rb32
  rw [if_neg]
  rintro ⟨h1, _⟩
  have := h1 _ (getD_mem (xs := bytesOf s) (i := i) (by rw [bytesOf_length]; exact h))
  rw [← bt_nat] at this
  omega
theorem rb32_long {s : ByteArray} (h : 6400 < s.size) : rb32 s = (⟨#[]⟩, false) := by
  unfold rb32
  rw [if_neg]
  rintro ⟨_, h1, _⟩
  omega
theorem all_five {s : ByteArray} (h : ∀ j, j < s.size → 0 ≤ five (bt s (j : Int))) : ∀ x ∈ bytesOf s, 0 ≤ five x := by
  intro x hx
  obtain ⟨j, hj, rfl⟩ := List.getElem_of_mem hx
  have := h j (by rw [← bytesOf_length]; exact hj)
  rw [bt_nat, List.getD_eq_getElem?_getD, List.getElem?_eq_getElem hj, Option.getD_some] at this
  exact this
/-- Both ends: the letters are good; the text's letters again are compared. -/
theorem rb32_end {s : ByteArray} (h : ∀ j, j < s.size → 0 ≤ five (bt s (j : Int))) (hs : 5 * s.size / 8 ≤ 4000) :
    rb32 s = if (strOfNums (b32 (bytesOf (text32 s)))).toList = s.toList then (text32 s, true) else (⟨#[]⟩, false) := by
  unfold rb32
  by_cases he : (strOfNums (b32 (bytesOf (text32 s)))).toList = s.toList
  · rw [if_pos he, if_pos]
    refine ⟨all_five h, ?_, he⟩
    have h1 := congrArg List.length he
    rw [Lib.toList_data, Lib.toList_data] at h1
    have h2 : (strOfNums (b32 (bytesOf (text32 s)))).size = s.size := h1
    rw [size_strOf, b32_length, bytesOf_length, text32_size] at h2
    omega
  · rw [if_neg he, if_neg (fun h => he h.2.2)]

theorem num_part {β : Nat → Nat} (h : ∀ k, β k ≤ 1) {y q a b : Nat} (hy : y % 2 ^ (a + b) = num β q (a + b)) :
    y / 2 ^ a % 2 ^ b = num β q b ∧ y % 2 ^ a = num β (q + b) a := by
  have e := num_add β q b a
  rw [Nat.add_comm b a] at e
  have hM := num_lt h (q + b) a
  have hN := num_lt h q b
  rw [e, Nat.add_comm (num β q b * 2 ^ a)] at hy
  have hp : 2 ^ (a + b) = 2 ^ a * 2 ^ b := Nat.pow_add 2 a b
  constructor
  · have h1 := Nat.mod_mul_right_div_self y (2 ^ a) (2 ^ b)
    rw [← h1, ← hp, hy, Nat.add_mul_div_right _ _ (Nat.two_pow_pos a), Nat.div_eq_of_lt hM, Nat.zero_add]
  · have h1 := Nat.mod_mod_of_dvd y (⟨2 ^ b, hp⟩ : 2 ^ a ∣ 2 ^ (a + b))
    rw [← h1, hy, Nat.add_mul_mod_self_right, Nat.mod_eq_of_lt hM]
theorem num_grow5 {x b c v : Nat} (hb : b < 32) (hx : x % 2 ^ c = v) : (x * 32 + b) % 2 ^ (c + 5) = v * 32 + b := by
  have hp : 2 ^ (c + 5) = 2 ^ c * 32 := Nat.pow_add 2 c 5
  have h1 := Nat.div_add_mod x (2 ^ c)
  have h2 : x * 32 + b = (v * 32 + b) + (x / 2 ^ c) * (2 ^ c * 32) := by
    rw [← hx]
    conv => lhs; rw [← h1]
    rw [Nat.add_mul, Nat.mul_comm (2 ^ c) (x / 2 ^ c), Nat.mul_assoc]
    omega
  have h3 : v < 2 ^ c := by rw [← hx]; exact Nat.mod_lt _ (Nat.two_pow_pos c)
  rw [h2, hp, Nat.add_mul_mod_self_right, Nat.mod_eq_of_lt]
  omega
theorem impl_rb_l0 (s : ByteArray) (hb : s.size ≤ 1048576) : ∀ (d i m x c : Nat), i + d = s.size → x < 4096 → c ≤ 7 → x % 2 ^ c = num (bit5 (bytesOf s)) (8 * m) c → 8 * m + c = 5 * i →
    (∀ j, j < i → 0 ≤ five (bt s (j : Int))) → Ev (fun k => impl_ReadBase32.l0 k s (d32 (bytesOf s) m) (x : Int) (c : Int) (i : Int)) (rb32 s) := by
  intro d
  induction d with
  | zero =>
    intro i m x c hd hx hc hv hq hg
    have hm : m = 5 * s.size / 8 := by omega
    refine Ev.step (fun k => impl_ReadBase32.l0.eq_2 _ _ _ _ _ k) (Ev.neg (by omega) ?_)
    by_cases h4 : ((d32 (bytesOf s) m).length : Int) > 4000
    · refine Ev.pos h4 ?_
      rw [d32_length] at h4
      rw [rb32_long (by omega)]; exact Ev.now _
    · refine Ev.neg h4 ?_
      rw [d32_length] at h4
      rw [rb32_end (fun j hj => hg j (by omega)) (by omega)]
      have ht : strOfNums (d32 (bytesOf s) m) = text32 s := by rw [hm]; rfl
      rw [ht]
      refine Ev.bind (impl_b32 (text32 s) (by rw [text32_size]; omega)) ?_
      by_cases he : (strOfNums (b32 (bytesOf (text32 s)))).toList = s.toList
      · exact Ev.pos he (by rw [if_pos he]; exact Ev.now _)
      · exact Ev.neg he (by rw [if_neg he]; exact Ev.now _)
  | succ d ih =>
    intro i m x c hd hx hc hv hq hg
    have hr := bt_range s (i : Int)
    have hf := five_lt (bt s (i : Int))
    refine Ev.step (fun k => impl_ReadBase32.l0.eq_2 _ _ _ _ _ k) (Ev.pos (by omega) (Ev.pos (by omega) ?_))
    refine Ev.told (b := five (bt s (i : Int))) (congrArg some (index_five (by omega) (by omega))) ?_
    by_cases hn : five (bt s (i : Int)) < 0
    · refine Ev.pos hn ?_
      rw [rb32_bad (by omega) hn]; exact Ev.now _
    · refine Ev.neg hn ?_
      obtain ⟨v, hvv⟩ := Int.eq_ofNat_of_zero_le (show 0 ≤ five (bt s (i : Int)) by omega)
      have hvl : v < 32 := by omega
      have hnum : num (bit5 (bytesOf s)) (5 * i) 5 = v := by rw [bit5_five, ← bt_nat, hvv]; rfl
      rw [hvv]
      have e1 : wrap64 ((x : Int) * 32) = ((x * 32 : Nat) : Int) := by rw [w64 (by omega) (by omega)]; omega
      have e3 : wrap64 ((c : Int) + 5) = ((c + 5 : Nat) : Int) := by rw [w64 (by omega) (by omega)]; omega
      have e4 : wrap64 ((i : Int) + 1) = ((i + 1 : Nat) : Int) := by rw [w64 (by omega) (by omega)]; omega
      rw [e1, e3, e4, or_add (x * 32) v 5 (by omega) (by omega) (by omega) (by omega), and_mask (x * 32 + v) 12 (by decide) (by omega) 4095 (by decide)]
      clear e1 e3 e4
      have hg' : ∀ j, j < i + 1 → 0 ≤ five (bt s (j : Int)) := fun j hj => (Nat.lt_or_eq_of_le (Nat.le_of_lt_succ hj)).elim (fun h => hg j h) (fun h => h ▸ Int.not_lt.mp hn)
      have hY : (x * 32 + v) % 2 ^ 12 % 2 ^ (c + 5) = num (bit5 (bytesOf s)) (8 * m) (c + 5) := by
        have h1 := Nat.mod_mod_of_dvd (x * 32 + v) (Nat.pow_dvd_pow 2 (Nat.add_le_add_right hc 5))
        have h2 := num_grow5 (b := v) hvl hv
        have h3 := num_add (bit5 (bytesOf s)) (8 * m) c 5
        rw [hq, hnum, show (2 : Nat) ^ 5 = 32 by decide] at h3
        exact h1.trans (h2.trans h3.symm)
      clear hv hnum hvl hvv hf hr hn hx
      have hy : (x * 32 + v) % 2 ^ 12 < 4096 := Nat.mod_lt _ (Nat.two_pow_pos 12)
      generalize (x * 32 + v) % 2 ^ 12 = y at hY hy
      by_cases h8 : 8 ≤ c + 5
      · obtain ⟨a, ha⟩ : ∃ a, c + 5 = a + 8 := ⟨c + 5 - 8, by omega⟩
        have e5 : wrap64 (((c + 5 : Nat) : Int) - 8) = (a : Int) := by rw [w64 (by omega) (by omega)]; omega
        rw [ha] at hY
        obtain ⟨p1, p2⟩ := num_part (bit5_le (bytesOf s)) hY
        refine Ev.pos (by omega) ?_
        rw [e5, shr_nat y a (by omega)]
        refine Ev.pos (by omega) (Ev.pos (by rw [d32_length]; omega) ?_)
        have e6 : ((y / 2 ^ a : Nat) : Int) % 256 = ((num (bit5 (bytesOf s)) (8 * m) 8 : Nat) : Int) := by
          rw [← p1, show (2 : Nat) ^ 8 = 256 by decide]
          generalize y / 2 ^ a = q
          omega
        rw [e6, ← d32_succ]
        exact ih (i + 1) (m + 1) y a (by omega) hy (by omega) p2 (by omega) hg'
      · refine Ev.neg (by omega) ?_
        exact ih (i + 1) m y (c + 5) (by omega) hy (by omega) hY (by omega) hg'
theorem impl_rb (s : ByteArray) (hb : s.size ≤ 1048576) : Ev (fun k => impl_ReadBase32.f k s) (rb32 s) :=
  impl_rb_l0 s hb s.size 0 0 0 0 (by omega) (by omega) (by omega) (by simp [num]) (by omega) (by omega)

/-! Labels read: what stands behind 'sha1:' -/
def lpre : ByteArray := ⟨#[115, 104, 97, 49, 58]⟩
def lsign : List UInt8 := [115, 104, 97, 49, 58]
theorem lpre_size : (lpre.size : Int) = 5 := rfl
theorem lpre_list : lpre.toList = lsign := by rw [Lib.toList_data]; rfl
theorem cut_yes {s : ByteArray} (h : 5 ≤ s.size) (he : (s.extract 0 5).toList = lsign) : strings_CutPrefix.f s lpre = some (s.extract 5 s.size, true) := by
  unfold strings_CutPrefix.f stringslite_CutPrefix.f stringslite_HasPrefix.f
  rw [lpre_size]
  have h1 : (s.size : Int) ≥ 5 := by omega
  have h2 : (5 : Int) ≤ (s.size : Int) := by omega
  have hb : ((s.extract 0 ((5 : Int)).toNat).toList == lpre.toList) = true := by rw [lpre_list]; exact beq_iff_eq.mpr he
  rw [if_pos h1, if_pos (show (0 : Int) ≤ 5 by decide), if_pos h2, hb]
  rw [if_pos (show (0 : Int) ≤ 5 by decide), if_pos h2]; rfl
theorem cut_no {s : ByteArray} (h : ¬ (5 ≤ s.size ∧ (s.extract 0 5).toList = lsign)) : strings_CutPrefix.f s lpre = some (s, false) := by
  unfold strings_CutPrefix.f stringslite_CutPrefix.f stringslite_HasPrefix.f
  rw [lpre_size]
  by_cases h5 : 5 ≤ s.size
  · have h1 : (s.size : Int) ≥ 5 := by omega
    have h2 : (5 : Int) ≤ (s.size : Int) := by omega
    have hb : ((s.extract 0 ((5 : Int)).toNat).toList == lpre.toList) = false := by rw [lpre_list]; exact beq_eq_false_iff_ne.mpr (fun e => h ⟨h5, e⟩)
    rw [if_pos h1, if_pos (show (0 : Int) ≤ 5 by decide), if_pos h2, hb]; rfl
  · have h1 : ¬ (s.size : Int) ≥ 5 := by omega
    rw [if_neg h1]; rfl
theorem cut_label (s : ByteArray) : strings_CutPrefix.f s lpre = some (if 5 ≤ s.size ∧ (s.extract 0 5).toList = lsign then (s.extract 5 s.size, true) else (s, false)) := by
  by_cases h : 5 ≤ s.size ∧ (s.extract 0 5).toList = lsign
  · rw [cut_yes h.1 h.2, if_pos h]
  · rw [cut_no h, if_neg h]

/-! A digest is read back out of its letters -/
theorem five_letter {v : Nat} (h : v < 32) : five (letter v) = (v : Int) := by
  have : ∀ n : Fin 32, five (letter (n : Nat)) = ((n : Nat) : Int) := by decide +kernel
  exact this ⟨v, h⟩
theorem b32_at (l : List Int) (g : Nat) (h : g < (8 * l.length + 4) / 5) : (b32 l).getD g 0 = letter (num (bit8 l) (5 * g) 5) := by
  rw [List.getD_eq_getElem?_getD, List.getElem?_eq_getElem (by rw [b32_length]; exact h), Option.getD_some]
  simp [b32, b32from]
theorem num_bit {β : Nat → Nat} (h : ∀ k, β k ≤ 1) (q j : Nat) (hj : j < 5) : num β q 5 / 2 ^ (4 - j) % 2 = β (q + j) := by
  have h0 := h (q + 0); have h1 := h (q + 1); have h2 := h (q + 2); have h3 := h (q + 3); have h4 := h (q + 4)
  simp only [num]
  rcases (by omega : j = 0 ∨ j = 1 ∨ j = 2 ∨ j = 3 ∨ j = 4) with rfl | rfl | rfl | rfl | rfl <;> simp only [Nat.reduceSub, Nat.reducePow] <;> omega
theorem bit5_b32 (l : List Int) (k : Nat) (h : k < 8 * l.length) : bit5 (b32 l) k = bit8 l k := by
  unfold bit5
  rw [b32_at l (k / 5) (by omega), five_letter (num_lt (bit8_le l) _ _), Int.toNat_natCast, num_bit (bit8_le l) _ _ (Nat.mod_lt _ (by decide)), Nat.div_add_mod]
theorem d32_b32 (l : List Int) (hl : ∀ x ∈ l, 0 ≤ x ∧ x < 256) : d32 (b32 l) l.length = l := by
  apply List.ext_getElem
  · rw [d32_length]
  · intro i h1 h2
    simp only [d32, List.getElem_map, List.getElem_range]
    rw [num_congr (γ := bit8 l) (fun k _ hk => bit5_b32 l k (by omega)), bit8_byte l i hl, List.getD_eq_getElem?_getD, List.getElem?_eq_getElem h2, Option.getD_some]
    exact Int.toNat_of_nonneg (hl _ (List.getElem_mem h2)).1
theorem b32_good (l : List Int) : ∀ x ∈ b32 l, 0 ≤ five x := by
  intro x hx
  simp only [b32, b32from, List.mem_map] at hx
  obtain ⟨j, _, rfl⟩ := hx
  rw [five_letter (num_lt (bit8_le l) _ _)]; exact Int.natCast_nonneg _
theorem letter_byte (l : List Int) : ∀ x ∈ b32 l, 0 ≤ x ∧ x < 256 := by
  intro x hx
  simp only [b32, b32from, List.mem_map] at hx
  obtain ⟨j, _, rfl⟩ := hx
  unfold letter
  have := bt_range tbl ((num (bit8 l) (5 * j) 5 : Nat) : Int)
  omega

def labelOf (s : ByteArray) : ByteArray := (⟨#[115, 104, 97, 49, 58]⟩ : ByteArray) ++ strOfNums (b32 (bytesOf (shaSum s)))
theorem text_back (d : ByteArray) (hd : d.size = 20) : text32 (strOfNums (b32 (bytesOf d))) = d := by
  unfold text32
  rw [bytes_strOf (letter_byte _), size_strOf, b32_length, bytesOf_length, hd]
  have h := d32_b32 (bytesOf d) (fun x hx => bytes_lt hx)
  rw [bytesOf_length, hd] at h
  rw [h, strOf_bytes]
theorem rb32_back (d : ByteArray) (hd : d.size = 20) : rb32 (strOfNums (b32 (bytesOf d))) = (d, true) := by
  unfold rb32
  rw [text_back d hd]
  refine if_pos ⟨?_, ?_, rfl⟩
  · rw [bytes_strOf (letter_byte _)]; exact b32_good _
  · rw [size_strOf, b32_length, bytesOf_length, hd]; decide
theorem label_size (s : ByteArray) : (strOfNums (b32 (bytesOf (shaSum s)))).size = 32 := by
  rw [size_strOf, b32_length, bytesOf_length, shaSum_size]
theorem impl_label (s : ByteArray) (hs : s.size ≤ 140737488351232) : Ev (fun k => impl_Label.f k s) (labelOf s) := by
  unfold impl_Label.f labelOf
  have hl := label_size s
  have hz := shaSum_size s
  exact Ev.bind (impl_sum s hs) (Ev.bind (impl_b32 (shaSum s) (by omega)) (Ev.pos (by omega) (Ev.now _)))
theorem label_bytes (s : ByteArray) : bytesOf (labelOf s) = [115, 104, 97, 49, 58] ++ b32 (bytesOf (shaSum s)) := by
  unfold labelOf
  rw [bytes_append, bytes_strOf (letter_byte _)]; rfl
theorem label_len (s : ByteArray) : (labelOf s).size = 37 := by
  rw [← bytesOf_length, label_bytes, List.length_append, b32_length, bytesOf_length, shaSum_size]; rfl
theorem label_tail (s : ByteArray) : (labelOf s).extract 5 (labelOf s).size = strOfNums (b32 (bytesOf (shaSum s))) := by
  rw [extract_strOf, label_bytes, label_len]
  congr 1
  rw [show ([115, 104, 97, 49, 58] ++ b32 (bytesOf (shaSum s)) : List Int).drop 5 = b32 (bytesOf (shaSum s)) from rfl]
  exact List.take_of_length_le (by rw [b32_length, bytesOf_length, shaSum_size]; decide)
theorem label_same (s t : ByteArray) : labelOf s = labelOf t ↔ shaSum s = shaSum t := by
  constructor
  · intro h
    have h1 := label_tail s
    rw [h, label_tail t] at h1
    rw [← text_back (shaSum s) (shaSum_size s), ← text_back (shaSum t) (shaSum_size t), h1]
  · intro h; unfold labelOf; rw [h]
theorem label_head (s : ByteArray) : ((labelOf s).extract 0 5).toList = lsign := by
  rw [extract_strOf, label_bytes]
  rw [show (([115, 104, 97, 49, 58] ++ b32 (bytesOf (shaSum s)) : List Int).drop 0).take (5 - 0) = [115, 104, 97, 49, 58] from rfl, Lib.toList_data]; rfl
theorem read_label (s : ByteArray) : Ev (fun k => impl_ReadLabel.f k (labelOf s)) (shaSum s, true) := by
  unfold impl_ReadLabel.f
  refine Ev.told (cut_yes (by rw [label_len]; decide) (label_head s)) ?_
  rw [label_tail]
  have hl := label_size s
  have h := impl_rb (strOfNums (b32 (bytesOf (shaSum s)))) (by omega)
  rw [rb32_back _ (shaSum_size s)] at h
  refine Ev.pos rfl (Ev.pos ?_ (Ev.bind h (Ev.now _)))
  show ((strOfNums (b32 (bytesOf (shaSum s)))).size : Int) = 32
  omega
theorem FnLabels : laws_FnLabels.Pure := by
  intro b hl hb1 hw
  apply Ev.rounds
  have hb : Bs b := by unfold Bs; omega
  have hb2 : Bs ([1, 7] ++ b) := by unfold Bs; rw [List.length_append]; simp only [List.length_cons, List.length_nil]; omega
  obtain ⟨s, es, hs⟩ := draw_sha hb
  obtain ⟨t, et, ht⟩ := draw_sha hb2
  have em : laws_more.f b 1 = some ([1, 7] ++ b) := by
    unfold laws_more.f
    rw [show ((wrap64 (1 * 7)) % 256 : Int) = 7 by rw [w64 (by omega) (by omega)]; rfl, show ((1 : Int) % 256) = 1 by decide, Option.bind_some]
    rw [if_pos (by simp only [List.length_cons, List.length_nil]; omega)]
  have ds : ∀ x : ByteArray, ∀ r, Ev (fun k => spec_DrawSha1.f k b) r → Ev (fun k => spec_DrawLabel.f k b) r := fun _ r h => by unfold spec_DrawLabel.f; exact Ev.bind h (Ev.now _)
  have dt : ∀ r, Ev (fun k => spec_DrawSha1.f k ([1, 7] ++ b)) r → Ev (fun k => spec_DrawLabel.f k ([1, 7] ++ b)) r := fun r h => by unfold spec_DrawLabel.f; exact Ev.bind h (Ev.now _)
  have l1 := impl_label s (by omega)
  have l2 := impl_label t (by omega)
  have m1 := impl_sum s (by omega)
  have m2 := impl_sum t (by omega)
  have hz := shaSum_size s
  have hq : (((labelOf s).toList == (labelOf t).toList) == ((shaSum s).toList == (shaSum t).toList)) = true := by
    have h1 : ((labelOf s).toList = (labelOf t).toList) ↔ ((shaSum s).toList = (shaSum t).toList) := by rw [toList_iff, toList_iff]; exact label_same s t
    by_cases c : (shaSum s).toList = (shaSum t).toList
    · rw [beq_iff_eq.mpr c, beq_iff_eq.mpr (h1.mpr c)]; rfl
    · rw [beq_eq_false_iff_ne.mpr c, beq_eq_false_iff_ne.mpr (fun h => c (h1.mp h))]; rfl
  unfold laws_FnLabels.f
  exact Ev.bind (ds s s es) (Ev.told em (Ev.bind (dt t et) (Ev.bind l1 (Ev.bind (read_label s) (Ev.pos rfl (Ev.bind m1 (Ev.pos rfl (Ev.pos (by show ((shaSum s).size : Int) = 20; omega) (Ev.bind l1 (Ev.bind l2 (Ev.bind m1 (Ev.bind m2 (Ev.pos hq (Ev.bind sums_true (Ev.now _)))))))))))))))

end Go.Proofs.Ytoaijdlablanfaa.Pure
