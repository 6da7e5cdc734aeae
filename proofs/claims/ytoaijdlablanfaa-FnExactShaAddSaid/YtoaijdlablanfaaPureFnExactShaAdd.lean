/- The law FnExactShaAdd answers true for every state of a digest and every text: both add alike, leave the state as it was, and share no memory. No condition. -/
import Derived.Test.YtoaijdlablanfaaQFnExactShaAddx
import Derived.Test.YtoaijdlablanfaaBaseV
namespace Go.Proofs.Ytoaijdlablanfaa.Pure
open Go.RowKit Go.Proofs.Ytoaijdlablanfaa.PFnExactShaAdd Go.Proofs.YtoaijdlablanfaaV.PrintWords Go.Proofs.YtoaijdlablanfaaV.PrintLast Go.Proofs.YtoaijdlablanfaaV.PrintMore Go.Proofs.Ytoaijdlablanfaa.Base
set_option linter.unusedVariables false
set_option linter.unusedSimpArgs false

/-! A word turned left -/
def rot (w : Int) (n : Nat) : Int := w * 2 ^ n % 4294967296 + w / 2 ^ (32 - n)
theorem pow_pos2 (n : Nat) : (0 : Int) < 2 ^ n := by have := Nat.two_pow_pos n; exact_mod_cast this
theorem pow_split {n : Nat} (h : n ≤ 32) : (2 : Int) ^ n * 2 ^ (32 - n) = 4294967296 := by
  rw [← Int.pow_add, show n + (32 - n) = 32 by omega]; rfl
theorem rot_parts {w : Int} {n : Nat} (h0 : 0 ≤ w) (h1 : w ≤ 4294967295) (hn : n ≤ 31) :
    0 ≤ w / 2 ^ (32 - n) ∧ w / 2 ^ (32 - n) < 2 ^ n ∧ w * 2 ^ n % 4294967296 % 2 ^ n = 0 ∧ w * 2 ^ n % 4294967296 + w / 2 ^ (32 - n) ≤ 4294967295 ∧ w * 2 ^ n % 2 ^ n = 0 := by
  have hp := pow_pos2 n
  have hq := pow_pos2 (32 - n)
  have hs := pow_split (n := n) (by omega)
  have a1 : 0 ≤ w / 2 ^ (32 - n) := Int.ediv_nonneg h0 (Int.le_of_lt hq)
  have a2 : w / 2 ^ (32 - n) < 2 ^ n := by
    apply Int.ediv_lt_of_lt_mul hq
    rw [hs]; omega
  have a5 : w * 2 ^ n % 2 ^ n = 0 := Int.mul_emod_left _ _
  have a3 : w * 2 ^ n % 4294967296 % 2 ^ n = 0 := by
    rw [Int.emod_emod_of_dvd]
    · exact a5
    · exact ⟨2 ^ (32 - n), hs.symm⟩
  refine ⟨a1, a2, a3, ?_, a5⟩
  have b1 : w * 2 ^ n % 4294967296 < 4294967296 := Int.emod_lt_of_pos _ (by decide)
  have b2 : w * 2 ^ n % 4294967296 = 2 ^ n * (w * 2 ^ n % 4294967296 / 2 ^ n) := by
    have := Int.mul_ediv_add_emod (w * 2 ^ n % 4294967296) (2 ^ n)
    omega
  have b3 : w * 2 ^ n % 4294967296 / 2 ^ n < 2 ^ (32 - n) := by
    apply Int.ediv_lt_of_lt_mul hp
    rw [Int.mul_comm (2 ^ (32 - n)), hs]; exact b1
  have b4 : w * 2 ^ n % 4294967296 / 2 ^ n ≤ 2 ^ (32 - n) - 1 := by omega
  have b5 : 2 ^ n * (w * 2 ^ n % 4294967296 / 2 ^ n) ≤ 2 ^ n * (2 ^ (32 - n) - 1) := Int.mul_le_mul_of_nonneg_left b4 (Int.le_of_lt hp)
  rw [Int.mul_sub, hs] at b5
  omega
theorem rot_range {w : Int} {n : Nat} (h0 : 0 ≤ w) (h1 : w ≤ 4294967295) (hn : n ≤ 31) : 0 ≤ rot w n ∧ rot w n ≤ 4294967295 := by
  obtain ⟨a1, a2, a3, a4, a5⟩ := rot_parts h0 h1 hn
  unfold rot
  exact ⟨by have := Int.emod_nonneg (w * 2 ^ n) (show (4294967296 : Int) ≠ 0 by decide); omega, a4⟩
theorem mul_pow_lt {w : Int} {n : Nat} (h0 : 0 ≤ w) (h1 : w ≤ 4294967295) (hn : n ≤ 31) : 0 ≤ w * 2 ^ n ∧ w * 2 ^ n < 2 ^ 63 := by
  have hp := pow_pos2 n
  have h2 : (2 : Int) ^ n ≤ 2 ^ 31 := by
    have := Nat.pow_le_pow_right (n := 2) (by decide) hn
    exact_mod_cast this
  refine ⟨Int.mul_nonneg h0 (Int.le_of_lt hp), ?_⟩
  have h3 : w * 2 ^ n ≤ 4294967295 * 2 ^ 31 := Int.mul_le_mul h1 h2 (Int.le_of_lt hp) (by decide)
  omega
theorem spec_rot {w : Int} {n : Nat} (h0 : 0 ≤ w) (h1 : w ≤ 4294967295) (hn : n ≤ 31) :
    spec_l3turn.f w (n : Int) = some (rot w n) := by
  obtain ⟨a1, a2, a3, a4, a5⟩ := rot_parts h0 h1 hn
  obtain ⟨m0, m1⟩ := mul_pow_lt h0 h1 hn
  have hw : wrap64 (32 - (n : Int)) = ((32 - n : Nat) : Int) := by rw [w64 (by omega) (by omega)]; omega
  unfold spec_l3turn.f
  rw [if_pos (by omega), hw, if_pos (by omega)]
  have e1 : shl .i64 w (n : Int) = w * 2 ^ n := by
    unfold shl
    rw [Int.toNat_natCast, Nat.min_eq_left (by simp [IntKind.bits]; omega), wraps_i64 _ m0 m1]
  have e2 : shr .i64 w ((32 - n : Nat) : Int) = w / 2 ^ (32 - n) := by
    unfold shr
    rw [Int.toNat_natCast, Nat.min_eq_left (by simp [IntKind.bits]; omega)]
  have hp : (2 : Int) ^ n ≤ 2 ^ 31 := by
    have := Nat.pow_le_pow_right (n := 2) (by decide) hn
    exact_mod_cast this
  have e3 : Go.bits .or .i64 (w * 2 ^ n) (w / 2 ^ (32 - n)) = w * 2 ^ n + w / 2 ^ (32 - n) :=
    bits_join .i64 63 (by decide) wraps_i64 n _ _ m0 a5 m1 a1 a2 (by omega)
  have e4 : Go.bits .and .i64 (w * 2 ^ n + w / 2 ^ (32 - n)) (2 ^ 32 - 1) = (w * 2 ^ n + w / 2 ^ (32 - n)) % 2 ^ 32 := by
    refine bits_mask .i64 63 (by decide) wraps_i64 32 (by decide) _ (by omega) ?_
    have h3 : w * 2 ^ n ≤ 4294967295 * 2 ^ 31 := Int.mul_le_mul h1 hp (Int.le_of_lt (pow_pos2 n)) (by decide)
    omega
  have e5 : ((2 : Int) ^ 32 - 1) = 4294967295 := by decide
  rw [e1, e2, e3, ← e5, e4]
  congr 1
  unfold rot
  have e6 : (2 : Int) ^ 32 = 4294967296 := by decide
  rw [e6]
  have := Int.emod_nonneg (w * 2 ^ n) (show (4294967296 : Int) ≠ 0 by decide)
  omega
theorem impl_rot {w : Int} {n : Nat} (h0 : 0 ≤ w) (h1 : w ≤ 4294967295) (hn : n ≤ 31) :
    impl_turn.f w (n : Int) = some (rot w n) := by
  obtain ⟨a1, a2, a3, a4, a5⟩ := rot_parts h0 h1 hn
  have hwr : IntKind.u64.wrap (n : Int) = (n : Int) := wraps_u64 _ (by omega) (by omega)
  have e5 : ((2 : Int) ^ 5 - 1) = 31 := by decide
  have hn31 : Go.bits .and .u64 (n : Int) 31 = (n : Int) := by
    rw [← e5, bits_mask .u64 64 (by decide) wraps_u64 5 (by decide) _ (by omega) (by omega)]
    omega
  have hw : IntKind.u64.wrap (32 - (n : Int)) = ((32 - n : Nat) : Int) := by
    rw [wraps_u64 _ (by omega) (by omega)]; omega
  unfold impl_turn.f bits_RotateLeft32.f
  rw [hwr, hn31, hw, if_pos (by omega), if_pos (by omega)]
  rw [show w % 4294967296 = w by omega]
  have e1 : shl .u32 w (n : Int) = w * 2 ^ n % 4294967296 := by
    unfold shl
    rw [Int.toNat_natCast, Nat.min_eq_left (by simp [IntKind.bits]; omega), IntKind.wrap_u32]
  have e2 : shr .u32 w ((32 - n : Nat) : Int) = w / 2 ^ (32 - n) := by
    unfold shr
    rw [Int.toNat_natCast, Nat.min_eq_left (by simp [IntKind.bits])]
  have hp : (2 : Int) ^ n ≤ 2 ^ 31 := by
    have := Nat.pow_le_pow_right (n := 2) (by decide) hn
    exact_mod_cast this
  have hm := Int.emod_nonneg (w * 2 ^ n) (show (4294967296 : Int) ≠ 0 by decide)
  have hm2 := Int.emod_lt_of_pos (w * 2 ^ n) (show (0 : Int) < 4294967296 by decide)
  have e3 : Go.bits .or .u32 (w * 2 ^ n % 4294967296) (w / 2 ^ (32 - n)) = w * 2 ^ n % 4294967296 + w / 2 ^ (32 - n) :=
    bits_join .u32 32 (by decide) wraps_u32 n _ _ hm a3 (by omega) a1 a2 (by omega)
  rw [e1, e2, e3]
  simp only [Option.bind_some]
  rw [w64 (by omega) (by omega)]
  rfl

/-! Words of 32 bits -/
def W (x : Int) : Prop := 0 ≤ x ∧ x ≤ 4294967295
theorem bits_nat64 (a b : Nat) (ha : a < 2 ^ 32) (hb : b < 2 ^ 32) : Go.bits .and .i64 (a : Int) (b : Int) = ((a &&& b : Nat) : Int) ∧ Go.bits .or .i64 (a : Int) (b : Int) = ((a ||| b : Nat) : Int) ∧ Go.bits .xor .i64 (a : Int) (b : Int) = ((a ^^^ b : Nat) : Int) := by
  have ha' : a < 2 ^ 63 := by omega
  have hb' : b < 2 ^ 63 := by omega
  have h := bits_nat .i64 63 (by decide) wraps_i64 a b ha' hb'
  refine ⟨h.1, h.2, ?_⟩
  have e1 : a % 2 ^ IntKind.i64.bits = a := Nat.mod_eq_of_lt (by simp only [IntKind.bits]; omega)
  have e2 : b % 2 ^ IntKind.i64.bits = b := Nat.mod_eq_of_lt (by simp only [IntKind.bits]; omega)
  simp only [Go.bits, BitVec.ofInt_natCast, BitVec.toNat_xor, BitVec.toNat_ofNat, e1, e2]
  have hx := Nat.xor_lt_two_pow ha hb
  exact wraps_i64 _ (Int.natCast_nonneg _) (by have : ((a ^^^ b : Nat) : Int) < ((2 ^ 32 : Nat) : Int) := by exact_mod_cast hx
                                               omega)
theorem and_W {a b : Int} (ha : W a) (hb : W b) : W (Go.bits .and .i64 a b) := by
  obtain ⟨x, rfl⟩ := Int.eq_ofNat_of_zero_le ha.1
  obtain ⟨y, rfl⟩ := Int.eq_ofNat_of_zero_le hb.1
  have h1 := ha.2
  have h2 := hb.2
  rw [(bits_nat64 x y (by omega) (by omega)).1]
  have := Nat.and_lt_two_pow (n := 32) x (show y < 2 ^ 32 by omega)
  exact ⟨by omega, by omega⟩
theorem or_W {a b : Int} (ha : W a) (hb : W b) : W (Go.bits .or .i64 a b) := by
  obtain ⟨x, rfl⟩ := Int.eq_ofNat_of_zero_le ha.1
  obtain ⟨y, rfl⟩ := Int.eq_ofNat_of_zero_le hb.1
  have h1 := ha.2
  have h2 := hb.2
  rw [(bits_nat64 x y (by omega) (by omega)).2.1]
  have := Nat.or_lt_two_pow (n := 32) (show x < 2 ^ 32 by omega) (show y < 2 ^ 32 by omega)
  exact ⟨by omega, by omega⟩
theorem xor_W {a b : Int} (ha : W a) (hb : W b) : W (Go.bits .xor .i64 a b) := by
  obtain ⟨x, rfl⟩ := Int.eq_ofNat_of_zero_le ha.1
  obtain ⟨y, rfl⟩ := Int.eq_ofNat_of_zero_le hb.1
  have h1 := ha.2
  have h2 := hb.2
  rw [(bits_nat64 x y (by omega) (by omega)).2.2]
  have := Nat.xor_lt_two_pow (n := 32) (show x < 2 ^ 32 by omega) (show y < 2 ^ 32 by omega)
  exact ⟨by omega, by omega⟩
theorem mask_W : W 4294967295 := ⟨by decide, by decide⟩
theorem mask_any {a : Int} (h0 : 0 ≤ a) (h1 : a < 9223372036854775808) : Go.bits .and .i64 a 4294967295 = a % 4294967296 := by
  obtain ⟨x, rfl⟩ := Int.eq_ofNat_of_zero_le h0
  rw [and_mask x 32 (by decide) (by omega) 4294967295 (by decide)]
  omega
theorem mask_any_W {a : Int} (h0 : 0 ≤ a) (h1 : a < 9223372036854775808) : W (Go.bits .and .i64 a 4294967295) := by
  rw [mask_any h0 h1]; exact ⟨by omega, by omega⟩
theorem ofInt_wrap (v : BitVec 64) : BitVec.ofInt 64 (IntKind.i64.wrap (v.toNat : Int)) = v := by
  have h := v.isLt
  apply BitVec.eq_of_toNat_eq
  rw [IntKind.wrap_i64, BitVec.toNat_ofInt]
  omega
theorem not_form {b d : Int} (hb : W b) (hd : W d) : Go.bits .and .i64 (Go.bits .and .i64 (Go.bits .xor .i64 (-1) b) d) 4294967295 = Go.bits .and .i64 (Go.bits .xor .i64 b 4294967295) d := by
  obtain ⟨x, rfl⟩ := Int.eq_ofNat_of_zero_le hb.1
  obtain ⟨y, rfl⟩ := Int.eq_ofNat_of_zero_le hd.1
  have hy : y < 2 ^ 32 := by have := hd.2; omega
  show IntKind.i64.wrap ((BitVec.ofInt 64 (IntKind.i64.wrap ((BitVec.ofInt 64 (IntKind.i64.wrap ((BitVec.ofInt 64 (-1) ^^^ BitVec.ofInt 64 (x : Int)).toNat : Int)) &&& BitVec.ofInt 64 (y : Int)).toNat : Int)) &&& BitVec.ofInt 64 4294967295).toNat : Int) = IntKind.i64.wrap ((BitVec.ofInt 64 (IntKind.i64.wrap ((BitVec.ofInt 64 (x : Int) ^^^ BitVec.ofInt 64 4294967295).toNat : Int)) &&& BitVec.ofInt 64 (y : Int)).toNat : Int)
  rw [ofInt_wrap, ofInt_wrap, ofInt_wrap]
  congr 3
  have em : BitVec.ofInt 64 4294967295 = BitVec.ofNat 64 (2 ^ 32 - 1) := by decide
  have e1 : BitVec.ofInt 64 (-1) = BitVec.allOnes 64 := by decide
  rw [em, e1, BitVec.ofInt_natCast, BitVec.ofInt_natCast]
  apply BitVec.eq_of_getLsbD_eq
  intro i hi
  simp only [BitVec.getLsbD_and, BitVec.getLsbD_xor, BitVec.getLsbD_allOnes, BitVec.getLsbD_ofNat, hi, decide_true, Bool.true_and, Bool.true_xor, Nat.testBit_two_pow_sub_one]
  by_cases h : i < 32
  · simp [h]
  · have : y.testBit i = false := Nat.testBit_lt_two_pow (Nat.lt_of_lt_of_le hy (Nat.pow_le_pow_right (by decide) (by omega)))
    simp [this]

/-! The eighty words of a block -/
def w0 (s : ByteArray) (t : Nat) : Int := Go.bits .or .i64 (Go.bits .or .i64 (Go.bits .or .i64 (wrap64 ((wrap64 (bt s ((4 * t : Nat) : Int))) * 16777216)) (wrap64 ((wrap64 (bt s ((4 * t + 1 : Nat) : Int))) * 65536))) (wrap64 ((wrap64 (bt s ((4 * t + 2 : Nat) : Int))) * 256))) (wrap64 (bt s ((4 * t + 3 : Nat) : Int)))
def xr (xs : List Int) (t : Nat) : Int := Go.bits .xor .i64 (Go.bits .xor .i64 (Go.bits .xor .i64 (rd xs ((t - 3 : Nat) : Int)) (rd xs ((t - 8 : Nat) : Int))) (rd xs ((t - 14 : Nat) : Int))) (rd xs ((t - 16 : Nat) : Int))
def schStep (s : ByteArray) (xs : List Int) (t : Nat) : Int := if t < 16 then w0 s t else rot (xr xs t) 1
def sch (s : ByteArray) : Nat → List Int
  | 0 => []
  | t + 1 => sch s t ++ [schStep s (sch s t) t]
theorem sch_length (s : ByteArray) (t : Nat) : (sch s t).length = t := by
  induction t with
  | zero => rfl
  | succ t ih => simp [sch, ih]
theorem w0_W (s : ByteArray) (t : Nat) : W (w0 s t) := by
  have h0 := bt_range s ((4 * t : Nat) : Int)
  have h1 := bt_range s ((4 * t + 1 : Nat) : Int)
  have h2 := bt_range s ((4 * t + 2 : Nat) : Int)
  have h3 := bt_range s ((4 * t + 3 : Nat) : Int)
  unfold w0
  generalize bt s ((4 * t : Nat) : Int) = b0 at *
  generalize bt s ((4 * t + 1 : Nat) : Int) = b1 at *
  generalize bt s ((4 * t + 2 : Nat) : Int) = b2 at *
  generalize bt s ((4 * t + 3 : Nat) : Int) = b3 at *
  rw [w64 (n := b0) (by omega) (by omega), w64 (n := b1) (by omega) (by omega), w64 (n := b2) (by omega) (by omega), w64 (n := b3) (by omega) (by omega), w64 (n := b0 * _) (by omega) (by omega), w64 (n := b1 * _) (by omega) (by omega), w64 (n := b2 * _) (by omega) (by omega)]
  exact or_W (or_W (or_W ⟨by omega, by omega⟩ ⟨by omega, by omega⟩) ⟨by omega, by omega⟩) ⟨by omega, by omega⟩
theorem rd_W {xs : List Int} (h : ∀ x ∈ xs, W x) (i : Int) : W (rd xs i) := by
  unfold rd
  by_cases hi : i.toNat < xs.length
  · exact h _ (getD_mem hi)
  · rw [getD_past (by omega)]; exact ⟨by decide, by decide⟩
theorem xr_W {xs : List Int} (h : ∀ x ∈ xs, W x) (t : Nat) : W (xr xs t) := xor_W (xor_W (xor_W (rd_W h _) (rd_W h _)) (rd_W h _)) (rd_W h _)
theorem rot_W {x : Int} (h : W x) (n : Nat) (hn : n ≤ 31) : W (rot x n) := rot_range h.1 h.2 hn
theorem sch_W (s : ByteArray) (t : Nat) : ∀ x ∈ sch s t, W x := by
  induction t with
  | zero => simp [sch]
  | succ t ih =>
    intro x hx
    simp only [sch, List.mem_append, List.mem_singleton] at hx
    rcases hx with hx | rfl
    · exact ih x hx
    · unfold schStep
      split
      · exact w0_W s t
      · exact rot_W (xr_W ih t) 1 (by omega)
theorem bt_piece (s : ByteArray) (a b j : Nat) (h : b ≤ s.size) (hj : a + j < b) : bt (s.extract a b) (j : Int) = bt s ((a + j : Nat) : Int) := by
  rw [bt_nat, bt_nat, bytes_extract]
  rw [List.getD_eq_getElem?_getD, List.getD_eq_getElem?_getD, List.getElem?_take_of_lt (by omega), List.getElem?_drop]

theorem impl_sch_l0 (s : ByteArray) (h64 : s.size = 64) : ∀ (d t : Nat), t + d = 80 → Ev (fun k => impl_Schedule.l0 k s (sch s t) (t : Int)) (sch s 80) := by
  intro d
  induction d with
  | zero =>
    intro t h
    refine Ev.step (fun k => impl_Schedule.l0.eq_2 _ _ _ k) (Ev.neg (by omega) ?_)
    rw [show t = 80 by omega]; exact Ev.now _
  | succ d ih =>
    intro t h
    have hw : wrap64 ((t : Int) + 1) = ((t + 1 : Nat) : Int) := by rw [w64 (by omega) (by omega)]; omega
    have hl := sch_length s t
    have hn := ih (t + 1) (by omega)
    refine Ev.step (fun k => impl_Schedule.l0.eq_2 _ _ _ k) (Ev.pos (by omega) ?_)
    rw [hw]
    by_cases h16 : t < 16
    · have e4 : wrap64 (4 * (t : Int)) = ((4 * t : Nat) : Int) := by rw [w64 (by omega) (by omega)]; omega
      have e8 : wrap64 (((4 * t : Nat) : Int) + 4) = ((4 * t + 4 : Nat) : Int) := by rw [w64 (by omega) (by omega)]; omega
      rw [e4, e8, Int.toNat_natCast, Int.toNat_natCast]
      have hz : (s.extract (4 * t) (4 * t + 4)).size = 4 := by rw [size_extract _ _ _ (by omega)]; omega
      have b0 : bt (s.extract (4 * t) (4 * t + 4)) 0 = bt s ((4 * t : Nat) : Int) := bt_piece s _ _ 0 (by omega) (by omega)
      have b1 : bt (s.extract (4 * t) (4 * t + 4)) 1 = bt s ((4 * t + 1 : Nat) : Int) := bt_piece s _ _ 1 (by omega) (by omega)
      have b2 : bt (s.extract (4 * t) (4 * t + 4)) 2 = bt s ((4 * t + 2 : Nat) : Int) := bt_piece s _ _ 2 (by omega) (by omega)
      have b3 : bt (s.extract (4 * t) (4 * t + 4)) 3 = bt s ((4 * t + 3 : Nat) : Int) := bt_piece s _ _ 3 (by omega) (by omega)
      rw [hz, b0, b1, b2, b3]
      refine Ev.pos (by omega) (Ev.pos (by omega) (Ev.pos (by omega) (Ev.pos (by omega) (Ev.pos (by omega) (Ev.pos (by omega) (Ev.pos (by omega) (Ev.pos (by omega) (Ev.pos (by omega) ?_))))))))
      have e : sch s (t + 1) = sch s t ++ [w0 s t] := by simp only [sch, schStep]; rw [if_pos h16]
      rw [e] at hn
      exact hn
    · have e3 : wrap64 ((t : Int) - 3) = ((t - 3 : Nat) : Int) := by rw [w64 (by omega) (by omega)]; omega
      have e8 : wrap64 ((t : Int) - 8) = ((t - 8 : Nat) : Int) := by rw [w64 (by omega) (by omega)]; omega
      have e14 : wrap64 ((t : Int) - 14) = ((t - 14 : Nat) : Int) := by rw [w64 (by omega) (by omega)]; omega
      have e16 : wrap64 ((t : Int) - 16) = ((t - 16 : Nat) : Int) := by rw [w64 (by omega) (by omega)]; omega
      rw [e3, e8, e14, e16]
      have hx := xr_W (sch_W s t) t
      refine Ev.neg (by omega) (Ev.pos (by omega) (Ev.pos (by omega) (Ev.pos (by omega) (Ev.pos (by omega) (Ev.pos (by omega) (Ev.pos (by omega) (Ev.pos (by omega) (Ev.pos (by omega) (Ev.told (impl_rot (n := 1) hx.1 hx.2 (by omega)) (Ev.pos (by omega) ?_))))))))))
      have e : sch s (t + 1) = sch s t ++ [rot (xr (sch s t) t) 1] := by simp only [sch, schStep]; rw [if_neg h16]
      rw [e] at hn
      exact hn
theorem impl_sch (s : ByteArray) : Ev (fun k => impl_Schedule.f k s) (if s.size = 64 then sch s 80 else []) := by
  unfold impl_Schedule.f
  by_cases h : s.size = 64
  · rw [if_pos h]; exact Ev.pos (by omega) (impl_sch_l0 s h 80 0 (by omega))
  · rw [if_neg h]; exact Ev.neg (by omega) (Ev.now _)

theorem rd_app {xs ys : List Int} {i : Nat} (h : i < xs.length) : rd (xs ++ ys) (i : Int) = rd xs (i : Int) := by
  unfold rd
  rw [Int.toNat_natCast, List.getD_eq_getElem?_getD, List.getD_eq_getElem?_getD, List.getElem?_append_left h]
theorem set_app (xs : List Int) (m : Nat) (v : Int) (t : Nat) (h : xs.length = t) : (xs ++ List.replicate (m + 1) 0).set t v = (xs ++ [v]) ++ List.replicate m 0 := by
  subst h
  rw [List.set_append_right _ _ (Nat.le_refl _), Nat.sub_self, List.replicate_succ]
  simp
theorem spec_sch_l0 (s : ByteArray) (h64 : s.size = 64) : ∀ (d t : Nat), t + d = 80 → Ev (fun k => spec_Schedule.l0 k s (sch s t ++ List.replicate d 0) (t : Int)) (sch s 80) := by
  intro d
  induction d with
  | zero =>
    intro t h
    refine Ev.step (fun k => spec_Schedule.l0.eq_2 _ _ _ k) (Ev.neg (by omega) ?_)
    rw [show t = 80 by omega, List.replicate_zero, List.append_nil]; exact Ev.now _
  | succ d ih =>
    intro t h
    have hw : wrap64 ((t : Int) + 1) = ((t + 1 : Nat) : Int) := by rw [w64 (by omega) (by omega)]; omega
    have hl := sch_length s t
    have hL : (sch s t ++ List.replicate (d + 1) 0).length = 80 := by simp [hl]; omega
    have hn := ih (t + 1) (by omega)
    refine Ev.step (fun k => spec_Schedule.l0.eq_2 _ _ _ k) (Ev.pos (by omega) ?_)
    rw [hw, hL, Int.toNat_natCast]
    by_cases h16 : t < 16
    · have e4 : wrap64 (4 * (t : Int)) = ((4 * t : Nat) : Int) := by rw [w64 (by omega) (by omega)]; omega
      have e5 : wrap64 (((4 * t : Nat) : Int) + 1) = ((4 * t + 1 : Nat) : Int) := by rw [w64 (by omega) (by omega)]; omega
      have e6 : wrap64 (((4 * t : Nat) : Int) + 2) = ((4 * t + 2 : Nat) : Int) := by rw [w64 (by omega) (by omega)]; omega
      have e7 : wrap64 (((4 * t : Nat) : Int) + 3) = ((4 * t + 3 : Nat) : Int) := by rw [w64 (by omega) (by omega)]; omega
      rw [e4, e5, e6, e7, set_app _ d _ t hl]
      refine Ev.pos (by omega) (Ev.pos (by omega) (Ev.pos (by omega) (Ev.pos (by omega) (Ev.pos (by omega) (Ev.pos (by omega) (Ev.pos (by omega) (Ev.pos (by omega) (Ev.pos (by omega) (Ev.pos (by omega) (Ev.pos (by omega) ?_))))))))))
      have e : sch s (t + 1) = sch s t ++ [w0 s t] := by simp only [sch, schStep]; rw [if_pos h16]
      rw [e] at hn
      exact hn
    · have e3 : wrap64 ((t : Int) - 3) = ((t - 3 : Nat) : Int) := by rw [w64 (by omega) (by omega)]; omega
      have e8 : wrap64 ((t : Int) - 8) = ((t - 8 : Nat) : Int) := by rw [w64 (by omega) (by omega)]; omega
      have e14 : wrap64 ((t : Int) - 14) = ((t - 14 : Nat) : Int) := by rw [w64 (by omega) (by omega)]; omega
      have e16 : wrap64 ((t : Int) - 16) = ((t - 16 : Nat) : Int) := by rw [w64 (by omega) (by omega)]; omega
      rw [e3, e8, e14, e16, rd_app (show t - 3 < _ by omega), rd_app (show t - 8 < _ by omega), rd_app (show t - 14 < _ by omega), rd_app (show t - 16 < _ by omega)]
      have hx := xr_W (sch_W s t) t
      refine Ev.neg (by omega) (Ev.pos (by omega) (Ev.pos (by omega) (Ev.pos (by omega) (Ev.pos (by omega) (Ev.pos (by omega) (Ev.pos (by omega) (Ev.pos (by omega) (Ev.pos (by omega) (Ev.told (spec_rot (n := 1) hx.1 hx.2 (by omega)) (Ev.pos (by omega) (Ev.pos (by omega) ?_)))))))))))
      rw [set_app _ d _ t hl]
      have e : sch s (t + 1) = sch s t ++ [rot (xr (sch s t) t) 1] := by simp only [sch, schStep]; rw [if_neg h16]
      rw [e] at hn
      exact hn
theorem spec_sch (s : ByteArray) : Ev (fun k => spec_Schedule.f k s) (if s.size = 64 then sch s 80 else []) := by
  unfold spec_Schedule.f
  by_cases h : s.size = 64
  · rw [if_pos h]
    refine Ev.pos (by omega) (Ev.pos (by omega) ?_)
    have := spec_sch_l0 s h 80 0 (by omega)
    simpa [sch] using this
  · rw [if_neg h]; exact Ev.neg (by omega) (Ev.now _)

/-! Lists of numbers: compared; marked; are the marks held -/
def upFrom (m : Int) (n : Nat) : List Int := (List.range n).map fun (j : Nat) => m + (j : Int)
theorem upFrom_succ (m : Int) (n : Nat) : upFrom m (n + 1) = m :: upFrom (m + 1) n := by
  unfold upFrom
  rw [List.range_succ_eq_map]
  simp only [List.map_cons, List.map_map]
  congr 1
  · simp
  · apply List.map_congr_left
    intro j _
    simp only [Function.comp]
    omega
theorem upFrom_length (m : Int) (n : Nat) : (upFrom m n).length = n := by simp [upFrom]
theorem eqI_loop (xs : List Int) (hb : xs.length ≤ 140737488355328) : ∀ (d i : Nat), i + d = xs.length → Ev (fun k => laws_eqIntS.l0 k xs xs (i : Int)) true := by
  intro d
  induction d with
  | zero => intro i h; exact Ev.step (fun k => laws_eqIntS.l0.eq_2 _ _ _ k) (Ev.neg (by omega) (Ev.now _))
  | succ d ih =>
    intro i h
    have hw : wrap64 ((i : Int) + 1) = ((i + 1 : Nat) : Int) := by rw [w64 (by omega) (by omega)]; omega
    refine Ev.step (fun k => laws_eqIntS.l0.eq_2 _ _ _ k) (Ev.pos (by omega) (Ev.pos (by omega) (Ev.pos (by omega) (Ev.pos rfl ?_))))
    rw [hw]
    exact ih (i + 1) (by omega)
theorem eqI_same (xs : List Int) (hb : xs.length ≤ 140737488355328) : Ev (fun k => laws_eqIntS.f k xs xs) true := by
  unfold laws_eqIntS.f
  exact Ev.pos rfl (eqI_loop xs hb xs.length 0 (by omega))

theorem toI_loop (xs : List Int) (hb : xs.length ≤ 1048576) : ∀ (d i : Nat) (ys : List Int), i + d = xs.length → ys.length = xs.length → ys.take i = xs.take i →
    Ev (fun k => laws_toIntS.l0 k xs ys (i : Int)) xs := by
  intro d
  induction d with
  | zero =>
    intro i ys h hl ht
    refine Ev.step (fun k => laws_toIntS.l0.eq_2 _ _ _ k) (Ev.neg (by omega) ?_)
    rw [List.take_of_length_le (by omega), List.take_of_length_le (by omega)] at ht
    rw [ht]; exact Ev.now _
  | succ d ih =>
    intro i ys h hl ht
    have hw : wrap64 ((i : Int) + 1) = ((i + 1 : Nat) : Int) := by rw [w64 (by omega) (by omega)]; omega
    refine Ev.step (fun k => laws_toIntS.l0.eq_2 _ _ _ k) (Ev.pos (by omega) (Ev.pos (by omega) (Ev.pos (by omega) ?_)))
    rw [hw, Int.toNat_natCast]
    refine ih (i + 1) _ (by omega) (by simpa using hl) ?_
    rw [take_snoc (by simp; omega), take_snoc (by omega), List.take_set_of_le (by omega), ht]
    congr 2
    rw [List.getD_eq_getElem?_getD, List.getElem?_set_self (by omega)]
    rfl
theorem toI_all (xs : List Int) (hb : xs.length ≤ 1048576) : Ev (fun k => laws_toIntS.f k xs) xs := by
  unfold laws_toIntS.f
  refine Ev.pos (by omega) (Ev.pos (by omega) ?_)
  exact toI_loop xs hb xs.length 0 _ (by omega) (by simp) (by simp)

theorem mark_loop : ∀ (d i : Nat) (xs : List Int) (m : Int), i + d = xs.length → xs.length ≤ 140737488355328 → 0 ≤ m → m ≤ 1000000000000000 + (i : Int) →
    Ev (fun k => laws_markIntS.l0 k xs m (i : Int)) (m + (d : Int), xs.take i ++ upFrom m d) := by
  intro d
  induction d with
  | zero =>
    intro i xs m h hb h0 h1
    refine Ev.step (fun k => laws_markIntS.l0.eq_2 _ _ _ k) (Ev.neg (by omega) ?_)
    have e : (m + ((0 : Nat) : Int), xs.take i ++ upFrom m 0) = (m, xs) := by
      rw [List.take_of_length_le (by omega)]
      simp [upFrom]
    rw [e]; exact Ev.now _
  | succ d ih =>
    intro i xs m h hb h0 h1
    have hw : wrap64 ((i : Int) + 1) = ((i + 1 : Nat) : Int) := by rw [w64 (by omega) (by omega)]; omega
    have hw2 : wrap64 (m + 1) = m + 1 := w64 (by omega) (by omega)
    refine Ev.step (fun k => laws_markIntS.l0.eq_2 _ _ _ k) (Ev.pos (by omega) (Ev.pos (by omega) ?_))
    rw [hw, hw2, Int.toNat_natCast]
    have h2 := ih (i + 1) (xs.set i m) (m + 1) (by simp; omega) (by simpa using hb) (by omega) (by omega)
    have e : (m + ((d + 1 : Nat) : Int), xs.take i ++ upFrom m (d + 1)) = (m + 1 + (d : Int), (xs.set i m).take (i + 1) ++ upFrom (m + 1) d) := by
      have e1 : m + ((d + 1 : Nat) : Int) = m + 1 + (d : Int) := by omega
      have e2 : (xs.set i m).take (i + 1) = xs.take i ++ [m] := by
        rw [take_snoc (by simp; omega)]
        congr 1
        · simp [List.take_set_of_le]
        · rw [List.getD_eq_getElem?_getD, List.getElem?_set_self (by omega)]; rfl
      rw [e1, e2, upFrom_succ]
      simp
    rw [e]
    exact h2
theorem mark_all (xs : List Int) (hb : xs.length ≤ 140737488355328) : Ev (fun k => laws_markIntS.f k xs 1) (1 + (xs.length : Int), upFrom 1 xs.length) := by
  have := mark_loop xs.length 0 xs 1 (by omega) hb (by omega) (by omega)
  show Ev (fun k => laws_markIntS.l0 k xs 1 0) _
  simpa using this
theorem held_loop (n : Nat) (hb : n ≤ 140737488355328) : ∀ (d i : Nat), i + d = n →
    Ev (fun k => laws_heldIntS.l0 k (upFrom 1 n) (1 + (i : Int)) (i : Int)) (1 + (n : Int)) := by
  intro d
  induction d with
  | zero =>
    intro i h
    refine Ev.step (fun k => laws_heldIntS.l0.eq_2 _ _ _ k) (Ev.neg (by rw [upFrom_length]; omega) ?_)
    rw [show i = n by omega]; exact Ev.now _
  | succ d ih =>
    intro i h
    have hw : wrap64 ((i : Int) + 1) = ((i + 1 : Nat) : Int) := by rw [w64 (by omega) (by omega)]; omega
    have hw2 : wrap64 (1 + (i : Int) + 1) = 1 + ((i + 1 : Nat) : Int) := by rw [w64 (by omega) (by omega)]; omega
    have hr : rd (upFrom 1 n) (i : Int) = 1 + (i : Int) := by
      unfold rd upFrom
      rw [Int.toNat_natCast, List.getD_eq_getElem?_getD, List.getElem?_map, List.getElem?_range (by omega)]; rfl
    refine Ev.step (fun k => laws_heldIntS.l0.eq_2 _ _ _ k) (Ev.pos (by rw [upFrom_length]; omega) (Ev.pos (by omega) (Ev.pos hr ?_)))
    rw [hw, hw2]
    exact ih (i + 1) (by omega)
theorem held_all (n : Nat) (hb : n ≤ 140737488355328) : Ev (fun k => laws_heldIntS.f k (upFrom 1 n) 1) (1 + (n : Int)) := by
  have := held_loop n hb n 0 (by omega)
  show Ev (fun k => laws_heldIntS.l0 k (upFrom 1 n) 1 0) _
  simpa using this

/-! Five words -/
def word (x : Int) : Bool := decide (0 ≤ x) && decide (x ≤ 4294967295)
theorem spec_word (x : Int) : spec_l3word.f x = some (word x) := by
  unfold spec_l3word.f word
  by_cases h : 0 ≤ x
  · rw [if_pos h]; simp [h]
  · rw [if_neg h]; simp [h]
theorem impl_within_word (x : Int) : impl_within.f x 0 4294967295 = some (word x) := by
  unfold impl_within.f word
  by_cases h : 0 ≤ x
  · rw [if_pos h]; simp [h]
  · rw [if_neg h]; simp [h]
theorem all_step (xs : List Int) (i : Nat) (h : i < xs.length) : (xs.drop i).all word = (word (rd xs (i : Int)) && (xs.drop (i + 1)).all word) := by
  rw [drop_cons h]; rfl
theorem spec_words_l0 (xs : List Int) (h5 : xs.length = 5) : ∀ (d i : Nat), i + d = 5 → Ev (fun k => spec_l3words.l0 k xs (i : Int)) ((xs.drop i).all word) := by
  intro d
  induction d with
  | zero =>
    intro i h
    refine Ev.step (fun k => spec_l3words.l0.eq_2 _ _ k) (Ev.neg (by omega) ?_)
    rw [List.drop_eq_nil_of_le (by omega)]; exact Ev.now _
  | succ d ih =>
    intro i h
    have hw : wrap64 ((i : Int) + 1) = ((i + 1 : Nat) : Int) := by rw [w64 (by omega) (by omega)]; omega
    refine Ev.step (fun k => spec_l3words.l0.eq_2 _ _ k) (Ev.pos (by omega) (Ev.pos (by omega) (Ev.pos (by omega) (Ev.told (spec_word _) ?_))))
    rw [all_step xs i (by omega)]
    cases hx : word (rd xs (i : Int)) with
    | true =>
      refine Ev.pos rfl ?_
      rw [hw, Bool.true_and]
      exact ih (i + 1) (by omega)
    | false => exact Ev.neg (by simp) (Ev.now _)
def wordsOk (xs : List Int) : Bool := decide (xs.length = 5) && xs.all word
theorem spec_words (xs : List Int) : Ev (fun k => spec_l3words.f k xs) (wordsOk xs) := by
  unfold spec_l3words.f wordsOk
  by_cases h5 : xs.length = 5
  · refine Ev.pos (by omega) ?_
    have := spec_words_l0 xs h5 5 0 (by omega)
    rw [decide_eq_true h5, Bool.true_and]
    simpa using this
  · refine Ev.neg (by omega) ?_
    rw [decide_eq_false h5, Bool.false_and]; exact Ev.now _
theorem impl_words_l0 (xs : List Int) (hb : xs.length ≤ 140737488355328) : ∀ (d i : Nat), i + d = xs.length → Ev (fun k => impl_areWords.l0 k xs (xs.length : Int) (i : Int)) ((xs.drop i).all word) := by
  intro d
  induction d with
  | zero =>
    intro i h
    refine Ev.step (fun k => impl_areWords.l0.eq_2 _ _ _ k) (Ev.neg (by omega) ?_)
    rw [List.drop_eq_nil_of_le (by omega)]; exact Ev.now _
  | succ d ih =>
    intro i h
    have hw : wrap64 ((i : Int) + 1) = ((i + 1 : Nat) : Int) := by rw [w64 (by omega) (by omega)]; omega
    refine Ev.step (fun k => impl_areWords.l0.eq_2 _ _ _ k) (Ev.pos (by omega) (Ev.pos (by omega) (Ev.pos (by omega) (Ev.told (impl_within_word _) ?_))))
    rw [all_step xs i (by omega)]
    cases hx : word (rd xs (i : Int)) with
    | true =>
      refine Ev.pos rfl ?_
      rw [hw, Bool.true_and]
      exact ih (i + 1) (by omega)
    | false => exact Ev.neg (by simp) (Ev.now _)
theorem impl_words (xs : List Int) : Ev (fun k => impl_areWords.f k xs 5) (wordsOk xs) := by
  unfold impl_areWords.f wordsOk
  by_cases h5 : xs.length = 5
  · refine Ev.pos (by omega) ?_
    have := impl_words_l0 xs (by omega) 5 0 (by omega)
    rw [decide_eq_true h5, Bool.true_and]
    simpa using this
  · refine Ev.neg (by omega) ?_
    rw [decide_eq_false h5, Bool.false_and]; exact Ev.now _

/-! A block mixed into five words -/
abbrev S5 := Int × Int × Int × Int × Int
def fT (t : Nat) (b c d : Int) : Int :=
  if t < 20 then Go.bits .or .i64 (Go.bits .and .i64 b c) (Go.bits .and .i64 (Go.bits .xor .i64 b 4294967295) d)
  else if 40 ≤ t ∧ t < 60 then Go.bits .or .i64 (Go.bits .or .i64 (Go.bits .and .i64 b c) (Go.bits .and .i64 b d)) (Go.bits .and .i64 c d)
  else Go.bits .xor .i64 (Go.bits .xor .i64 b c) d
def kT (t : Nat) : Int := if t < 20 then 1518500249 else if t < 40 then 1859775393 else if t < 60 then 2400959708 else 3395469782
def stepC (t : Nat) (w : Int) : S5 → S5
  | (a, b, c, d, e) => (Go.bits .and .i64 (wrap64 ((wrap64 ((wrap64 ((wrap64 (rot a 5 + fT t b c d)) + e)) + w)) + kT t)) 4294967295, a, rot b 30, c, d)
def runC (ws : List Int) : Nat → Nat → S5 → S5
  | 0, _, s => s
  | n + 1, t, s => runC ws n (t + 1) (stepC t (rd ws (t : Int)) s)
def W5 : S5 → Prop
  | (a, b, c, d, e) => W a ∧ W b ∧ W c ∧ W d ∧ W e
def fin5 (h : List Int) : S5 → List Int
  | (a, b, c, d, e) => [Go.bits .and .i64 (wrap64 ((rd h 0) + a)) 4294967295, Go.bits .and .i64 (wrap64 ((rd h 1) + b)) 4294967295, Go.bits .and .i64 (wrap64 ((rd h 2) + c)) 4294967295, Go.bits .and .i64 (wrap64 ((rd h 3) + d)) 4294967295, Go.bits .and .i64 (wrap64 ((rd h 4) + e)) 4294967295]
def comp (h : List Int) (s : ByteArray) : List Int := fin5 h (runC (sch s 80) 80 0 (rd h 0, rd h 1, rd h 2, rd h 3, rd h 4))
theorem fT_W (t : Nat) {b c d : Int} (hb : W b) (hc : W c) (hd : W d) : W (fT t b c d) := by
  unfold fT
  split
  · exact or_W (and_W hb hc) (and_W (xor_W hb mask_W) hd)
  · split
    · exact or_W (or_W (and_W hb hc) (and_W hb hd)) (and_W hc hd)
    · exact xor_W (xor_W hb hc) hd
theorem kT_W (t : Nat) : W (kT t) := by
  unfold kT
  split
  · exact ⟨by decide, by decide⟩
  · split
    · exact ⟨by decide, by decide⟩
    · split <;> exact ⟨by decide, by decide⟩
theorem sum_W {a b c d e : Int} (ha : W a) (hb : W b) (hc : W c) (hd : W d) (he : W e) : W (Go.bits .and .i64 (wrap64 ((wrap64 ((wrap64 ((wrap64 (a + b)) + c)) + d)) + e)) 4294967295) := by
  have h1 := ha.1; have h2 := ha.2; have h3 := hb.1; have h4 := hb.2; have h5 := hc.1; have h6 := hc.2; have h7 := hd.1; have h8 := hd.2; have h9 := he.1; have h10 := he.2
  rw [w64 (n := a + b) (by omega) (by omega), w64 (n := a + b + c) (by omega) (by omega), w64 (n := a + b + c + d) (by omega) (by omega), w64 (by omega) (by omega)]
  exact mask_any_W (by omega) (by omega)
theorem stepC_W (t : Nat) {w : Int} (hw : W w) {s : S5} (hs : W5 s) : W5 (stepC t w s) := by
  obtain ⟨a, b, c, d, e⟩ := s
  obtain ⟨ha, hb, hc, hd, he⟩ := hs
  exact ⟨sum_W (rot_W ha 5 (by omega)) (fT_W t hb hc hd) he hw (kT_W t), ha, rot_W hb 30 (by omega), hc, hd⟩
theorem runC_W {ws : List Int} (hw : ∀ x ∈ ws, W x) : ∀ (n t : Nat) (s : S5), W5 s → W5 (runC ws n t s) := by
  intro n
  induction n with
  | zero => intro t s h; exact h
  | succ n ih => intro t s h; exact ih _ _ (stepC_W t (rd_W hw _) h)
theorem add_W {a b : Int} (ha : W a) (hb : W b) : W (Go.bits .and .i64 (wrap64 (a + b)) 4294967295) := by
  have h1 := ha.1; have h2 := ha.2; have h3 := hb.1; have h4 := hb.2
  rw [w64 (by omega) (by omega)]
  exact mask_any_W (by omega) (by omega)
theorem comp_W {h : List Int} (hh : ∀ x ∈ h, W x) (s : ByteArray) : (comp h s).length = 5 ∧ ∀ x ∈ comp h s, W x := by
  unfold comp
  have hr := runC_W (sch_W s 80) 80 0 (rd h 0, rd h 1, rd h 2, rd h 3, rd h 4) ⟨rd_W hh _, rd_W hh _, rd_W hh _, rd_W hh _, rd_W hh _⟩
  generalize runC (sch s 80) 80 0 (rd h 0, rd h 1, rd h 2, rd h 3, rd h 4) = r at *
  obtain ⟨a, b, c, d, e⟩ := r
  obtain ⟨ha, hb, hc, hd, he⟩ := hr
  refine ⟨rfl, ?_⟩
  intro x hx
  simp only [fin5, List.mem_cons, List.not_mem_nil, or_false] at hx
  rcases hx with rfl | rfl | rfl | rfl | rfl
  · exact add_W (rd_W hh _) ha
  · exact add_W (rd_W hh _) hb
  · exact add_W (rd_W hh _) hc
  · exact add_W (rd_W hh _) hd
  · exact add_W (rd_W hh _) he
theorem wordsOk_iff {h : List Int} : wordsOk h = true ↔ h.length = 5 ∧ ∀ x ∈ h, W x := by
  unfold wordsOk
  rw [Bool.and_eq_true, decide_eq_true_eq, List.all_eq_true]
  constructor
  · rintro ⟨a, b⟩
    refine ⟨a, fun x hx => ?_⟩
    have := b x hx
    simp only [word, Bool.and_eq_true, decide_eq_true_eq] at this
    exact this
  · rintro ⟨a, b⟩
    refine ⟨a, fun x hx => ?_⟩
    have := b x hx
    simp only [word, Bool.and_eq_true, decide_eq_true_eq]
    exact this
def compR (h : List Int) (s : ByteArray) : List Int := if wordsOk h = true ∧ s.size = 64 then comp h s else []

theorem spec_fT (t : Nat) (ht : t < 80) (b c d : Int) : spec_l3f.f (t : Int) b c d = some (fT t b c d) := by
  have e : wrap64 (Int.tdiv (t : Int) 20) = ((t / 20 : Nat) : Int) := by
    rw [Int.tdiv_eq_ediv_of_nonneg (by omega), w64 (by omega) (by omega)]; omega
  unfold spec_l3f.f fT
  rw [e]
  by_cases h1 : t < 20
  · rw [if_pos (by omega), if_pos h1]
  · rw [if_neg (by omega), if_neg h1]
    by_cases h2 : 40 ≤ t ∧ t < 60
    · rw [if_pos (by omega), if_pos h2]
    · rw [if_neg (by omega), if_neg h2]
theorem spec_kT (t : Nat) (ht : t < 80) : spec_l3k.f (t : Int) = some (kT t) := by
  have e : wrap64 (Int.tdiv (t : Int) 20) = ((t / 20 : Nat) : Int) := by
    rw [Int.tdiv_eq_ediv_of_nonneg (by omega), w64 (by omega) (by omega)]; omega
  unfold spec_l3k.f kT
  rw [e]
  by_cases h1 : t < 20
  · rw [if_pos (by omega), if_pos h1]
  · rw [if_neg (by omega), if_neg h1]
    by_cases h2 : t < 40
    · rw [if_pos (by omega), if_pos h2]
    · rw [if_neg (by omega), if_neg h2]
      by_cases h3 : t < 60
      · rw [if_pos (by omega), if_pos h3]
      · rw [if_neg (by omega), if_neg h3]
theorem spec_comp_l0 (h ws : List Int) (h5 : h.length = 5) (hl : ws.length = 80) (hw : ∀ x ∈ ws, W x) : ∀ (n t : Nat) (a b c d e : Int), t + n = 80 → W5 (a, b, c, d, e) →
    Ev (fun k => spec_Compress.l0 k h ws a b c d e (t : Int)) (fin5 h (runC ws n t (a, b, c, d, e))) := by
  intro n
  induction n with
  | zero =>
    intro t a b c d e ht hs
    refine Ev.step (fun k => spec_Compress.l0.eq_2 _ _ _ _ _ _ _ _ k) (Ev.neg (by omega) (Ev.pos (by omega) (Ev.pos (by omega) (Ev.pos (by omega) (Ev.pos (by omega) (Ev.pos (by omega) ?_))))))
    exact Ev.now _
  | succ n ih =>
    intro t a b c d e ht hs
    have hw1 : wrap64 ((t : Int) + 1) = ((t + 1 : Nat) : Int) := by rw [w64 (by omega) (by omega)]; omega
    obtain ⟨ha, hb, hc, hd, he⟩ := hs
    have hn := stepC_W t (rd_W hw (t : Int)) (s := (a, b, c, d, e)) ⟨ha, hb, hc, hd, he⟩
    refine Ev.step (fun k => spec_Compress.l0.eq_2 _ _ _ _ _ _ _ _ k) (Ev.pos (by omega) (Ev.told (spec_rot (n := 5) ha.1 ha.2 (by omega)) (Ev.told (spec_fT t (by omega) _ _ _) (Ev.pos (by omega) (Ev.pos (by omega) (Ev.told (spec_kT t (by omega)) (Ev.told (spec_rot (n := 30) hb.1 hb.2 (by omega)) ?_)))))))
    rw [hw1]
    exact ih (t + 1) _ _ _ _ _ (by omega) hn
theorem spec_comp (h : List Int) (s : ByteArray) : Ev (fun k => spec_Compress.f k h s) (compR h s) := by
  have bad : Ev (fun k => spec_Compress.j0 k h s true) [] := Ev.step (fun k => spec_Compress.j0.eq_2 _ _ _ k) (Ev.pos rfl (Ev.now _))
  unfold spec_Compress.f compR
  refine Ev.bind (spec_words h) ?_
  by_cases hw : wordsOk h = true
  · refine Ev.pos hw ?_
    by_cases h64 : s.size = 64
    · rw [if_pos ⟨hw, h64⟩]
      have eb : ((s.size : Int) != 64) = false := by rw [bne_eq_false_iff_eq]; omega
      rw [eb]
      obtain ⟨h5, hW⟩ := wordsOk_iff.1 hw
      have hs := spec_sch s
      rw [if_pos h64] at hs
      refine Ev.step (fun k => spec_Compress.j0.eq_2 _ _ _ k) (Ev.neg (by simp) (Ev.bind hs (Ev.pos (by omega) (Ev.pos (by omega) (Ev.pos (by omega) (Ev.pos (by omega) (Ev.pos (by omega) ?_)))))))
      exact spec_comp_l0 h _ h5 (sch_length s 80) (sch_W s 80) 80 0 _ _ _ _ _ (by omega) ⟨rd_W hW _, rd_W hW _, rd_W hW _, rd_W hW _, rd_W hW _⟩
    · rw [if_neg (fun hh => h64 hh.2)]
      have eb : ((s.size : Int) != 64) = true := by rw [bne_iff_ne]; omega
      rw [eb]; exact bad
  · rw [if_neg (fun hh => hw hh.1)]
    exact Ev.neg hw bad

theorem impl_fin (h : List Int) (h5 : h.length = 5) (a b c d e : Int) : Ev (fun k => impl_Compress.l1 k h [a, b, c, d, e] 5 0) (fin5 h (a, b, c, d, e)) := by
  have e1 : wrap64 (0 + 1) = 1 := by exact w64 (by omega) (by omega)
  have e2 : wrap64 (1 + 1) = 2 := by exact w64 (by omega) (by omega)
  have e3 : wrap64 (2 + 1) = 3 := by exact w64 (by omega) (by omega)
  have e4 : wrap64 (3 + 1) = 4 := by exact w64 (by omega) (by omega)
  have e5 : wrap64 (4 + 1) = 5 := by exact w64 (by omega) (by omega)
  refine Ev.step (fun k => impl_Compress.l1.eq_2 _ _ _ _ k) (Ev.pos (by decide) (Ev.pos (by decide) (Ev.pos (by simp) (Ev.pos (by omega) ?_))))
  rw [e1]
  refine Ev.step (fun k => impl_Compress.l1.eq_2 _ _ _ _ k) (Ev.pos (by decide) (Ev.pos (by decide) (Ev.pos (by simp) (Ev.pos (by omega) ?_))))
  rw [e2]
  refine Ev.step (fun k => impl_Compress.l1.eq_2 _ _ _ _ k) (Ev.pos (by decide) (Ev.pos (by decide) (Ev.pos (by simp) (Ev.pos (by omega) ?_))))
  rw [e3]
  refine Ev.step (fun k => impl_Compress.l1.eq_2 _ _ _ _ k) (Ev.pos (by decide) (Ev.pos (by decide) (Ev.pos (by simp) (Ev.pos (by omega) ?_))))
  rw [e4]
  refine Ev.step (fun k => impl_Compress.l1.eq_2 _ _ _ _ k) (Ev.pos (by decide) (Ev.pos (by decide) (Ev.pos (by simp) (Ev.pos (by omega) ?_))))
  rw [e5]
  refine Ev.step (fun k => impl_Compress.l1.eq_2 _ _ _ _ k) (Ev.neg (by decide) ?_)
  have ef : fin5 h (a, b, c, d, e) = [Go.bits .and .i64 (wrap64 (a + (rd h 0))) 4294967295, Go.bits .and .i64 (wrap64 (b + (rd h 1))) 4294967295, Go.bits .and .i64 (wrap64 (c + (rd h 2))) 4294967295, Go.bits .and .i64 (wrap64 (d + (rd h 3))) 4294967295, Go.bits .and .i64 (wrap64 (e + (rd h 4))) 4294967295] := by
    unfold fin5
    rw [Int.add_comm a, Int.add_comm b, Int.add_comm c, Int.add_comm d, Int.add_comm e]
  rw [ef]
  exact Ev.now _
theorem impl_comp_l0 (h ws : List Int) (h5 : h.length = 5) (hl : ws.length = 80) (hw : ∀ x ∈ ws, W x) : ∀ (n t : Nat) (a b c d e : Int), t + n = 80 → W5 (a, b, c, d, e) →
    Ev (fun k => impl_Compress.l0 k h a b c d e ws (ws.length : Int) (t : Int)) (fin5 h (runC ws n t (a, b, c, d, e))) := by
  intro n
  induction n with
  | zero =>
    intro t a b c d e ht hs
    refine Ev.step (fun k => impl_Compress.l0.eq_2 _ _ _ _ _ _ _ _ _ k) (Ev.neg (by omega) (Ev.told rfl ?_))
    exact impl_fin h h5 a b c d e
  | succ n ih =>
    intro t a b c d e ht hs
    have hw1 : wrap64 ((t : Int) + 1) = ((t + 1 : Nat) : Int) := by exact w64 (by omega) (by omega)
    obtain ⟨ha, hb, hc, hd, he⟩ := hs
    have hn := stepC_W t (rd_W hw (t : Int)) (s := (a, b, c, d, e)) ⟨ha, hb, hc, hd, he⟩
    have hi := ih (t + 1) _ _ _ _ _ (by omega) hn
    have r5 := impl_rot (n := 5) ha.1 ha.2 (by omega)
    have r30 := impl_rot (n := 30) hb.1 hb.2 (by omega)
    refine Ev.step (fun k => impl_Compress.l0.eq_2 _ _ _ _ _ _ _ _ _ k) (Ev.pos (by omega) (Ev.pos (by omega) (Ev.pos (by omega) ?_)))
    rw [hw1]
    by_cases t1 : t < 20
    · refine Ev.pos (by omega) (Ev.told r5 (Ev.told r30 ?_))
      have ef : fT t b c d = Go.bits .or .i64 (Go.bits .and .i64 b c) (Go.bits .and .i64 (Go.bits .and .i64 (Go.bits .xor .i64 (-1) b) d) 4294967295) := by
        unfold fT; rw [if_pos t1, not_form hb hd]
      have ek : kT t = 1518500249 := by unfold kT; rw [if_pos t1]
      rw [← ef, ← ek]
      exact hi
    · refine Ev.neg (by omega) ?_
      by_cases t3 : 60 ≤ t
      · refine Ev.pos (by omega) (Ev.told r5 (Ev.told r30 ?_))
        have ef : fT t b c d = Go.bits .xor .i64 (Go.bits .xor .i64 b c) d := by
          unfold fT; rw [if_neg t1, if_neg (by omega)]
        have ek : kT t = 3395469782 := by unfold kT; rw [if_neg t1, if_neg (by omega), if_neg (by omega)]
        rw [← ef, ← ek]
        exact hi
      · refine Ev.neg (by omega) ?_
        by_cases t2 : 40 ≤ t
        · refine Ev.pos (by omega) (Ev.told r5 (Ev.told r30 ?_))
          have ef : fT t b c d = Go.bits .or .i64 (Go.bits .or .i64 (Go.bits .and .i64 b c) (Go.bits .and .i64 b d)) (Go.bits .and .i64 c d) := by
            unfold fT; rw [if_neg t1, if_pos (by omega)]
          have ek : kT t = 2400959708 := by unfold kT; rw [if_neg t1, if_neg (by omega), if_pos (by omega)]
          rw [← ef, ← ek]
          exact hi
        · refine Ev.neg (by omega) (Ev.told r5 (Ev.told r30 ?_))
          have ef : fT t b c d = Go.bits .xor .i64 (Go.bits .xor .i64 b c) d := by
            unfold fT; rw [if_neg t1, if_neg (by omega)]
          have ek : kT t = 1859775393 := by unfold kT; rw [if_neg t1, if_pos (by omega)]
          rw [← ef, ← ek]
          exact hi
theorem impl_comp (h : List Int) (s : ByteArray) : Ev (fun k => impl_Compress.f k h s) (compR h s) := by
  have bad : Ev (fun k => impl_Compress.j0 k h s true) [] := Ev.step (fun k => impl_Compress.j0.eq_2 _ _ _ k) (Ev.pos rfl (Ev.now _))
  unfold impl_Compress.f compR
  refine Ev.bind (impl_words h) ?_
  by_cases hw : wordsOk h = true
  · refine Ev.pos hw ?_
    by_cases h64 : s.size = 64
    · rw [if_pos ⟨hw, h64⟩]
      have eb : ((s.size : Int) != 64) = false := by rw [bne_eq_false_iff_eq]; omega
      rw [eb]
      obtain ⟨h5, hW⟩ := wordsOk_iff.1 hw
      have hs := impl_sch s
      rw [if_pos h64] at hs
      refine Ev.step (fun k => impl_Compress.j0.eq_2 _ _ _ k) (Ev.neg (by simp) (Ev.pos (by omega) (Ev.pos (by omega) (Ev.pos (by omega) (Ev.pos (by omega) (Ev.pos (by omega) (Ev.bind hs ?_)))))))
      exact impl_comp_l0 h _ h5 (sch_length s 80) (sch_W s 80) 80 0 _ _ _ _ _ (by omega) ⟨rd_W hW _, rd_W hW _, rd_W hW _, rd_W hW _, rd_W hW _⟩
    · rw [if_neg (fun hh => h64 hh.2)]
      have eb : ((s.size : Int) != 64) = true := by rw [bne_iff_ne]; omega
      rw [eb]; exact bad
  · rw [if_neg (fun hh => hw hh.1)]
    exact Ev.neg hw bad

def shaOk (h : List Int) (r : ByteArray) (n : Int) : Bool := wordsOk h && (decide (0 ≤ n) && (decide (n ≤ 999999999999999) && ((r.size : Int) == Int.tmod n 64)))
theorem spec_shaOk (h : List Int) (r : ByteArray) (n : Int) : Ev (fun k => spec_ShaOk.f k h r n) (shaOk h r n) := by
  unfold spec_ShaOk.f shaOk
  refine Ev.bind (spec_words h) ?_
  cases hw : wordsOk h with
  | false => exact Ev.neg (by simp) (Ev.now _)
  | true =>
    refine Ev.pos rfl ?_
    rw [Bool.true_and]
    by_cases h0 : 0 ≤ n
    · refine Ev.pos h0 ?_
      rw [decide_eq_true h0, Bool.true_and]
      by_cases h1 : n ≤ 999999999999999
      · refine Ev.pos h1 ?_
        rw [decide_eq_true h1, Bool.true_and]; exact Ev.now _
      · refine Ev.neg h1 ?_
        rw [decide_eq_false h1, Bool.false_and]; exact Ev.now _
    · refine Ev.neg h0 ?_
      rw [decide_eq_false h0, Bool.false_and]; exact Ev.now _
theorem impl_shaOk (h : List Int) (r : ByteArray) (n : Int) : Ev (fun k => impl_ShaOk.f k h r n) (shaOk h r n) := by
  unfold impl_ShaOk.f shaOk
  refine Ev.bind (impl_words h) ?_
  cases hw : wordsOk h with
  | false => exact Ev.neg (by simp) (Ev.now _)
  | true =>
    refine Ev.pos rfl ?_
    rw [Bool.true_and]
    unfold impl_within.f
    by_cases h0 : 0 ≤ n
    · rw [if_pos h0, decide_eq_true h0, Bool.true_and]
      by_cases h1 : n ≤ 999999999999999
      · rw [decide_eq_true h1, Bool.true_and]; exact Ev.told rfl (Ev.pos rfl (Ev.now _))
      · rw [decide_eq_false h1, Bool.false_and]; exact Ev.told rfl (Ev.neg (by simp) (Ev.now _))
    · rw [if_neg h0, decide_eq_false h0, Bool.false_and]; exact Ev.told rfl (Ev.neg (by simp) (Ev.now _))

/-! Bytes that come in; the end -/
def compL (h l : List Int) : List Int := comp h (strOfNums l)
def blocks : Nat → List Int → List Int → List Int
  | 0, h, _ => h
  | n + 1, h, l => blocks n (compL h (l.take 64)) (l.drop 64)
def be : Nat → Int → List Int
  | 0, _ => []
  | c + 1, n => n / 2 ^ (8 * c) % 256 :: be c n
def digest (h : List Int) : List Int := (h.map (be 4)).flatten
def padded (r : List Int) (n : Int) : List Int := r ++ (128 :: (List.replicate ((119 - r.length) % 64) 0 ++ be 8 (8 * n)))
def endM (h r : List Int) (n : Int) : List Int := digest (blocks ((padded r n).length / 64) h (padded r n))
def Byte (x : Int) : Prop := 0 ≤ x ∧ x < 256
def H5 (h : List Int) : Prop := h.length = 5 ∧ ∀ x ∈ h, W x
theorem compL_H5 {h : List Int} (hh : H5 h) (l : List Int) : H5 (compL h l) := comp_W hh.2 _
theorem blocks_H5 : ∀ (n : Nat) (h l : List Int), H5 h → H5 (blocks n h l) := by
  intro n
  induction n with
  | zero => intro h l hh; exact hh
  | succ n ih => intro h l hh; exact ih _ _ (compL_H5 hh _)
theorem compR_64 {h : List Int} (hh : H5 h) {s : ByteArray} (h64 : s.size = 64) : compR h s = compL h (bytesOf s) := by
  unfold compR compL
  rw [if_pos ⟨wordsOk_iff.2 hh, h64⟩, strOf_bytes]
theorem be_length (c : Nat) (n : Int) : (be c n).length = c := by
  induction c with
  | zero => rfl
  | succ c ih => simp [be, ih]
theorem be_bytes (c : Nat) (n : Int) : ∀ x ∈ be c n, Byte x := by
  induction c with
  | zero => intro x hx; cases hx
  | succ c ih =>
    intro x hx
    simp only [be, List.mem_cons] at hx
    rcases hx with rfl | hx
    · exact ⟨Int.emod_nonneg _ (by decide), Int.emod_lt_of_pos _ (by decide)⟩
    · exact ih x hx
theorem digest_bytes (h : List Int) : ∀ x ∈ digest h, Byte x := by
  intro x hx
  simp only [digest, List.mem_flatten, List.mem_map] at hx
  obtain ⟨l, ⟨y, _, rfl⟩, hx⟩ := hx
  exact be_bytes 4 y x hx
theorem digest_length {h : List Int} (hh : h.length = 5) : (digest h).length = 20 := by
  obtain ⟨a, b, c, d, e, rfl⟩ : ∃ a b c d e, h = [a, b, c, d, e] := by
    match h, hh with
    | [a, b, c, d, e], _ => exact ⟨a, b, c, d, e, rfl⟩
  simp [digest, be_length]
theorem padded_bytes {r : List Int} (hr : ∀ x ∈ r, Byte x) (n : Int) : ∀ x ∈ padded r n, Byte x := by
  intro x hx
  simp only [padded, List.mem_append, List.mem_cons, List.mem_replicate] at hx
  rcases hx with hx | rfl | ⟨_, rfl⟩ | hx
  · exact hr x hx
  · exact ⟨by decide, by decide⟩
  · exact ⟨by decide, by decide⟩
  · exact be_bytes _ _ x hx
theorem padded_length (r : List Int) (n : Int) (h : r.length < 64) : (padded r n).length % 64 = 0 ∧ (padded r n).length = r.length + 9 + (119 - r.length) % 64 := by
  simp only [padded, List.length_append, List.length_cons, List.length_replicate, be_length]
  omega
theorem shr_int (x : Int) (a : Nat) (h : a ≤ 64) : shr .i64 x (a : Int) = x / 2 ^ a := by
  unfold shr
  rw [Int.toNat_natCast, Nat.min_eq_left (by simpa [IntKind.bits] using h)]
theorem blocks_add : ∀ (n m : Nat) (h l : List Int), blocks (n + m) h l = blocks m (blocks n h l) (l.drop (64 * n)) := by
  intro n
  induction n with
  | zero => intro m h l; simp [blocks]
  | succ n ih =>
    intro m h l
    rw [show n + 1 + m = (n + m) + 1 by omega]
    simp only [blocks]
    rw [ih, List.drop_drop]
    congr 2
    omega
theorem blocks_take : ∀ (n : Nat) (h l l2 : List Int), 64 * n ≤ l.length → blocks n h (l ++ l2) = blocks n h l := by
  intro n
  induction n with
  | zero => intro h l l2 _; rfl
  | succ n ih =>
    intro h l l2 hl
    simp only [blocks]
    rw [List.take_append_of_le_length (by omega), List.drop_append_of_le_length (by omega), ih _ _ _ (by simp; omega)]
def addB (h r b : List Int) : List Int := blocks ((r ++ b).length / 64) h (r ++ b)
def addR (r b : List Int) : List Int := (r ++ b).drop (64 * ((r ++ b).length / 64))
theorem addR_length (r b : List Int) : (addR r b).length = (r.length + b.length) % 64 := by
  simp only [addR, List.length_drop, List.length_append]
  omega
theorem add_stream (h r b c : List Int) : addB (addB h r b) (addR r b) c = addB h r (b ++ c) ∧ addR (addR r b) c = addR r (b ++ c) := by
  have hd : (r ++ (b ++ c)).drop (64 * ((r ++ b).length / 64)) = addR r b ++ c := by
    rw [← List.append_assoc, List.drop_append_of_le_length (by omega)]; rfl
  have hl : (r ++ (b ++ c)).length / 64 = (r ++ b).length / 64 + (addR r b ++ c).length / 64 := by
    rw [show (addR r b ++ c).length = (addR r b).length + c.length from List.length_append, addR_length]
    simp only [List.length_append]
    omega
  constructor
  · unfold addB
    rw [hl, blocks_add, hd]
    congr 1
    rw [← List.append_assoc]
    exact (blocks_take _ h (r ++ b) c (by omega)).symm
  · unfold addR
    rw [hl, Nat.mul_add, ← List.drop_drop, hd]
    rfl

def addOk (h : List Int) (r : ByteArray) (n : Int) (b : ByteArray) : Bool := shaOk h r n && decide ((b.size : Int) ≤ 999999999999999 - n)
def shaAdd (h : List Int) (r : ByteArray) (n : Int) (b : ByteArray) : List Int × ByteArray × Int :=
  if addOk h r n b = true then (addB h (bytesOf r) (bytesOf b), strOfNums (addR (bytesOf r) (bytesOf b)), n + (b.size : Int)) else ([], ⟨#[]⟩, 0)
theorem shaOk_iff {h : List Int} {r : ByteArray} {n : Int} : shaOk h r n = true ↔ H5 h ∧ 0 ≤ n ∧ n ≤ 999999999999999 ∧ (r.size : Int) = n % 64 := by
  unfold shaOk
  simp only [Bool.and_eq_true, decide_eq_true_eq, beq_iff_eq]
  constructor
  · rintro ⟨a, b, c, d⟩
    rw [Int.tmod_eq_emod_of_nonneg b] at d
    exact ⟨wordsOk_iff.1 a, b, c, d⟩
  · rintro ⟨a, b, c, d⟩
    rw [Int.tmod_eq_emod_of_nonneg b]
    exact ⟨wordsOk_iff.2 a, b, c, d⟩

theorem strOf_size (l : List Int) : (strOfNums l).size = l.length := size_strOf l
def shaEnd (h : List Int) (r : ByteArray) (n : Int) : ByteArray := if shaOk h r n = true then strOfNums (endM h (bytesOf r) n) else ⟨#[]⟩

theorem impl_add_l0 : ∀ (m : Nat) (s : ByteArray) (h : List Int) (n : Int), s.size / 64 = m → H5 h → s.size ≤ 9223372036854775807 →
    Ev (fun k => impl_ShaAdd.l0 k h s n) (blocks m h (bytesOf s), strOfNums ((bytesOf s).drop (64 * m)), n) := by
  intro m
  induction m with
  | zero =>
    intro s h n hm hh hb
    refine Ev.step (fun k => impl_ShaAdd.l0.eq_2 _ _ _ k) (Ev.neg (by omega) ?_)
    have e : strOfNums ((bytesOf s).drop (64 * 0)) = s := by simp [strOf_bytes]
    rw [e]
    exact Ev.now _
  | succ m ih =>
    intro s h n hm hh hb
    have hc := impl_comp h (s.extract 0 64)
    rw [compR_64 hh (by rw [size_extract _ _ _ (by omega)]), bytes_head] at hc
    refine Ev.step (fun k => impl_ShaAdd.l0.eq_2 _ _ _ k) (Ev.pos (by omega) (Ev.pos (by decide) (Ev.pos (by omega) (Ev.bind hc ?_))))
    have h2 := ih (s.extract 64 s.size) (compL h ((bytesOf s).take 64)) n (by rw [size_extract _ _ _ (by omega)]; omega) (compL_H5 hh _) (by rw [size_extract _ _ _ (by omega)]; omega)
    rw [bytes_to_end, List.drop_drop, show 64 + 64 * m = 64 * (m + 1) by omega] at h2
    exact h2
theorem impl_add (h : List Int) (r : ByteArray) (n : Int) (b : ByteArray) (hb : b.size ≤ 140737488351232) : Ev (fun k => impl_ShaAdd.f k h r n b) (shaAdd h r n b) := by
  have bad : Ev (fun k => impl_ShaAdd.j0 k b true h r n) ([], ⟨#[]⟩, 0) := Ev.step (fun k => impl_ShaAdd.j0.eq_2 _ _ _ _ _ k) (Ev.pos rfl (Ev.now _))
  unfold impl_ShaAdd.f shaAdd addOk
  refine Ev.bind (impl_shaOk h r n) ?_
  cases ho : shaOk h r n with
  | false => exact Ev.neg (by simp) (by simpa using bad)
  | true =>
    obtain ⟨hh, n0, n1, hr⟩ := shaOk_iff.1 ho
    refine Ev.pos rfl ?_
    rw [w64 (n := 999999999999999 - n) (by omega) (by omega), Bool.true_and]
    by_cases hf : (b.size : Int) ≤ 999999999999999 - n
    · rw [if_pos (decide_eq_true hf), decide_eq_false (by omega)]
      have hw : wrap64 (n + (b.size : Int)) = n + (b.size : Int) := w64 (by omega) (by omega)
      have hsz : (r ++ b).size = r.size + b.size := by rw [← bytesOf_length, bytes_append]; simp [bytesOf_length]
      refine Ev.step (fun k => impl_ShaAdd.j0.eq_2 _ _ _ _ _ k) (Ev.neg (by simp) (Ev.told rfl (Ev.pos (by have := hh.1; simp; omega) (Ev.pos (by omega) ?_))))
      rw [hw, List.nil_append]
      have h2 := impl_add_l0 _ (r ++ b) h (n + (b.size : Int)) rfl hh (by omega)
      unfold addB addR
      rw [← bytes_append, bytesOf_length]
      exact h2
    · rw [if_neg (by simpa using hf), decide_eq_true (by omega)]
      exact bad

theorem spec_add_l0 (b : ByteArray) (h0 : List Int) (r0 : ByteArray) (n0 : Int) (s : ByteArray) (hb : s.size ≤ 4611686018427387904) : ∀ (m j : Nat) (h : List Int), s.size / 64 = j + m → H5 h →
    Ev (fun k => spec_ShaAdd.l0 k b h s ((64 * j : Nat) : Int) h0 r0 n0) (blocks m h ((bytesOf s).drop (64 * j)), strOfNums ((bytesOf s).drop (64 * (j + m))), wrap64 (n0 + (b.size : Int))) := by
  intro m
  induction m with
  | zero =>
    intro j h hm hh
    have e1 : wrap64 ((s.size : Int) - ((64 * j : Nat) : Int)) = (s.size : Int) - ((64 * j : Nat) : Int) := w64 (by omega) (by omega)
    refine Ev.step (fun k => spec_ShaAdd.l0.eq_2 _ _ _ _ _ _ _ k) ?_
    rw [e1]
    refine Ev.neg (by omega) (Ev.pos (by omega) (Ev.pos (by omega) ?_))
    rw [Int.toNat_natCast]
    have e : strOfNums ((bytesOf s).drop (64 * (j + 0))) = s.extract (64 * j) s.size := by
      rw [Nat.add_zero, ← bytes_to_end, strOf_bytes]
    rw [e]
    exact Ev.now _
  | succ m ih =>
    intro j h hm hh
    have e1 : wrap64 ((s.size : Int) - ((64 * j : Nat) : Int)) = (s.size : Int) - ((64 * j : Nat) : Int) := w64 (by omega) (by omega)
    have e2 : wrap64 (((64 * j : Nat) : Int) + 64) = ((64 * (j + 1) : Nat) : Int) := by rw [w64 (by omega) (by omega)]; omega
    have hc := spec_comp h (s.extract (64 * j) (64 * (j + 1)))
    rw [compR_64 hh (by rw [size_extract _ _ _ (by omega)]; omega), bytes_extract, show 64 * (j + 1) - 64 * j = 64 by omega] at hc
    refine Ev.step (fun k => spec_ShaAdd.l0.eq_2 _ _ _ _ _ _ _ k) ?_
    rw [e1, e2, Int.toNat_natCast, Int.toNat_natCast]
    refine Ev.pos (by omega) (Ev.pos (by omega) (Ev.pos (by omega) (Ev.pos (by omega) (Ev.bind hc ?_))))
    have h2 := ih (j + 1) (compL h (((bytesOf s).drop (64 * j)).take 64)) (by omega) (compL_H5 hh _)
    rw [show j + 1 + m = j + (m + 1) by omega] at h2
    simp only [blocks]
    rw [List.drop_drop, show 64 * j + 64 = 64 * (j + 1) by omega]
    exact h2
theorem spec_add (h : List Int) (r : ByteArray) (n : Int) (b : ByteArray) (hb : b.size ≤ 140737488351232) : Ev (fun k => spec_ShaAdd.f k h r n b) (shaAdd h r n b) := by
  have bad : Ev (fun k => spec_ShaAdd.j0 k b true h r n) ([], ⟨#[]⟩, 0) := Ev.step (fun k => spec_ShaAdd.j0.eq_2 _ _ _ _ _ k) (Ev.pos rfl (Ev.now _))
  unfold spec_ShaAdd.f shaAdd addOk
  refine Ev.bind (spec_shaOk h r n) ?_
  cases ho : shaOk h r n with
  | false => exact Ev.neg (by simp) (by simpa using bad)
  | true =>
    obtain ⟨hh, n0, n1, hr⟩ := shaOk_iff.1 ho
    refine Ev.pos rfl ?_
    rw [w64 (n := 999999999999999 - n) (by omega) (by omega), Bool.true_and]
    by_cases hf : (b.size : Int) ≤ 999999999999999 - n
    · rw [if_pos (decide_eq_true hf), decide_eq_false (by omega)]
      have hw : wrap64 (n + (b.size : Int)) = n + (b.size : Int) := w64 (by omega) (by omega)
      have hsz : (r ++ b).size = r.size + b.size := by rw [← bytesOf_length, bytes_append]; simp [bytesOf_length]
      refine Ev.step (fun k => spec_ShaAdd.j0.eq_2 _ _ _ _ _ k) (Ev.neg (by simp) (Ev.told rfl (Ev.pos (by have := hh.1; simp; omega) (Ev.pos (by omega) ?_))))
      rw [List.nil_append]
      have h2 := spec_add_l0 b h r n (r ++ b) (by omega) ((r ++ b).size / 64) 0 h (by omega) hh
      rw [hw] at h2
      unfold addB addR
      rw [← bytes_append, bytesOf_length]
      simpa using h2
    · rw [if_neg (by simpa using hf), decide_eq_true (by omega)]
      exact bad

theorem toSha_all (h : List Int) (r : ByteArray) (n : Int) (hb : h.length ≤ 1048576) : Ev (fun k => laws_toSha.f k h r n) (h, r, n) := by
  unfold laws_toSha.f
  exact Ev.bind (toI_all h hb) (Ev.now _)
theorem eqSha_same (h : List Int) (r : ByteArray) (n : Int) (hb : h.length ≤ 140737488355328) : Ev (fun k => laws_eqSha.f k h r n h r n) true := by
  unfold laws_eqSha.f
  exact Ev.bind (eqI_same h hb) (Ev.pos rfl (Ev.pos rfl (Ev.pos rfl (Ev.now _))))
theorem szSha_cases (h : List Int) (r : ByteArray) (n : Int) (hh : h.length ≤ maxLen) (hr : r.size ≤ maxLen) :
    (∃ t, laws_szSha.f h r n 1048576 = some t ∧ t < 0) ∨ (∃ t, laws_szSha.f h r n 1048576 = some t ∧ ¬ t < 0) ∧ h.length + r.size ≤ 1048576 := by
  unfold maxLen at hh hr
  unfold laws_szSha.f laws_szIntS.f
  have e1 : wrap64 (1048576 - (h.length : Int)) = 1048576 - (h.length : Int) := w64 (by omega) (by omega)
  rw [e1]
  by_cases c1 : 1048576 - (h.length : Int) < 0
  · exact .inl ⟨-1, by rw [if_pos c1]; rfl, by omega⟩
  · rw [if_neg c1]
    simp only [Option.bind_some]
    rw [if_neg c1]
    have e2 : wrap64 (1048576 - (h.length : Int) - (r.size : Int)) = 1048576 - (h.length : Int) - (r.size : Int) := w64 (by omega) (by omega)
    rw [e2]
    by_cases c2 : 1048576 - (h.length : Int) - (r.size : Int) < 0
    · exact .inl ⟨-1, by rw [if_pos c2], by omega⟩
    · exact .inr ⟨⟨_, by rw [if_neg c2], c2⟩, by omega⟩

theorem shaAdd_length (h : List Int) (r : ByteArray) (n : Int) (b : ByteArray) : (shaAdd h r n b).1.length ≤ 5 := by
  unfold shaAdd addOk
  by_cases hs : shaOk h r n = true
  · have h5 : H5 h := (shaOk_iff.1 hs).1
    split
    · have : (addB h (bytesOf r) (bytesOf b)).length = 5 := (blocks_H5 _ _ _ h5).1
      show (addB h (bytesOf r) (bytesOf b)).length ≤ 5
      omega
    · simp
  · rw [if_neg (by simp [hs])]; simp
theorem mark_sha (h : List Int) (r : ByteArray) (n : Int) (hb : h.length ≤ 140737488355328) : Ev (fun k => laws_markSha.f k h r n 1) (1 + (h.length : Int), upFrom 1 h.length) := by
  unfold laws_markSha.f
  exact Ev.bind (mark_all h hb) (Ev.now _)
theorem held_sha (m : Nat) (r : ByteArray) (n : Int) (hb : m ≤ 140737488355328) : Ev (fun k => laws_heldSha.f k (upFrom 1 m) r n 1) (1 + (m : Int)) := by
  unfold laws_heldSha.f
  exact Ev.bind (held_all m hb) (Ev.neg (by omega) (Ev.now _))
theorem FnExactShaAdd (h : List Int) (r : ByteArray) (n : Int) (b : ByteArray) (hm : h.length ≤ maxLen) (hw : ∀ x ∈ h, (Lit.int .i64 x).wf = true) (wr : r.size ≤ maxLen) (wn : (Lit.int .i64 n).wf = true) (wb : b.size ≤ maxLen) : ∃ k, laws_FnExactShaAdd.f k h r n b = some true := by
  apply Ev.rounds
  unfold laws_FnExactShaAdd.f
  by_cases hbb : (b.size : Int) > 1048576
  · exact Ev.pos hbb (Ev.now _)
  refine Ev.neg hbb ?_
  rcases szSha_cases h r n hm wr with ⟨t, e, c⟩ | ⟨⟨t, e, c⟩, hb⟩
  · exact Ev.told e (Ev.pos c (Ev.now _))
  · have ht := toSha_all h r n (by omega)
    have hl := shaAdd_length h r n b
    have hs := spec_add h r n b (by omega)
    have hi := impl_add h r n b (by omega)
    generalize shaAdd h r n b = x at hl hs hi
    obtain ⟨xh, xr, xn⟩ := x
    have hl' : xh.length ≤ 5 := hl
    have he := eqSha_same xh xr xn (by omega)
    have he0 := eqSha_same h r n (by omega)
    have hk := mark_sha h r n (by omega)
    have hk2 := mark_sha xh xr xn (by omega)
    have hd := held_sha xh.length xr xn (by omega)
    refine Ev.told e (Ev.neg c (Ev.bind ht (Ev.bind hs (Ev.bind ht (Ev.bind hi (Ev.bind he (Ev.pos rfl (Ev.bind ht (Ev.bind he0 (Ev.pos rfl (Ev.bind hk (Ev.neg (by omega) (Ev.bind he ?_)))))))))))))
    refine Ev.step (fun k => laws_FnExactShaAdd.j0.eq_2 _ _ _ _ _ _ _ _ _ _ _ k) ?_
    refine Ev.neg (by simp) (Ev.bind hk2 (Ev.bind hd (Ev.neg (by omega) (Ev.pos rfl (Ev.bind ht (Ev.bind hi (Ev.bind he (Ev.pos rfl (Ev.bind hd (Ev.neg (by omega) (Ev.pos rfl (Ev.now _))))))))))))

end Go.Proofs.Ytoaijdlablanfaa.Pure
