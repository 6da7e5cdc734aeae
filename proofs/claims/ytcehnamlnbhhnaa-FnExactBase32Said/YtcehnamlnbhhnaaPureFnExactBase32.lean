/- The law FnExactBase32 answers true for every text: both results are its bits in letters. No condition. -/
import Derived.Test.YtcehnamlnbhhnaaPFnExactBase32x1
import Derived.Test.YtcehnamlnbhhnaaBase
namespace Go.Proofs.Ytcehnamlnbhhnaa.Pure
open Go.RowKit Go.Proofs.Ytcehnamlnbhhnaa.PFnExactBase32 Go.Proofs.YtcehnamlnbhhnaaW.PrintWords Go.Proofs.YtcehnamlnbhhnaaW.PrintLast Go.Proofs.YtcehnamlnbhhnaaW.PrintMore Go.Proofs.Ytcehnamlnbhhnaa.Base
set_option linter.unusedVariables false
set_option linter.unusedSimpArgs false

/-! Letters of five bits -/
def tbl : ByteArray := ⟨#[65, 66, 67, 68, 69, 70, 71, 72, 73, 74, 75, 76, 77, 78, 79, 80, 81, 82, 83, 84, 85, 86, 87, 88, 89, 90, 50, 51, 52, 53, 54, 55]⟩
def letter (v : Nat) : Int := bt tbl (v : Int)
def bit8 (l : List Int) (k : Nat) : Nat := (l.getD (k / 8) 0).toNat / 2 ^ (7 - k % 8) % 2
def b32from (l : List Int) (g d : Nat) : List Int := (List.range' g d).map fun j => letter (num (bit8 l) (5 * j) 5)
def b32 (l : List Int) : List Int := b32from l 0 ((8 * l.length + 4) / 5)
theorem bit8_le (l : List Int) (k : Nat) : bit8 l k ≤ 1 := by unfold bit8; omega
theorem bit8_past {l : List Int} {k : Nat} (h : 8 * l.length ≤ k) : bit8 l k = 0 := by
  unfold bit8
  rw [getD_past (by omega)]
  simp
theorem bit8_byte (l : List Int) (i : Nat) (h : ∀ x ∈ l, 0 ≤ x ∧ x < 256) : num (bit8 l) (8 * i) 8 = (l.getD i 0).toNat := by
  have hx : (l.getD i 0).toNat < 256 := by
    by_cases hi : i < l.length
    · have := h _ (getD_mem hi); omega
    · rw [getD_past (by omega)]; simp
  generalize hv : (l.getD i 0).toNat = v at hx
  have hb : ∀ j, j < 8 → bit8 l (8 * i + j) = v / 2 ^ (7 - j) % 2 := by
    intro j hj
    unfold bit8
    rw [show (8 * i + j) / 8 = i by omega, show (8 * i + j) % 8 = j by omega, hv]
  simp only [num]
  rw [hb 0 (by omega), hb 1 (by omega), hb 2 (by omega), hb 3 (by omega), hb 4 (by omega), hb 5 (by omega), hb 6 (by omega), hb 7 (by omega)]
  simp only [Nat.reduceSub, Nat.reducePow]
  omega
theorem b32from_cons (l : List Int) (g d : Nat) : b32from l g (d + 1) = letter (num (bit8 l) (5 * g) 5) :: b32from l (g + 1) d := by
  simp [b32from, List.range'_succ]
theorem snoc_cons (a : List Int) (x : Int) (b : List Int) : (a ++ [x]) ++ b = a ++ x :: b := by simp

theorem impl_b32_l1 (s : ByteArray) (hb : s.size ≤ 1048576) (i : Nat) (hi : i < s.size)
    (H : ∀ (m x c : Nat) (out : List Int), x < 32 → c ≤ 4 → x % 2 ^ c = num (bit8 (bytesOf s)) (5 * m) c → 5 * m + c = 8 * (i + 1) → out.length = m →
      Ev (fun k => impl_base32.l0 k s out (x : Int) (c : Int) ((i + 1 : Nat) : Int)) (strOfNums (out ++ b32from (bytesOf s) m ((8 * s.size + 4) / 5 - m)))) :
    ∀ (n c m y : Nat) (out : List Int), c ≤ n → y < 2 ^ 20 → y % 2 ^ c = num (bit8 (bytesOf s)) (5 * m) c → 5 * m + c = 8 * (i + 1) → out.length = m → c ≤ 12 →
      Ev (fun k => impl_base32.l1 k s out (y : Int) (c : Int) (i : Int)) (strOfNums (out ++ b32from (bytesOf s) m ((8 * s.size + 4) / 5 - m))) := by
  intro n
  induction n with
  | zero =>
    intro c m y out hc hy hv hq hl hc2
    obtain rfl : c = 0 := by omega
    refine Ev.step (fun k => impl_base32.l1.eq_2 _ _ _ _ _ k) ?_
    refine Ev.neg (by omega) ?_
    rw [and_mask y 5 (by decide) (by omega) 31 (by decide), w64 (by omega) (by omega)]
    exact H m (y % 32) 0 out (by omega) (by omega) (by simpa using hv) hq hl
  | succ n ih =>
    intro c m y out hc hy hv hq hl hc2
    refine Ev.step (fun k => impl_base32.l1.eq_2 _ _ _ _ _ k) ?_
    by_cases h5 : 5 ≤ c
    · obtain ⟨a, rfl⟩ : ∃ a, c = a + 5 := ⟨c - 5, by omega⟩
      obtain ⟨e1, e2⟩ := num_five (bit8_le (bytesOf s)) hv
      have hw : wrap64 (((a + 5 : Nat) : Int) - 5) = (a : Int) := by rw [w64 (by omega) (by omega)]; omega
      have hy2 : y / 2 ^ a < 2 ^ 63 := Nat.lt_of_le_of_lt (Nat.div_le_self _ _) (by omega)
      have hv2 : Go.bits .and .i64 (shr .i64 (y : Int) (a : Int)) 31 = ((num (bit8 (bytesOf s)) (5 * m) 5 : Nat) : Int) := by
        rw [shr_nat y a (by omega), and_mask _ 5 (by decide) hy2 31 (by decide), ← e1]
      have hlt := num_lt (bit8_le (bytesOf s)) (5 * m) 5
      rw [hw, hv2]
      refine Ev.pos (by omega) (Ev.pos (by omega) (Ev.pos (by omega) (Ev.pos (by omega) (Ev.pos (by omega) ?_))))
      have hd : (8 * s.size + 4) / 5 - m = ((8 * s.size + 4) / 5 - (m + 1)) + 1 := by omega
      have h1 := ih a (m + 1) y (out ++ [letter (num (bit8 (bytesOf s)) (5 * m) 5)]) (by omega) hy (by rw [e2]; congr 1) (by omega) (by simp [hl]) (by omega)
      rw [hd, b32from_cons, ← snoc_cons out _ (b32from _ _ _)]
      exact h1
    · refine Ev.neg (by omega) ?_
      rw [and_mask y 5 (by decide) (by omega) 31 (by decide), w64 (by omega) (by omega)]
      refine H m (y % 32) c out (by omega) (by omega) ?_ hq hl
      rw [← hv]
      exact Nat.mod_mod_of_dvd _ ⟨2 ^ (5 - c), by rw [← Nat.pow_add, show c + (5 - c) = 5 by omega]⟩
theorem impl_b32_l0 (s : ByteArray) (hb : s.size ≤ 1048576) : ∀ (d i m x c : Nat) (out : List Int), i + d = s.size → x < 32 → c ≤ 4 → x % 2 ^ c = num (bit8 (bytesOf s)) (5 * m) c → 5 * m + c = 8 * i → out.length = m →
      Ev (fun k => impl_base32.l0 k s out (x : Int) (c : Int) (i : Int)) (strOfNums (out ++ b32from (bytesOf s) m ((8 * s.size + 4) / 5 - m))) := by
  intro d
  induction d with
  | zero =>
    intro i m x c out hd hx hc hv hq hl
    refine Ev.step (fun k => impl_base32.l0.eq_2 _ _ _ _ _ k) ?_
    refine Ev.neg (by omega) ?_
    by_cases h0 : c = 0
    · subst h0
      refine Ev.neg (by omega) ?_
      rw [show (8 * s.size + 4) / 5 - m = 0 by omega]
      simp only [b32from, List.range'_zero, List.map_nil, List.append_nil]
      exact Ev.now _
    · have hw : wrap64 (5 - (c : Int)) = ((5 - c : Nat) : Int) := by rw [w64 (by omega) (by omega)]; omega
      have hp : 2 ^ (5 - c) ≤ 2 ^ 5 := Nat.pow_le_pow_right (by decide) (by omega)
      have hm : x * 2 ^ (5 - c) ≤ 32 * 2 ^ 5 := Nat.mul_le_mul (by omega) hp
      have h32 : 32 = 2 ^ c * 2 ^ (5 - c) := by rw [← Nat.pow_add, show c + (5 - c) = 5 by omega]
      have hv2 : Go.bits .and .i64 (shl .i64 (x : Int) ((5 - c : Nat) : Int)) 31 = ((num (bit8 (bytesOf s)) (5 * m) 5 : Nat) : Int) := by
        rw [shl_nat x _ (by omega) (by omega), and_mask _ 5 (by decide) (by omega) 31 (by decide)]
        congr 1
        have e := num_add (bit8 (bytesOf s)) (5 * m) c (5 - c)
        rw [show c + (5 - c) = 5 by omega, num_zero (q := 5 * m + c) (fun k hk => bit8_past (by rw [bytesOf_length]; omega)), Nat.add_zero] at e
        rw [e, ← hv, show (2 : Nat) ^ 5 = 32 by rfl]
        conv => lhs; rw [h32]
        exact Nat.mul_mod_mul_right _ _ _
      have hlt := num_lt (bit8_le (bytesOf s)) (5 * m) 5
      rw [hw, hv2]
      refine Ev.pos (by omega) (Ev.pos (by omega) (Ev.pos (by omega) (Ev.pos (by omega) (Ev.pos (by omega) ?_))))
      rw [show (8 * s.size + 4) / 5 - m = 0 + 1 by omega, b32from_cons]
      simp only [b32from, List.range'_zero, List.map_nil]
      exact Ev.now _
  | succ d ih =>
    intro i m x c out hd hx hc hv hq hl
    have hbt := bt_range s (i : Int)
    obtain ⟨b, hbb⟩ := Int.eq_ofNat_of_zero_le hbt.1
    have hbv : num (bit8 (bytesOf s)) (8 * i) 8 = b := by
      rw [bit8_byte _ _ (fun x hx => bytes_lt hx), ← bt_nat, hbb]; rfl
    refine Ev.step (fun k => impl_base32.l0.eq_2 _ _ _ _ _ k) ?_
    have e1 : wrap64 ((x : Int) * 256) = ((x * 256 : Nat) : Int) := by rw [w64 (by omega) (by omega)]; omega
    have e2 : wrap64 (bt s (i : Int)) = (b : Int) := by rw [hbb, w64 (by omega) (by omega)]
    have e3 : wrap64 ((c : Int) + 8) = ((c + 8 : Nat) : Int) := by rw [w64 (by omega) (by omega)]; omega
    rw [e1, e2, e3, or_add (x * 256) b 8 (by omega) (by omega) (by omega) (by omega)]
    refine Ev.pos (by omega) (Ev.pos (by omega) ?_)
    refine impl_b32_l1 s hb i (by omega) (fun m x c out h1 h2 h3 h4 h5 => ih (i + 1) m x c out (by omega) h1 h2 h3 h4 h5) 12 (c + 8) m (x * 256 + b) out (by omega) (by omega) ?_ (by omega) hl (by omega)
    rw [num_grow (by omega) hv, num_add, hq, hbv]
theorem impl_b32 (s : ByteArray) (hb : s.size ≤ 1048576) : Ev (fun k => impl_base32.f k s) (strOfNums (b32 (bytesOf s))) := by
  have h := impl_b32_l0 s hb s.size 0 0 0 0 [] (by omega) (by omega) (by omega) (by simp [num]) (by omega) rfl
  unfold b32
  rw [bytesOf_length]
  show Ev (fun k => impl_base32.l0 k s [] 0 0 0) _
  simpa using h

theorem spec_bit (s : ByteArray) (hb : s.size ≤ 140737488351232) (k : Nat) (hk : k < 9223372036854775800) : spec_l1bit.f s (k : Int) = some ((bit8 (bytesOf s) k : Nat) : Int) := by
  have e1 : wrap64 (Int.tdiv (k : Int) 8) = ((k / 8 : Nat) : Int) := by
    rw [Int.tdiv_eq_ediv_of_nonneg (by omega), w64 (by omega) (by omega)]; omega
  have e2 : wrap64 (7 - Int.tmod (k : Int) 8) = ((7 - k % 8 : Nat) : Int) := by
    rw [Int.tmod_eq_emod_of_nonneg (by omega), w64 (by omega) (by omega)]; omega
  unfold spec_l1bit.f
  rw [e1, e2]
  by_cases h : s.size ≤ k / 8
  · rw [if_pos (by omega), bit8_past (by rw [bytesOf_length]; omega)]; rfl
  · rw [if_neg (by omega), if_pos (by omega), if_pos (by omega), if_pos (by omega)]
    have hbt := bt_range s ((k / 8 : Nat) : Int)
    obtain ⟨b, hbb⟩ := Int.eq_ofNat_of_zero_le hbt.1
    have hv : ((bytesOf s).getD (k / 8) 0).toNat = b := by rw [← bt_nat, hbb]; rfl
    rw [hbb, w64 (by omega) (by omega), shr_nat b _ (by omega), and_mask _ 1 (by decide) (Nat.lt_of_le_of_lt (Nat.div_le_self _ _) (by omega)) 1 (by decide)]
    unfold bit8
    rw [hv]
theorem spec_b32_l1 (s : ByteArray) (hb : s.size ≤ 4000) (g : Nat) (hg : 5 * g < 8 * s.size) (out : List Int) (r : ByteArray) (hl : out.length = g)
    (H : Ev (fun k => spec_Base32.l0 k s (out ++ [letter (num (bit8 (bytesOf s)) (5 * g) 5)]) ((5 * (g + 1) : Nat) : Int)) r) :
    ∀ (d j : Nat), j + d = 5 → Ev (fun k => spec_Base32.l1 k s out ((5 * g : Nat) : Int) ((num (bit8 (bytesOf s)) (5 * g) j : Nat) : Int) (j : Int)) r := by
  intro d
  induction d with
  | zero =>
    intro j hj
    obtain rfl : j = 5 := by omega
    have hlt := num_lt (bit8_le (bytesOf s)) (5 * g) 5
    refine Ev.step (fun k => spec_Base32.l1.eq_2 _ _ _ _ _ k) ?_
    refine Ev.neg (by omega) (Ev.pos (by omega) (Ev.pos (by omega) (Ev.pos (by omega) ?_)))
    have e : wrap64 (((5 * g : Nat) : Int) + 5) = ((5 * (g + 1) : Nat) : Int) := by rw [w64 (by omega) (by omega)]; omega
    rw [e]
    exact H
  | succ d ih =>
    intro j hj
    have hlt := num_lt (bit8_le (bytesOf s)) (5 * g) j
    have hp : 2 ^ j ≤ 2 ^ 5 := Nat.pow_le_pow_right (by decide) (by omega)
    have hbit := bit8_le (bytesOf s) (5 * g + j)
    refine Ev.step (fun k => spec_Base32.l1.eq_2 _ _ _ _ _ k) ?_
    have e : wrap64 (((5 * g : Nat) : Int) + (j : Int)) = ((5 * g + j : Nat) : Int) := by rw [w64 (by omega) (by omega)]; omega
    have e2 : wrap64 ((j : Int) + 1) = ((j + 1 : Nat) : Int) := by rw [w64 (by omega) (by omega)]; omega
    have e3 : wrap64 (wrap64 (2 * ((num (bit8 (bytesOf s)) (5 * g) j : Nat) : Int)) + ((bit8 (bytesOf s) (5 * g + j) : Nat) : Int)) = ((num (bit8 (bytesOf s)) (5 * g) (j + 1) : Nat) : Int) := by
      rw [w64 (n := 2 * _) (by omega) (by omega), w64 (by omega) (by omega)]
      show _ = ((2 * num (bit8 (bytesOf s)) (5 * g) j + bit8 (bytesOf s) (5 * g + j) : Nat) : Int)
      omega
    rw [e, e2]
    refine Ev.pos (by omega) (Ev.told (spec_bit s (by omega) _ (by omega)) ?_)
    rw [e3]
    exact ih (j + 1) (by omega)
theorem spec_b32_l0 (s : ByteArray) (hb : s.size ≤ 4000) : ∀ (d g : Nat) (out : List Int), g + d = (8 * s.size + 4) / 5 → out.length = g →
    Ev (fun k => spec_Base32.l0 k s out ((5 * g : Nat) : Int)) (strOfNums (out ++ b32from (bytesOf s) g d)) := by
  have e8 : wrap64 (8 * (s.size : Int)) = ((8 * s.size : Nat) : Int) := by rw [w64 (by omega) (by omega)]; omega
  intro d
  induction d with
  | zero =>
    intro g out hg hl
    refine Ev.step (fun k => spec_Base32.l0.eq_2 _ _ _ k) ?_
    rw [e8]
    refine Ev.neg (by omega) ?_
    simp only [b32from, List.range'_zero, List.map_nil, List.append_nil]
    exact Ev.now _
  | succ d ih =>
    intro g out hg hl
    refine Ev.step (fun k => spec_Base32.l0.eq_2 _ _ _ k) ?_
    rw [e8]
    refine Ev.pos (by omega) ?_
    refine spec_b32_l1 s hb g (by omega) out _ hl ?_ 5 0 (by omega)
    rw [b32from_cons, ← snoc_cons out _ (b32from _ _ _)]
    exact ih (g + 1) _ (by omega) (by simp [hl])
theorem spec_b32 (s : ByteArray) (hb : s.size ≤ 4000) : Ev (fun k => spec_Base32.f k s) (strOfNums (b32 (bytesOf s))) := by
  unfold spec_Base32.f
  refine Ev.neg (by omega) ?_
  have h := spec_b32_l0 s hb _ 0 [] (Nat.zero_add _) rfl
  unfold b32
  rw [bytesOf_length]
  simpa using h

theorem FnExactBase32 : laws_FnExactBase32.Pure := by
  intro s hs
  apply Ev.rounds
  show Ev (fun k => if (s.size : Int) > 1048576 then (some true) else ((spec_Base32.f k s).bind fun t112 => ((impl_Base32.f k s).bind fun t113 => (if t113.toList = t112.toList then (some true) else (some false))))) true
  by_cases h : (s.size : Int) > 1048576
  · exact Ev.pos h (Ev.now _)
  · refine Ev.neg h ?_
    by_cases h4 : (s.size : Int) > 4000
    · refine Ev.bind (a := (⟨#[]⟩ : ByteArray)) (by unfold spec_Base32.f; exact Ev.pos h4 (Ev.now _)) (Ev.bind (a := (⟨#[]⟩ : ByteArray)) (by unfold impl_Base32.f; exact Ev.pos h4 (Ev.now _)) (Ev.pos rfl (Ev.now _)))
    · refine Ev.bind (spec_b32 s (by omega)) (Ev.bind (a := strOfNums (b32 (bytesOf s))) ?_ (Ev.pos rfl (Ev.now _)))
      unfold impl_Base32.f
      exact Ev.neg h4 (Ev.bind (impl_b32 s (by omega)) (Ev.now _))

end Go.Proofs.Ytcehnamlnbhhnaa.Pure
