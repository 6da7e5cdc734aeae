/- The law FnExactReadLabel answers true for every text: both read the same digest behind the same sign, or none. No condition. -/
import Derived.Test.YtmplhlimccgcdaaQFnExactReadLabelx2
import Derived.Test.YtmplhlimccgcdaaBase
namespace Go.Proofs.Ytmplhlimccgcdaa.Pure
open Go.RowKit Go.Proofs.Ytmplhlimccgcdaa.PFnExactReadLabel Go.Proofs.YtmplhlimccgcdaaW.PrintWords Go.Proofs.YtmplhlimccgcdaaW.PrintLast Go.Proofs.YtmplhlimccgcdaaW.PrintMore Go.Proofs.Ytmplhlimccgcdaa.Base
set_option linter.unusedVariables false
set_option linter.unusedSimpArgs false

/-! Letters of five bits -/
def tbl : ByteArray := ⟨#[65, 66, 67, 68, 69, 70, 71, 72, 73, 74, 75, 76, 77, 78, 79, 80, 81, 82, 83, 84, 85, 86, 87, 88, 89, 90, 50, 51, 52, 53, 54, 55]⟩
def letter (v : Nat) : Int := bt tbl (v : Int)
def bit8 (l : List Int) (k : Nat) : Nat := (l.getD (k / 8) 0).toNat / 2 ^ (7 - k % 8) % 2
def b32from (l : List Int) (g d : Nat) : List Int := (List.range' g d).map fun j => letter (num (bit8 l) (5 * j) 5)
def b32 (l : List Int) : List Int := b32from l 0 ((8 * l.length + 4) / 5)
theorem bit8_le (l : List Int) (k : Nat) : bit8 l k ≤ 1 := by unfold bit8; omega
theorem bit8_past {l : List Int} {k : Nat} (h : 8 * l.length ≤ k) : bit8 l k = 0 := by
  unfold bit8
  rw [getD_past (by omega)]
  simp
theorem bit8_byte (l : List Int) (i : Nat) (h : ∀ x ∈ l, 0 ≤ x ∧ x < 256) : num (bit8 l) (8 * i) 8 = (l.getD i 0).toNat := by
  have hx : (l.getD i 0).toNat < 256 := by
    by_cases hi : i < l.length
    · have := h _ (getD_mem hi); omega
    · rw [getD_past (by omega)]; simp
  generalize hv : (l.getD i 0).toNat = v at hx
  have hb : ∀ j, j < 8 → bit8 l (8 * i + j) = v / 2 ^ (7 - j) % 2 := by
    intro j hj
    unfold bit8
    rw [show (8 * i + j) / 8 = i by omega, show (8 * i + j) % 8 = j by omega, hv]
  simp only [num]
  rw [hb 0 (by omega), hb 1 (by omega), hb 2 (by omega), hb 3 (by omega), hb 4 (by omega), hb 5 (by omega), hb 6 (by omega), hb 7 (by omega)]
  simp only [Nat.reduceSub, Nat.reducePow]
  omega
theorem b32from_cons (l : List Int) (g d : Nat) : b32from l g (d + 1) = letter (num (bit8 l) (5 * g) 5) :: b32from l (g + 1) d := by
  simp [b32from, List.range'_succ]
theorem snoc_cons (a : List Int) (x : Int) (b : List Int) : (a ++ [x]) ++ b = a ++ x :: b := by simp

theorem impl_b32_l1 (s : ByteArray) (hb : s.size ≤ 1048576) (i : Nat) (hi : i < s.size)
    (H : ∀ (m x c : Nat) (out : List Int), x < 32 → c ≤ 4 → x % 2 ^ c = num (bit8 (bytesOf s)) (5 * m) c → 5 * m + c = 8 * (i + 1) → out.length = m →
      Ev (fun k => impl_base32.l0 k s out (x : Int) (c : Int) ((i + 1 : Nat) : Int)) (strOfNums (out ++ b32from (bytesOf s) m ((8 * s.size + 4) / 5 - m)))) :
    ∀ (n c m y : Nat) (out : List Int), c ≤ n → y < 2 ^ 20 → y % 2 ^ c = num (bit8 (bytesOf s)) (5 * m) c → 5 * m + c = 8 * (i + 1) → out.length = m → c ≤ 12 →
      Ev (fun k => impl_base32.l1 k s out (y : Int) (c : Int) (i : Int)) (strOfNums (out ++ b32from (bytesOf s) m ((8 * s.size + 4) / 5 - m))) := by
  intro n
  induction n with
  | zero =>
    intro c m y out hc hy hv hq hl hc2
    obtain rfl : c = 0 := by omega
    refine Ev.step (fun k => impl_base32.l1.eq_2 _ _ _ _ _ k) ?_
    refine Ev.neg (by omega) ?_
    rw [and_mask y 5 (by decide) (by omega) 31 (by decide), w64 (by omega) (by omega)]
    exact H m (y % 32) 0 out (by omega) (by omega) (by simpa using hv) hq hl
  | succ n ih =>
    intro c m y out hc hy hv hq hl hc2
    refine Ev.step (fun k => impl_base32.l1.eq_2 _ _ _ _ _ k) ?_
    by_cases h5 : 5 ≤ c
    · obtain ⟨a, rfl⟩ : ∃ a, c = a + 5 := ⟨c - 5, by omega⟩
      obtain ⟨e1, e2⟩ := num_five (bit8_le (bytesOf s)) hv
      have hw : wrap64 (((a + 5 : Nat) : Int) - 5) = (a : Int) := by rw [w64 (by omega) (by omega)]; omega
      have hy2 : y / 2 ^ a < 2 ^ 63 := Nat.lt_of_le_of_lt (Nat.div_le_self _ _) (by omega)
      have hv2 : Go.bits .and .i64 (shr .i64 (y : Int) (a : Int)) 31 = ((num (bit8 (bytesOf s)) (5 * m) 5 : Nat) : Int) := by
        rw [shr_nat y a (by omega), and_mask _ 5 (by decide) hy2 31 (by decide), ← e1]
      have hlt := num_lt (bit8_le (bytesOf s)) (5 * m) 5
      rw [hw, hv2]
      refine Ev.pos (by omega) (Ev.pos (by omega) (Ev.pos (by omega) (Ev.pos (by omega) (Ev.pos (by omega) ?_))))
      have hd : (8 * s.size + 4) / 5 - m = ((8 * s.size + 4) / 5 - (m + 1)) + 1 := by omega
      have h1 := ih a (m + 1) y (out ++ [letter (num (bit8 (bytesOf s)) (5 * m) 5)]) (by omega) hy (by rw [e2]; congr 1) (by omega) (by simp [hl]) (by omega)
      rw [hd, b32from_cons, ← snoc_cons out _ (b32from _ _ _)]
      exact h1
    · refine Ev.neg (by omega) ?_
      rw [and_mask y 5 (by decide) (by omega) 31 (by decide), w64 (by omega) (by omega)]
      refine H m (y % 32) c out (by omega) (by omega) ?_ hq hl
      rw [← hv]
      exact Nat.mod_mod_of_dvd _ ⟨2 ^ (5 - c), by rw [← Nat.pow_add, show c + (5 - c) = 5 by omega]⟩
theorem impl_b32_l0 (s : ByteArray) (hb : s.size ≤ 1048576) : ∀ (d i m x c : Nat) (out : List Int), i + d = s.size → x < 32 → c ≤ 4 → x % 2 ^ c = num (bit8 (bytesOf s)) (5 * m) c → 5 * m + c = 8 * i → out.length = m →
      Ev (fun k => impl_base32.l0 k s out (x : Int) (c : Int) (i : Int)) (strOfNums (out ++ b32from (bytesOf s) m ((8 * s.size + 4) / 5 - m))) := by
  intro d
  induction d with
  | zero =>
    intro i m x c out hd hx hc hv hq hl
    refine Ev.step (fun k => impl_base32.l0.eq_2 _ _ _ _ _ k) ?_
    refine Ev.neg (by omega) ?_
    by_cases h0 : c = 0
    · subst h0
      refine Ev.neg (by omega) ?_
      rw [show (8 * s.size + 4) / 5 - m = 0 by omega]
      simp only [b32from, List.range'_zero, List.map_nil, List.append_nil]
      exact Ev.now _
    · have hw : wrap64 (5 - (c : Int)) = ((5 - c : Nat) : Int) := by rw [w64 (by omega) (by omega)]; omega
      have hp : 2 ^ (5 - c) ≤ 2 ^ 5 := Nat.pow_le_pow_right (by decide) (by omega)
      have hm : x * 2 ^ (5 - c) ≤ 32 * 2 ^ 5 := Nat.mul_le_mul (by omega) hp
      have h32 : 32 = 2 ^ c * 2 ^ (5 - c) := by rw [← Nat.pow_add, show c + (5 - c) = 5 by omega]
      have hv2 : Go.bits .and .i64 (shl .i64 (x : Int) ((5 - c : Nat) : Int)) 31 = ((num (bit8 (bytesOf s)) (5 * m) 5 : Nat) : Int) := by
        rw [shl_nat x _ (by omega) (by omega), and_mask _ 5 (by decide) (by omega) 31 (by decide)]
        congr 1
        have e := num_add (bit8 (bytesOf s)) (5 * m) c (5 - c)
        rw [show c + (5 - c) = 5 by omega, num_zero (q := 5 * m + c) (fun k hk => bit8_past (by rw [bytesOf_length]; omega)), Nat.add_zero] at e
        rw [e, ← hv, show (2 : Nat) ^ 5 = 32 by rfl]
        conv => lhs; rw [h32]
        exact Nat.mul_mod_mul_right _ _ _
      have hlt := num_lt (bit8_le (bytesOf s)) (5 * m) 5
      rw [hw, hv2]
      refine Ev.pos (by omega) (Ev.pos (by omega) (Ev.pos (by omega) (Ev.pos (by omega) (Ev.pos (by omega) ?_))))
      rw [show (8 * s.size + 4) / 5 - m = 0 + 1 by omega, b32from_cons]
      simp only [b32from, List.range'_zero, List.map_nil]
      exact Ev.now _
  | succ d ih =>
    intro i m x c out hd hx hc hv hq hl
    have hbt := bt_range s (i : Int)
    obtain ⟨b, hbb⟩ := Int.eq_ofNat_of_zero_le hbt.1
    have hbv : num (bit8 (bytesOf s)) (8 * i) 8 = b := by
      rw [bit8_byte _ _ (fun x hx => bytes_lt hx), ← bt_nat, hbb]; rfl
    refine Ev.step (fun k => impl_base32.l0.eq_2 _ _ _ _ _ k) ?_
    have e1 : wrap64 ((x : Int) * 256) = ((x * 256 : Nat) : Int) := by rw [w64 (by omega) (by omega)]; omega
    have e2 : wrap64 (bt s (i : Int)) = (b : Int) := by rw [hbb, w64 (by omega) (by omega)]
    have e3 : wrap64 ((c : Int) + 8) = ((c + 8 : Nat) : Int) := by rw [w64 (by omega) (by omega)]; omega
    rw [e1, e2, e3, or_add (x * 256) b 8 (by omega) (by omega) (by omega) (by omega)]
    refine Ev.pos (by omega) (Ev.pos (by omega) ?_)
    refine impl_b32_l1 s hb i (by omega) (fun m x c out h1 h2 h3 h4 h5 => ih (i + 1) m x c out (by omega) h1 h2 h3 h4 h5) 12 (c + 8) m (x * 256 + b) out (by omega) (by omega) ?_ (by omega) hl (by omega)
    rw [num_grow (by omega) hv, num_add, hq, hbv]
theorem impl_b32 (s : ByteArray) (hb : s.size ≤ 1048576) : Ev (fun k => impl_base32.f k s) (strOfNums (b32 (bytesOf s))) := by
  have h := impl_b32_l0 s hb s.size 0 0 0 0 [] (by omega) (by omega) (by omega) (by simp [num]) (by omega) rfl
  unfold b32
  rw [bytesOf_length]
  show Ev (fun k => impl_base32.l0 k s [] 0 0 0) _
  simpa using h

theorem spec_bit (s : ByteArray) (hb : s.size ≤ 140737488351232) (k : Nat) (hk : k < 9223372036854775800) : spec_l1bit.f s (k : Int) = some ((bit8 (bytesOf s) k : Nat) : Int) := by
  have e1 : wrap64 (Int.tdiv (k : Int) 8) = ((k / 8 : Nat) : Int) := by
    rw [Int.tdiv_eq_ediv_of_nonneg (by omega), w64 (by omega) (by omega)]; omega
  have e2 : wrap64 (7 - Int.tmod (k : Int) 8) = ((7 - k % 8 : Nat) : Int) := by
    rw [Int.tmod_eq_emod_of_nonneg (by omega), w64 (by omega) (by omega)]; omega
  unfold spec_l1bit.f
  rw [e1, e2]
  by_cases h : s.size ≤ k / 8
  · rw [if_pos (by omega), bit8_past (by rw [bytesOf_length]; omega)]; rfl
  · rw [if_neg (by omega), if_pos (by omega), if_pos (by omega), if_pos (by omega)]
    have hbt := bt_range s ((k / 8 : Nat) : Int)
    obtain ⟨b, hbb⟩ := Int.eq_ofNat_of_zero_le hbt.1
    have hv : ((bytesOf s).getD (k / 8) 0).toNat = b := by rw [← bt_nat, hbb]; rfl
    rw [hbb, w64 (by omega) (by omega), shr_nat b _ (by omega), and_mask _ 1 (by decide) (Nat.lt_of_le_of_lt (Nat.div_le_self _ _) (by omega)) 1 (by decide)]
    unfold bit8
    rw [hv]
theorem spec_b32_l1 (s : ByteArray) (hb : s.size ≤ 4000) (g : Nat) (hg : 5 * g < 8 * s.size) (out : List Int) (r : ByteArray) (hl : out.length = g)
    (H : Ev (fun k => spec_Base32.l0 k s (out ++ [letter (num (bit8 (bytesOf s)) (5 * g) 5)]) ((5 * (g + 1) : Nat) : Int)) r) :
    ∀ (d j : Nat), j + d = 5 → Ev (fun k => spec_Base32.l1 k s out ((5 * g : Nat) : Int) ((num (bit8 (bytesOf s)) (5 * g) j : Nat) : Int) (j : Int)) r := by
  intro d
  induction d with
  | zero =>
    intro j hj
    obtain rfl : j = 5 := by omega
    have hlt := num_lt (bit8_le (bytesOf s)) (5 * g) 5
    refine Ev.step (fun k => spec_Base32.l1.eq_2 _ _ _ _ _ k) ?_
    refine Ev.neg (by omega) (Ev.pos (by omega) (Ev.pos (by omega) (Ev.pos (by omega) ?_)))
    have e : wrap64 (((5 * g : Nat) : Int) + 5) = ((5 * (g + 1) : Nat) : Int) := by rw [w64 (by omega) (by omega)]; omega
    rw [e]
    exact H
  | succ d ih =>
    intro j hj
    have hlt := num_lt (bit8_le (bytesOf s)) (5 * g) j
    have hp : 2 ^ j ≤ 2 ^ 5 := Nat.pow_le_pow_right (by decide) (by omega)
    have hbit := bit8_le (bytesOf s) (5 * g + j)
    refine Ev.step (fun k => spec_Base32.l1.eq_2 _ _ _ _ _ k) ?_
    have e : wrap64 (((5 * g : Nat) : Int) + (j : Int)) = ((5 * g + j : Nat) : Int) := by rw [w64 (by omega) (by omega)]; omega
    have e2 : wrap64 ((j : Int) + 1) = ((j + 1 : Nat) : Int) := by rw [w64 (by omega) (by omega)]; omega
    have e3 : wrap64 (wrap64 (2 * ((num (bit8 (bytesOf s)) (5 * g) j : Nat) : Int)) + ((bit8 (bytesOf s) (5 * g + j) : Nat) : Int)) = ((num (bit8 (bytesOf s)) (5 * g) (j + 1) : Nat) : Int) := by
      rw [w64 (n := 2 * _) (by omega) (by omega), w64 (by omega) (by omega)]
      show _ = ((2 * num (bit8 (bytesOf s)) (5 * g) j + bit8 (bytesOf s) (5 * g + j) : Nat) : Int)
      omega
    rw [e, e2]
    refine Ev.pos (by omega) (Ev.told (spec_bit s (by omega) _ (by omega)) ?_)
    rw [e3]
    exact ih (j + 1) (by omega)
theorem spec_b32_l0 (s : ByteArray) (hb : s.size ≤ 4000) : ∀ (d g : Nat) (out : List Int), g + d = (8 * s.size + 4) / 5 → out.length = g →
    Ev (fun k => spec_Base32.l0 k s out ((5 * g : Nat) : Int)) (strOfNums (out ++ b32from (bytesOf s) g d)) := by
  have e8 : wrap64 (8 * (s.size : Int)) = ((8 * s.size : Nat) : Int) := by rw [w64 (by omega) (by omega)]; omega
  intro d
  induction d with
  | zero =>
    intro g out hg hl
    refine Ev.step (fun k => spec_Base32.l0.eq_2 _ _ _ k) ?_
    rw [e8]
    refine Ev.neg (by omega) ?_
    simp only [b32from, List.range'_zero, List.map_nil, List.append_nil]
    exact Ev.now _
  | succ d ih =>
    intro g out hg hl
    refine Ev.step (fun k => spec_Base32.l0.eq_2 _ _ _ k) ?_
    rw [e8]
    refine Ev.pos (by omega) ?_
    refine spec_b32_l1 s hb g (by omega) out _ hl ?_ 5 0 (by omega)
    rw [b32from_cons, ← snoc_cons out _ (b32from _ _ _)]
    exact ih (g + 1) _ (by omega) (by simp [hl])
theorem spec_b32 (s : ByteArray) (hb : s.size ≤ 4000) : Ev (fun k => spec_Base32.f k s) (strOfNums (b32 (bytesOf s))) := by
  unfold spec_Base32.f
  refine Ev.neg (by omega) ?_
  have h := spec_b32_l0 s hb _ 0 [] (Nat.zero_add _) rfl
  unfold b32
  rw [bytesOf_length]
  simpa using h

/-! Five bits of each letter, and the bytes out of them -/
@[irreducible] def five (b : Int) : Int := if 65 ≤ b ∧ b ≤ 90 then b - 65 else if 50 ≤ b ∧ b ≤ 55 then b - 50 + 26 else -1
theorem five_lt (b : Int) : five b < 32 := by unfold five; split; omega; split <;> omega
theorem index_five {b : Int} (h0 : 0 ≤ b) (h1 : b < 256) : Lib.indexByte tbl.data.toList b.toNat.toUInt8 = five b := by
  have h : ∀ n : Fin 256, Lib.indexByte tbl.data.toList (n : Nat).toUInt8 = five ((n : Nat) : Int) := by decide +kernel
  have := h ⟨b.toNat, by omega⟩
  simpa only [Int.toNat_of_nonneg h0] using this
def bit5 (l : List Int) (k : Nat) : Nat := (five (l.getD (k / 5) 0)).toNat / 2 ^ (4 - k % 5) % 2
theorem bit5_le (l : List Int) (k : Nat) : bit5 l k ≤ 1 := by unfold bit5; omega
theorem bit5_five (l : List Int) (i : Nat) : num (bit5 l) (5 * i) 5 = (five (l.getD i 0)).toNat := by
  have hx := five_lt (l.getD i 0)
  have hx' : (five (l.getD i 0)).toNat < 32 := by omega
  clear hx
  generalize hv : (five (l.getD i 0)).toNat = v at hx'
  have hb : ∀ j, j < 5 → bit5 l (5 * i + j) = v / 2 ^ (4 - j) % 2 := by
    intro j hj
    unfold bit5
    rw [show (5 * i + j) / 5 = i by omega, show (5 * i + j) % 5 = j by omega, hv]
  simp only [num]
  rw [hb 0 (by omega), hb 1 (by omega), hb 2 (by omega), hb 3 (by omega), hb 4 (by omega)]
  simp only [Nat.reduceSub, Nat.reducePow]
  omega
def d32 (l : List Int) (n : Nat) : List Int := (List.range n).map fun m => ((num (bit5 l) (8 * m) 8 : Nat) : Int)
theorem d32_length (l : List Int) (n : Nat) : (d32 l n).length = n := by simp [d32]
theorem d32_succ (l : List Int) (n : Nat) : d32 l (n + 1) = d32 l n ++ [((num (bit5 l) (8 * n) 8 : Nat) : Int)] := by simp [d32, List.range_succ]
theorem d32_bytes (l : List Int) (n : Nat) : ∀ x ∈ d32 l n, 0 ≤ x ∧ x < 256 := by
  intro x hx
  simp only [d32, List.mem_map] at hx
  obtain ⟨m, _, rfl⟩ := hx
  have := num_lt (bit5_le l) (8 * m) 8
  omega
def text32 (s : ByteArray) : ByteArray := strOfNums (d32 (bytesOf s) (5 * s.size / 8))
def rb32 (s : ByteArray) : ByteArray × Bool :=
  if (∀ x ∈ bytesOf s, 0 ≤ five x) ∧ s.size ≤ 6400 ∧ (strOfNums (b32 (bytesOf (text32 s)))).toList = s.toList then (text32 s, true) else (⟨#[]⟩, false)
theorem b32_length (l : List Int) : (b32 l).length = (8 * l.length + 4) / 5 := by simp [b32, b32from]
theorem text32_size (s : ByteArray) : (text32 s).size = 5 * s.size / 8 := by unfold text32; rw [size_strOf, d32_length]
theorem rb32_bad {s : ByteArray} {i : Nat} (h : i < s.size) (hb : five (bt s (i : Int)) < 0) : rb32 s = (⟨#[]⟩, false) := by
  unfold rb32
  rw [if_neg]
  rintro ⟨h1, _⟩
  have := h1 _ (getD_mem (xs := bytesOf s) (i := i) (by rw [bytesOf_length]; exact h))
  rw [← bt_nat] at this
  omega
theorem rb32_long {s : ByteArray} (h : 6400 < s.size) : rb32 s = (⟨#[]⟩, false) := by
  unfold rb32
  rw [if_neg]
  rintro ⟨_, h1, _⟩
  omega
theorem all_five {s : ByteArray} (h : ∀ j, j < s.size → 0 ≤ five (bt s (j : Int))) : ∀ x ∈ bytesOf s, 0 ≤ five x := by
  intro x hx
  obtain ⟨j, hj, rfl⟩ := List.getElem_of_mem hx
  have := h j (by rw [← bytesOf_length]; exact hj)
  rw [bt_nat, List.getD_eq_getElem?_getD, List.getElem?_eq_getElem hj, Option.getD_some] at this
  exact this
/-- Both ends: the letters are good; the text's letters again are compared. -/
theorem rb32_end {s : ByteArray} (h : ∀ j, j < s.size → 0 ≤ five (bt s (j : Int))) (hs : 5 * s.size / 8 ≤ 4000) :
    rb32 s = if (strOfNums (b32 (bytesOf (text32 s)))).toList = s.toList then (text32 s, true) else (⟨#[]⟩, false) := by
  unfold rb32
  by_cases he : (strOfNums (b32 (bytesOf (text32 s)))).toList = s.toList
  · rw [if_pos he, if_pos]
    refine ⟨all_five h, ?_, he⟩
    have h1 := congrArg List.length he
    rw [Lib.toList_data, Lib.toList_data] at h1
    have h2 : (strOfNums (b32 (bytesOf (text32 s)))).size = s.size := h1
    rw [size_strOf, b32_length, bytesOf_length, text32_size] at h2
    omega
  · rw [if_neg he, if_neg (fun h => he h.2.2)]

theorem num_part {β : Nat → Nat} (h : ∀ k, β k ≤ 1) {y q a b : Nat} (hy : y % 2 ^ (a + b) = num β q (a + b)) :
    y / 2 ^ a % 2 ^ b = num β q b ∧ y % 2 ^ a = num β (q + b) a := by
  have e := num_add β q b a
  rw [Nat.add_comm b a] at e
  have hM := num_lt h (q + b) a
  have hN := num_lt h q b
  rw [e, Nat.add_comm (num β q b * 2 ^ a)] at hy
  have hp : 2 ^ (a + b) = 2 ^ a * 2 ^ b := Nat.pow_add 2 a b
  constructor
  · have h1 := Nat.mod_mul_right_div_self y (2 ^ a) (2 ^ b)
    rw [← h1, ← hp, hy, Nat.add_mul_div_right _ _ (Nat.two_pow_pos a), Nat.div_eq_of_lt hM, Nat.zero_add]
  · have h1 := Nat.mod_mod_of_dvd y (⟨2 ^ b, hp⟩ : 2 ^ a ∣ 2 ^ (a + b))
    rw [← h1, hy, Nat.add_mul_mod_self_right, Nat.mod_eq_of_lt hM]
theorem num_grow5 {x b c v : Nat} (hb : b < 32) (hx : x % 2 ^ c = v) : (x * 32 + b) % 2 ^ (c + 5) = v * 32 + b := by
  have hp : 2 ^ (c + 5) = 2 ^ c * 32 := Nat.pow_add 2 c 5
  have h1 := Nat.div_add_mod x (2 ^ c)
  have h2 : x * 32 + b = (v * 32 + b) + (x / 2 ^ c) * (2 ^ c * 32) := by
    rw [← hx]
    conv => lhs; rw [← h1]
    rw [Nat.add_mul, Nat.mul_comm (2 ^ c) (x / 2 ^ c), Nat.mul_assoc]
    omega
  have h3 : v < 2 ^ c := by rw [← hx]; exact Nat.mod_lt _ (Nat.two_pow_pos c)
  rw [h2, hp, Nat.add_mul_mod_self_right, Nat.mod_eq_of_lt]
  omega
theorem impl_rb_l0 (s : ByteArray) (hb : s.size ≤ 1048576) : ∀ (d i m x c : Nat), i + d = s.size → x < 4096 → c ≤ 7 → x % 2 ^ c = num (bit5 (bytesOf s)) (8 * m) c → 8 * m + c = 5 * i →
    (∀ j, j < i → 0 ≤ five (bt s (j : Int))) → Ev (fun k => impl_ReadBase32.l0 k s (d32 (bytesOf s) m) (x : Int) (c : Int) (i : Int)) (rb32 s) := by
  intro d
  induction d with
  | zero =>
    intro i m x c hd hx hc hv hq hg
    have hm : m = 5 * s.size / 8 := by omega
    refine Ev.step (fun k => impl_ReadBase32.l0.eq_2 _ _ _ _ _ k) (Ev.neg (by omega) ?_)
    by_cases h4 : ((d32 (bytesOf s) m).length : Int) > 4000
    · refine Ev.pos h4 ?_
      rw [d32_length] at h4
      rw [rb32_long (by omega)]; exact Ev.now _
    · refine Ev.neg h4 ?_
      rw [d32_length] at h4
      rw [rb32_end (fun j hj => hg j (by omega)) (by omega)]
      have ht : strOfNums (d32 (bytesOf s) m) = text32 s := by rw [hm]; rfl
      rw [ht]
      refine Ev.bind (impl_b32 (text32 s) (by rw [text32_size]; omega)) ?_
      by_cases he : (strOfNums (b32 (bytesOf (text32 s)))).toList = s.toList
      · exact Ev.pos he (by rw [if_pos he]; exact Ev.now _)
      · exact Ev.neg he (by rw [if_neg he]; exact Ev.now _)
  | succ d ih =>
    intro i m x c hd hx hc hv hq hg
    have hr := bt_range s (i : Int)
    have hf := five_lt (bt s (i : Int))
    refine Ev.step (fun k => impl_ReadBase32.l0.eq_2 _ _ _ _ _ k) (Ev.pos (by omega) (Ev.pos (by omega) ?_))
    refine Ev.told (b := five (bt s (i : Int))) (congrArg some (index_five (by omega) (by omega))) ?_
    by_cases hn : five (bt s (i : Int)) < 0
    · refine Ev.pos hn ?_
      rw [rb32_bad (by omega) hn]; exact Ev.now _
    · refine Ev.neg hn ?_
      obtain ⟨v, hvv⟩ := Int.eq_ofNat_of_zero_le (show 0 ≤ five (bt s (i : Int)) by omega)
      have hvl : v < 32 := by omega
      have hnum : num (bit5 (bytesOf s)) (5 * i) 5 = v := by rw [bit5_five, ← bt_nat, hvv]; rfl
      rw [hvv]
      have e1 : wrap64 ((x : Int) * 32) = ((x * 32 : Nat) : Int) := by rw [w64 (by omega) (by omega)]; omega
      have e3 : wrap64 ((c : Int) + 5) = ((c + 5 : Nat) : Int) := by rw [w64 (by omega) (by omega)]; omega
      have e4 : wrap64 ((i : Int) + 1) = ((i + 1 : Nat) : Int) := by rw [w64 (by omega) (by omega)]; omega
      rw [e1, e3, e4, or_add (x * 32) v 5 (by omega) (by omega) (by omega) (by omega), and_mask (x * 32 + v) 12 (by decide) (by omega) 4095 (by decide)]
      clear e1 e3 e4
      have hg' : ∀ j, j < i + 1 → 0 ≤ five (bt s (j : Int)) := fun j hj => (Nat.lt_or_eq_of_le (Nat.le_of_lt_succ hj)).elim (fun h => hg j h) (fun h => h ▸ Int.not_lt.mp hn)
      have hY : (x * 32 + v) % 2 ^ 12 % 2 ^ (c + 5) = num (bit5 (bytesOf s)) (8 * m) (c + 5) := by
        have h1 := Nat.mod_mod_of_dvd (x * 32 + v) (Nat.pow_dvd_pow 2 (Nat.add_le_add_right hc 5))
        have h2 := num_grow5 (b := v) hvl hv
        have h3 := num_add (bit5 (bytesOf s)) (8 * m) c 5
        rw [hq, hnum, show (2 : Nat) ^ 5 = 32 by decide] at h3
        exact h1.trans (h2.trans h3.symm)
      clear hv hnum hvl hvv hf hr hn hx
      have hy : (x * 32 + v) % 2 ^ 12 < 4096 := Nat.mod_lt _ (Nat.two_pow_pos 12)
      generalize (x * 32 + v) % 2 ^ 12 = y at hY hy
      by_cases h8 : 8 ≤ c + 5
      · obtain ⟨a, ha⟩ : ∃ a, c + 5 = a + 8 := ⟨c + 5 - 8, by omega⟩
        have e5 : wrap64 (((c + 5 : Nat) : Int) - 8) = (a : Int) := by rw [w64 (by omega) (by omega)]; omega
        rw [ha] at hY
        obtain ⟨p1, p2⟩ := num_part (bit5_le (bytesOf s)) hY
        refine Ev.pos (by omega) ?_
        rw [e5, shr_nat y a (by omega)]
        refine Ev.pos (by omega) (Ev.pos (by rw [d32_length]; omega) ?_)
        have e6 : ((y / 2 ^ a : Nat) : Int) % 256 = ((num (bit5 (bytesOf s)) (8 * m) 8 : Nat) : Int) := by
          rw [← p1, show (2 : Nat) ^ 8 = 256 by decide]
          generalize y / 2 ^ a = q
          omega
        rw [e6, ← d32_succ]
        exact ih (i + 1) (m + 1) y a (by omega) hy (by omega) p2 (by omega) hg'
      · refine Ev.neg (by omega) ?_
        exact ih (i + 1) m y (c + 5) (by omega) hy (by omega) hY (by omega) hg'
theorem impl_rb (s : ByteArray) (hb : s.size ≤ 1048576) : Ev (fun k => impl_ReadBase32.f k s) (rb32 s) :=
  impl_rb_l0 s hb s.size 0 0 0 0 (by omega) (by omega) (by omega) (by simp [num]) (by omega) (by omega)

theorem five_up {b : Int} (h : 65 ≤ b) (h2 : b ≤ 90) : five b = b - 65 := by unfold five; rw [if_pos ⟨h, h2⟩]
theorem five_dig {b : Int} (h : 50 ≤ b) (h2 : b ≤ 55) : five b = b - 50 + 26 := by unfold five; rw [if_neg (by omega), if_pos ⟨h, h2⟩]
theorem five_none {b : Int} (h : ¬ (65 ≤ b ∧ b ≤ 90)) (h2 : ¬ (50 ≤ b ∧ b ≤ 55)) : five b = -1 := by unfold five; rw [if_neg h, if_neg h2]
theorem spec_five (b : Int) (h0 : 0 ≤ b) (h1 : b < 256) : Ev (fun k => spec_l1five.f k b) (five b) := by
  unfold spec_l1five.f
  by_cases h65 : b ≥ 65
  · refine Ev.pos h65 (Ev.step (fun k => spec_l1five.j0.eq_2 _ _ k) ?_)
    by_cases h90 : b ≤ 90
    · refine Ev.pos (decide_eq_true h90) ?_
      rw [five_up h65 h90, show (b - 65) % 256 = b - 65 by omega]; exact Ev.now _
    · rw [five_none (by omega) (by omega)]
      exact Ev.neg (by simpa using h90) (Ev.pos (by omega) (Ev.neg (by omega) (Ev.now _)))
  · refine Ev.neg h65 (Ev.step (fun k => spec_l1five.j0.eq_2 _ _ k) (Ev.neg (by simp) ?_))
    by_cases h50 : b ≥ 50
    · by_cases h55 : b ≤ 55
      · refine Ev.pos h50 (Ev.pos h55 ?_)
        rw [five_dig h50 h55, show (b - 50) % 256 = b - 50 by omega]; exact Ev.now _
      · rw [five_none (by omega) (by omega)]; exact Ev.pos h50 (Ev.neg h55 (Ev.now _))
    · rw [five_none (by omega) (by omega)]; exact Ev.neg h50 (Ev.now _)
/-- The bits ahead of a place. -/
def cut (β : Nat → Nat) (at_ q : Nat) : Nat := if q < at_ then β q else 0
def dcut (l : List Int) (n at_ : Nat) : List Int := (List.range n).map fun m => ((num (cut (bit5 l) at_) (8 * m) 8 : Nat) : Int)
theorem dcut_length (l : List Int) (n a : Nat) : (dcut l n a).length = n := by simp [dcut]
theorem dcut_zero (l : List Int) (n : Nat) : dcut l n 0 = List.replicate n 0 := by
  apply List.ext_getElem
  · simp [dcut]
  · intro i h1 h2
    simp only [dcut, List.getElem_map, List.getElem_range, List.getElem_replicate]
    rw [num_zero (fun k _ => by simp [cut])]; rfl
theorem dcut_full (l : List Int) (n a : Nat) (h : 8 * n ≤ a) : dcut l n a = d32 l n := by
  apply List.ext_getElem
  · simp [dcut, d32]
  · intro i h1 h2
    simp only [dcut, d32, List.getElem_map, List.getElem_range]
    rw [num_congr (γ := bit5 l)]
    intro k hk1 hk2
    have : i < n := by simpa [dcut] using h1
    unfold cut; rw [if_pos (by omega)]
theorem cut_other {β : Nat → Nat} {a m : Nat} (h : a / 8 ≠ m) : num (cut β (a + 1)) (8 * m) 8 = num (cut β a) (8 * m) 8 := by
  apply num_congr
  intro k h1 h2
  unfold cut
  by_cases hk : k < a
  · rw [if_pos (by omega), if_pos hk]
  · rw [if_neg (by omega), if_neg hk]
theorem cut_this (β : Nat → Nat) (a : Nat) : num (cut β (a + 1)) (8 * (a / 8)) 8 = num (cut β a) (8 * (a / 8)) 8 + β a * 2 ^ (7 - a % 8) := by
  have e : ∀ j, cut β (a + 1) (8 * (a / 8) + j) = cut β a (8 * (a / 8) + j) + (if j = a % 8 then β a else 0) := by
    intro j
    unfold cut
    by_cases hj : j = a % 8
    · rw [if_pos hj, if_pos (by omega), if_neg (by omega), show 8 * (a / 8) + j = a by omega]; omega
    · rw [if_neg hj]
      by_cases h : 8 * (a / 8) + j < a
      · rw [if_pos (by omega), if_pos h]; rfl
      · rw [if_neg (by omega), if_neg h]
  have hm : a % 8 < 8 := Nat.mod_lt _ (by decide)
  simp only [num]
  rw [e 0, e 1, e 2, e 3, e 4, e 5, e 6, e 7]
  generalize a % 8 = t at hm ⊢
  rcases (by omega : t = 0 ∨ t = 1 ∨ t = 2 ∨ t = 3 ∨ t = 4 ∨ t = 5 ∨ t = 6 ∨ t = 7) with rfl | rfl | rfl | rfl | rfl | rfl | rfl | rfl <;> simp <;> omega
theorem dcut_step (l : List Int) (n a : Nat) : dcut l n (a + 1) = if a / 8 < n ∧ bit5 l a = 1 then (dcut l n a).set (a / 8) ((dcut l n a).getD (a / 8) 0 + ((2 ^ (7 - a % 8) : Nat) : Int)) else dcut l n a := by
  have hb := bit5_le l a
  split
  · rename_i h
    apply List.ext_getElem
    · simp [dcut]
    · intro i h1 h2
      have hi : i < n := by simpa [dcut] using h1
      rw [List.getElem_set]
      split
      · rename_i hi2
        subst hi2
        rw [List.getD_eq_getElem?_getD, List.getElem?_eq_getElem (by rw [dcut_length]; exact hi), Option.getD_some]
        simp only [dcut, List.getElem_map, List.getElem_range]
        rw [cut_this, h.2]; simp
      · rename_i hi2
        simp only [dcut, List.getElem_map, List.getElem_range]
        rw [cut_other hi2]
  · rename_i h
    apply List.ext_getElem
    · simp [dcut]
    · intro i h1 h2
      have hi : i < n := by simpa [dcut] using h1
      simp only [dcut, List.getElem_map, List.getElem_range]
      by_cases hi2 : a / 8 = i
      · subst hi2
        rw [cut_this, show bit5 l a = 0 by have : bit5 l a ≠ 1 := fun e => h ⟨hi, e⟩; omega]; simp
      · rw [cut_other hi2]
theorem dcut_lt (l : List Int) (n a i : Nat) (hi : i < n) : 0 ≤ (dcut l n a).getD i 0 ∧ (dcut l n a).getD i 0 < 256 := by
  rw [List.getD_eq_getElem?_getD, List.getElem?_eq_getElem (by rw [dcut_length]; exact hi), Option.getD_some]
  simp only [dcut, List.getElem_map, List.getElem_range]
  have := num_lt (β := cut (bit5 l) a) (fun k => by unfold cut; have := bit5_le l k; split <;> omega) (8 * i) 8
  omega
theorem dcut_fit (l : List Int) (n a : Nat) (h : a / 8 < n) (hb : bit5 l a = 1) : (dcut l n a).getD (a / 8) 0 + ((2 ^ (7 - a % 8) : Nat) : Int) < 256 := by
  have h1 := dcut_lt l n (a + 1) (a / 8) h
  have h2 := dcut_step l n a
  rw [if_pos ⟨h, hb⟩] at h2
  rw [h2] at h1
  simpa [List.getD_eq_getElem?_getD, List.getElem?_set_self, dcut_length, h] using h1.2
theorem rb_nums (i j : Nat) (hi : i < 6400) (hj : j < 5) : wrap64 (5 * (i : Int)) = 5 * (i : Int) ∧ wrap64 (5 * (i : Int) + (j : Int)) = ((5 * i + j : Nat) : Int) ∧ Int.tdiv ((5 * i + j : Nat) : Int) 8 = (((5 * i + j) / 8 : Nat) : Int) ∧
    wrap64 (((5 * i + j) / 8 : Nat) : Int) = (((5 * i + j) / 8 : Nat) : Int) ∧ wrap64 (4 - (j : Int)) = ((4 - j : Nat) : Int) ∧ wrap64 ((j : Int) + 1) = ((j + 1 : Nat) : Int) ∧ Int.tmod ((5 * i + j : Nat) : Int) 8 = (((5 * i + j) % 8 : Nat) : Int) ∧
    wrap64 (7 - (((5 * i + j) % 8 : Nat) : Int)) = ((7 - (5 * i + j) % 8 : Nat) : Int) := by
  refine ⟨w64 (by omega) (by omega), ?_, ?_, w64 (by omega) (by omega), ?_, ?_, ?_, ?_⟩
  · rw [w64 (by omega) (by omega)]; omega
  · rw [Int.tdiv_eq_ediv_of_nonneg (by omega)]; omega
  · rw [w64 (by omega) (by omega)]; omega
  · rw [w64 (by omega) (by omega)]; omega
  · rw [Int.tmod_eq_emod_of_nonneg (by omega)]; omega
  · rw [w64 (by omega) (by omega)]; omega
theorem shr_bit (v t : Nat) (hv : v < 32) (ht : t ≤ 4) : Go.bits .and .i64 (shr .i64 (v : Int) (t : Int)) 1 = ((v / 2 ^ t % 2 : Nat) : Int) := by
  have hp : v / 2 ^ t < 2 ^ 63 := Nat.lt_of_le_of_lt (Nat.div_le_self _ _) (Nat.lt_trans hv (by decide))
  rw [shr_nat v t (by omega), and_mask _ 1 (by decide) hp 1 (by decide)]
theorem spec_rb_l1 (s : ByteArray) (hs : s.size ≤ 6400) (n i : Nat) (hn : n = 5 * s.size / 8) (hi : i < s.size) (v : Nat) (hv : five (bt s (i : Int)) = (v : Int)) (r : ByteArray × Bool)
    (H : Ev (fun k => spec_ReadBase32.l0 k s (dcut (bytesOf s) n (5 * (i + 1))) ((i + 1 : Nat) : Int)) r) : ∀ (d j : Nat), j + d = 5 →
    Ev (fun k => spec_ReadBase32.l1 k s (dcut (bytesOf s) n (5 * i + j)) (i : Int) (v : Int) (j : Int)) r := by
  have hvl : v < 32 := by have := five_lt (bt s (i : Int)); omega
  intro d
  induction d with
  | zero =>
    intro j hj
    refine Ev.step (fun k => spec_ReadBase32.l1.eq_2 _ _ _ _ _ k) (Ev.neg (by omega) ?_)
    rw [show wrap64 ((i : Int) + 1) = ((i + 1 : Nat) : Int) by rw [w64 (by omega) (by omega)]; omega, show 5 * i + j = 5 * (i + 1) by omega]
    exact H
  | succ d ih =>
    intro j hj
    have e9 := shr_bit v (4 - j) hvl (Nat.sub_le 4 j)
    have hbit : bit5 (bytesOf s) (5 * i + j) = v / 2 ^ (4 - j) % 2 := by
      unfold bit5
      rw [show (5 * i + j) / 5 = i by omega, show (5 * i + j) % 5 = j by omega, ← bt_nat, hv, Int.toNat_natCast]
    have h1 := ih (j + 1) (by omega)
    rw [show 5 * i + (j + 1) = 5 * i + j + 1 by omega, dcut_step] at h1
    refine Ev.step (fun k => spec_ReadBase32.l1.eq_2 _ _ _ _ _ k) (Ev.pos (by omega) ?_)
    obtain ⟨e1, e2, e3, e4, e5, e6, e7, e8⟩ := rb_nums i j (by omega) (by omega)
    rw [e1, e2, e3, e4, e5, e6, e7, e8, e9, ← hbit]
    clear e1 e2 e3 e4 e5 e6 e7 e8 e9 hbit hv hvl H ih
    by_cases hlt : (5 * i + j) / 8 < n
    · refine Ev.pos (by rw [dcut_length]; omega) (Ev.pos (by omega) ?_)
      by_cases hb1 : bit5 (bytesOf s) (5 * i + j) = 1
      · rw [if_pos ⟨hlt, hb1⟩] at h1
        refine Ev.pos (by omega) (Ev.pos (by omega) (Ev.pos (by omega) ?_))
        have hf := dcut_fit (bytesOf s) n (5 * i + j) hlt hb1
        have h0 := dcut_lt (bytesOf s) n (5 * i + j) ((5 * i + j) / 8) hlt
        have h2 : shl .u8 1 ((7 - (5 * i + j) % 8 : Nat) : Int) = ((2 ^ (7 - (5 * i + j) % 8) : Nat) : Int) := by
          have hm : 7 - (5 * i + j) % 8 ≤ 7 := by omega
          generalize 7 - (5 * i + j) % 8 = t at hm
          rcases (by omega : t = 0 ∨ t = 1 ∨ t = 2 ∨ t = 3 ∨ t = 4 ∨ t = 5 ∨ t = 6 ∨ t = 7) with rfl | rfl | rfl | rfl | rfl | rfl | rfl | rfl <;> decide
        have h3 : rd (dcut (bytesOf s) n (5 * i + j)) (((5 * i + j) / 8 : Nat) : Int) = (dcut (bytesOf s) n (5 * i + j)).getD ((5 * i + j) / 8) 0 := rfl
        rw [h2, h3, Int.emod_eq_of_lt (Int.add_nonneg h0.1 (Int.natCast_nonneg _)) hf, Int.toNat_natCast]
        exact h1
      · rw [if_neg (fun h => hb1 h.2)] at h1
        have := bit5_le (bytesOf s) (5 * i + j)
        exact Ev.neg (by omega) h1
    · rw [if_neg (fun h => hlt h.1)] at h1
      exact Ev.neg (by rw [dcut_length]; omega) h1
theorem spec_rb_l0 (s : ByteArray) (hs : s.size ≤ 6400) (n : Nat) (hnn : n = 5 * s.size / 8) : ∀ (d i : Nat), i + d = s.size → (∀ j, j < i → 0 ≤ five (bt s (j : Int))) →
    Ev (fun k => spec_ReadBase32.l0 k s (dcut (bytesOf s) n (5 * i)) (i : Int)) (rb32 s) := by
  intro d
  induction d with
  | zero =>
    intro i hd hg
    refine Ev.step (fun k => spec_ReadBase32.l0.eq_2 _ _ _ k) (Ev.neg (by omega) ?_)
    rw [dcut_full _ _ _ (by omega), rb32_end (fun j hj => hg j (by omega)) (by omega)]
    have ht : strOfNums (d32 (bytesOf s) n) = text32 s := by rw [hnn]; rfl
    rw [ht]
    refine Ev.bind (spec_b32 (text32 s) (by rw [text32_size]; omega)) ?_
    by_cases he : (strOfNums (b32 (bytesOf (text32 s)))).toList = s.toList
    · exact Ev.pos he (by rw [if_pos he]; exact Ev.now _)
    · exact Ev.neg he (by rw [if_neg he]; exact Ev.now _)
  | succ d ih =>
    intro i hd hg
    have hr := bt_range s (i : Int)
    refine Ev.step (fun k => spec_ReadBase32.l0.eq_2 _ _ _ k) (Ev.pos (by omega) (Ev.pos (by omega) ?_))
    refine Ev.bind (spec_five (bt s (i : Int)) (by omega) (by omega)) ?_
    by_cases hn : five (bt s (i : Int)) < 0
    · refine Ev.pos hn ?_
      rw [rb32_bad (by omega) hn]; exact Ev.now _
    · refine Ev.neg hn ?_
      obtain ⟨v, hvv⟩ := Int.eq_ofNat_of_zero_le (show 0 ≤ five (bt s (i : Int)) by omega)
      rw [hvv]
      have h1 := ih (i + 1) (by omega) (fun j hj => (Nat.lt_or_eq_of_le (Nat.le_of_lt_succ hj)).elim (fun h => hg j h) (fun h => h ▸ Int.not_lt.mp hn))
      exact spec_rb_l1 s hs n i hnn (by omega) v hvv (rb32 s) h1 5 0 (by omega)
theorem spec_rb (s : ByteArray) (hb : s.size ≤ 1048576) : Ev (fun k => spec_ReadBase32.f k s) (rb32 s) := by
  unfold spec_ReadBase32.f
  by_cases h : (s.size : Int) > 6400
  · refine Ev.pos h ?_
    rw [rb32_long (by omega)]; exact Ev.now _
  · refine Ev.neg h ?_
    have e1 : wrap64 ((s.size : Int) * 5) = ((5 * s.size : Nat) : Int) := by rw [w64 (by omega) (by omega)]; omega
    have e2 : Int.tdiv ((5 * s.size : Nat) : Int) 8 = ((5 * s.size / 8 : Nat) : Int) := by rw [Int.tdiv_eq_ediv_of_nonneg (by omega)]; omega
    have e3 : wrap64 ((5 * s.size / 8 : Nat) : Int) = ((5 * s.size / 8 : Nat) : Int) := w64 (by omega) (by omega)
    rw [e1, e2, e3, Int.toNat_natCast, ← dcut_zero (bytesOf s)]
    exact Ev.pos (by omega) (Ev.pos (by omega) (spec_rb_l0 s (by omega) _ rfl s.size 0 (by omega) (by omega)))

/-! Labels read: what stands behind 'sha1:' -/
def lpre : ByteArray := ⟨#[115, 104, 97, 49, 58]⟩
def lsign : List UInt8 := [115, 104, 97, 49, 58]
theorem lpre_size : (lpre.size : Int) = 5 := rfl
theorem lpre_list : lpre.toList = lsign := by rw [Lib.toList_data]; rfl
theorem cut_yes {s : ByteArray} (h : 5 ≤ s.size) (he : (s.extract 0 5).toList = lsign) : strings_CutPrefix.f s lpre = some (s.extract 5 s.size, true) := by
  unfold strings_CutPrefix.f stringslite_CutPrefix.f stringslite_HasPrefix.f
  rw [lpre_size]
  have h1 : (s.size : Int) ≥ 5 := by omega
  have h2 : (5 : Int) ≤ (s.size : Int) := by omega
  have hb : ((s.extract 0 ((5 : Int)).toNat).toList == lpre.toList) = true := by rw [lpre_list]; exact beq_iff_eq.mpr he
  rw [if_pos h1, if_pos (show (0 : Int) ≤ 5 by decide), if_pos h2, hb]
  rw [if_pos (show (0 : Int) ≤ 5 by decide), if_pos h2]; rfl
theorem cut_no {s : ByteArray} (h : ¬ (5 ≤ s.size ∧ (s.extract 0 5).toList = lsign)) : strings_CutPrefix.f s lpre = some (s, false) := by
  unfold strings_CutPrefix.f stringslite_CutPrefix.f stringslite_HasPrefix.f
  rw [lpre_size]
  by_cases h5 : 5 ≤ s.size
  · have h1 : (s.size : Int) ≥ 5 := by omega
    have h2 : (5 : Int) ≤ (s.size : Int) := by omega
    have hb : ((s.extract 0 ((5 : Int)).toNat).toList == lpre.toList) = false := by rw [lpre_list]; exact beq_eq_false_iff_ne.mpr (fun e => h ⟨h5, e⟩)
    rw [if_pos h1, if_pos (show (0 : Int) ≤ 5 by decide), if_pos h2, hb]; rfl
  · have h1 : ¬ (s.size : Int) ≥ 5 := by omega
    rw [if_neg h1]; rfl
theorem cut_label (s : ByteArray) : strings_CutPrefix.f s lpre = some (if 5 ≤ s.size ∧ (s.extract 0 5).toList = lsign then (s.extract 5 s.size, true) else (s, false)) := by
  by_cases h : 5 ≤ s.size ∧ (s.extract 0 5).toList = lsign
  · rw [cut_yes h.1 h.2, if_pos h]
  · rw [cut_no h, if_neg h]
def rlabel (s : ByteArray) : ByteArray × Bool := if s.size = 37 ∧ (s.extract 0 5).toList = lsign then rb32 (s.extract 5 s.size) else (⟨#[]⟩, false)
theorem spec_rlabel (s : ByteArray) : Ev (fun k => spec_ReadLabel.f k s) (rlabel s) := by
  unfold spec_ReadLabel.f rlabel
  by_cases h : (s.size : Int) = 37
  · refine Ev.pos h (Ev.pos (by decide) (Ev.pos (by omega) ?_))
    have hs := size_extract s 5 s.size (Nat.le_refl _)
    by_cases he : (s.extract 0 5).toList = lsign
    · rw [if_pos ⟨by omega, he⟩]
      exact Ev.pos he (Ev.bind (spec_rb (s.extract 5 s.size) (by omega)) (Ev.now _))
    · rw [if_neg (fun x => he x.2)]; exact Ev.neg he (Ev.now _)
  · rw [if_neg (fun x => h (by omega))]; exact Ev.neg h (Ev.now _)
theorem impl_rlabel (s : ByteArray) : Ev (fun k => impl_ReadLabel.f k s) (rlabel s) := by
  unfold impl_ReadLabel.f rlabel
  refine Ev.told (cut_label s) ?_
  by_cases h5 : 5 ≤ s.size ∧ (s.extract 0 5).toList = lsign
  · rw [if_pos h5]
    have hs := size_extract s 5 s.size (Nat.le_refl _)
    refine Ev.pos rfl ?_
    by_cases h : s.size = 37
    · rw [if_pos ⟨h, h5.2⟩]
      exact Ev.pos (by show ((s.extract 5 s.size).size : Int) = 32; omega) (Ev.bind (impl_rb (s.extract 5 s.size) (by omega)) (Ev.now _))
    · rw [if_neg (fun x => h x.1)]
      exact Ev.neg (by show ¬ ((s.extract 5 s.size).size : Int) = 32; omega) (Ev.now _)
  · rw [if_neg h5, if_neg (fun x => h5 ⟨by omega, x.2⟩)]
    exact Ev.neg (by simp) (Ev.now _)

theorem FnExactReadLabel : laws_FnExactReadLabel.Pure := by
  intro s hs
  apply Ev.rounds
  unfold laws_FnExactReadLabel.f
  by_cases h : (s.size : Int) > 1048576
  · exact Ev.pos h (Ev.now _)
  · exact Ev.neg h (Ev.bind (spec_rlabel s) (Ev.bind (impl_rlabel s) (Ev.pos rfl (Ev.neg (by simp) (Ev.now _)))))

end Go.Proofs.Ytmplhlimccgcdaa.Pure
