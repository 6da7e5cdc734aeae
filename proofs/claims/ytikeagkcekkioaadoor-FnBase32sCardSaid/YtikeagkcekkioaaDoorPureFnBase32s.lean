/- The law FnBase32s answers true for every code: bytes come back from their letters, and letters from their bytes. No condition. -/
import Derived.Test.YtikeagkcekkioaaDoorQFnBase32sx2
import Derived.Test.YtikeagkcekkioaaDoorBase
namespace Go.Proofs.YtikeagkcekkioaaDoor.Pure
open Go.RowKit Go.Proofs.YtikeagkcekkioaaDoor.PFnBase32s Go.Proofs.YtikeagkcekkioaaDoorW.PrintWords Go.Proofs.YtikeagkcekkioaaDoorW.PrintLast Go.Proofs.YtikeagkcekkioaaDoorW.PrintMore Go.Proofs.YtikeagkcekkioaaDoor.Base
set_option linter.unusedVariables false
set_option linter.unusedSimpArgs false

/-! Letters of five bits -/
def tbl : ByteArray := ⟨#[65, 66, 67, 68, 69, 70, 71, 72, 73, 74, 75, 76, 77, 78, 79, 80, 81, 82, 83, 84, 85, 86, 87, 88, 89, 90, 50, 51, 52, 53, 54, 55]⟩
def letter (v : Nat) : Int := bt tbl (v : Int)
def bit8 (l : List Int) (k : Nat) : Nat := (l.getD (k / 8) 0).toNat / 2 ^ (7 - k % 8) % 2
def b32from (l : List Int) (g d : Nat) : List Int := (List.range' g d).map fun j => letter (num (bit8 l) (5 * j) 5)
def b32 (l : List Int) : List Int := b32from l 0 ((8 * l.length + 4) / 5)
theorem bit8_le (l : List Int) (k : Nat) : bit8 l k ≤ 1 := by unfold bit8; omega
theorem bit8_past {l : List Int} {k : Nat} (h : 8 * l.length ≤ k) : bit8 l k = 0 := by
  unfold bit8
  rw [getD_past (by omega)]
  simp
theorem bit8_byte (l : List Int) (i : Nat) (h : ∀ x ∈ l, 0 ≤ x ∧ x < 256) : num (bit8 l) (8 * i) 8 = (l.getD i 0).toNat := by
  have hx : (l.getD i 0).toNat < 256 := by
    by_cases hi : i < l.length
    · have := h _ (getD_mem hi); omega
    · rw [getD_past (by omega)]; simp
  generalize hv : (l.getD i 0).toNat = v at hx
  have hb : ∀ j, j < 8 → bit8 l (8 * i + j) = v / 2 ^ (7 - j) % 2 := by
    intro j hj
    unfold bit8
    rw [show (8 * i + j) / 8 = i by omega, show (8 * i + j) % 8 = j by omega, hv]
  simp only [num]
  rw [hb 0 (by omega), hb 1 (by omega), hb 2 (by omega), hb 3 (by omega), hb 4 (by omega), hb 5 (by omega), hb 6 (by omega), hb 7 (by omega)]
  simp only [Nat.reduceSub, Nat.reducePow]
  omega
theorem b32from_cons (l : List Int) (g d : Nat) : b32from l g (d + 1) = letter (num (bit8 l) (5 * g) 5) :: b32from l (g + 1) d := by
  simp [b32from, List.range'_succ]
theorem snoc_cons (a : List Int) (x : Int) (b : List Int) : (a ++ [x]) ++ b = a ++ x :: b := by simp

theorem impl_b32_l1 (s : ByteArray) (hb : s.size ≤ 1048576) (i : Nat) (hi : i < s.size)
    (H : ∀ (m x c : Nat) (out : List Int), x < 32 → c ≤ 4 → x % 2 ^ c = num (bit8 (bytesOf s)) (5 * m) c → 5 * m + c = 8 * (i + 1) → out.length = m →
      Ev (fun k => impl_base32.l0 k s out (x : Int) (c : Int) ((i + 1 : Nat) : Int)) (strOfNums (out ++ b32from (bytesOf s) m ((8 * s.size + 4) / 5 - m)))) :
    ∀ (n c m y : Nat) (out : List Int), c ≤ n → y < 2 ^ 20 → y % 2 ^ c = num (bit8 (bytesOf s)) (5 * m) c → 5 * m + c = 8 * (i + 1) → out.length = m → c ≤ 12 →
      Ev (fun k => impl_base32.l1 k s out (y : Int) (c : Int) (i : Int)) (strOfNums (out ++ b32from (bytesOf s) m ((8 * s.size + 4) / 5 - m))) := by
  intro n
  induction n with
  | zero =>
    intro c m y out hc hy hv hq hl hc2
    obtain rfl : c = 0 := by omega
    refine Ev.step (fun k => impl_base32.l1.eq_2 _ _ _ _ _ k) ?_
    refine Ev.neg (by omega) ?_
    rw [and_mask y 5 (by decide) (by omega) 31 (by decide), w64 (by omega) (by omega)]
    exact H m (y % 32) 0 out (by omega) (by omega) (by simpa using hv) hq hl
  | succ n ih =>
    intro c m y out hc hy hv hq hl hc2
    refine Ev.step (fun k => impl_base32.l1.eq_2 _ _ _ _ _ k) ?_
    by_cases h5 : 5 ≤ c
    · obtain ⟨a, rfl⟩ : ∃ a, c = a + 5 := ⟨c - 5, by omega⟩
      obtain ⟨e1, e2⟩ := num_five (bit8_le (bytesOf s)) hv
      have hw : wrap64 (((a + 5 : Nat) : Int) - 5) = (a : Int) := by rw [w64 (by omega) (by omega)]; omega
      have hy2 : y / 2 ^ a < 2 ^ 63 := Nat.lt_of_le_of_lt (Nat.div_le_self _ _) (by omega)
      have hv2 : Go.bits .and .i64 (shr .i64 (y : Int) (a : Int)) 31 = ((num (bit8 (bytesOf s)) (5 * m) 5 : Nat) : Int) := by
        rw [shr_nat y a (by omega), and_mask _ 5 (by decide) hy2 31 (by decide), ← e1]
      have hlt := num_lt (bit8_le (bytesOf s)) (5 * m) 5
      rw [hw, hv2]
      refine Ev.pos (by omega) (Ev.pos (by omega) (Ev.pos (by omega) (Ev.pos (by omega) (Ev.pos (by omega) ?_))))
      have hd : (8 * s.size + 4) / 5 - m = ((8 * s.size + 4) / 5 - (m + 1)) + 1 := by omega
      have h1 := ih a (m + 1) y (out ++ [letter (num (bit8 (bytesOf s)) (5 * m) 5)]) (by omega) hy (by rw [e2]; congr 1) (by omega) (by simp [hl]) (by omega)
      rw [hd, b32from_cons, ← snoc_cons out _ (b32from _ _ _)]
      exact h1
    · refine Ev.neg (by omega) ?_
      rw [and_mask y 5 (by decide) (by omega) 31 (by decide), w64 (by omega) (by omega)]
      refine H m (y % 32) c out (by omega) (by omega) ?_ hq hl
      rw [← hv]
      exact Nat.mod_mod_of_dvd _ ⟨2 ^ (5 - c), by rw [← Nat.pow_add, show c + (5 - c) = 5 by omega]⟩
theorem impl_b32_l0 (s : ByteArray) (hb : s.size ≤ 1048576) : ∀ (d i m x c : Nat) (out : List Int), i + d = s.size → x < 32 → c ≤ 4 → x % 2 ^ c = num (bit8 (bytesOf s)) (5 * m) c → 5 * m + c = 8 * i → out.length = m →
      Ev (fun k => impl_base32.l0 k s out (x : Int) (c : Int) (i : Int)) (strOfNums (out ++ b32from (bytesOf s) m ((8 * s.size + 4) / 5 - m))) := by
  intro d
  induction d with
  | zero =>
    intro i m x c out hd hx hc hv hq hl
    refine Ev.step (fun k => impl_base32.l0.eq_2 _ _ _ _ _ k) ?_
    refine Ev.neg (by omega) ?_
    by_cases h0 : c = 0
    · subst h0
      refine Ev.neg (by omega) ?_
      rw [show (8 * s.size + 4) / 5 - m = 0 by omega]
      simp only [b32from, List.range'_zero, List.map_nil, List.append_nil]
      exact Ev.now _
    · have hw : wrap64 (5 - (c : Int)) = ((5 - c : Nat) : Int) := by rw [w64 (by omega) (by omega)]; omega
      have hp : 2 ^ (5 - c) ≤ 2 ^ 5 := Nat.pow_le_pow_right (by decide) (by omega)
      have hm : x * 2 ^ (5 - c) ≤ 32 * 2 ^ 5 := Nat.mul_le_mul (by omega) hp
      have h32 : 32 = 2 ^ c * 2 ^ (5 - c) := by rw [← Nat.pow_add, show c + (5 - c) = 5 by omega]
      have hv2 : Go.bits .and .i64 (shl .i64 (x : Int) ((5 - c : Nat) : Int)) 31 = ((num (bit8 (bytesOf s)) (5 * m) 5 : Nat) : Int) := by
        rw [shl_nat x _ (by omega) (by omega), and_mask _ 5 (by decide) (by omega) 31 (by decide)]
        congr 1
        have e := num_add (bit8 (bytesOf s)) (5 * m) c (5 - c)
        rw [show c + (5 - c) = 5 by omega, num_zero (q := 5 * m + c) (fun k hk => bit8_past (by rw [bytesOf_length]; omega)), Nat.add_zero] at e
        rw [e, ← hv, show (2 : Nat) ^ 5 = 32 by rfl]
        conv => lhs; rw [h32]
        exact Nat.mul_mod_mul_right _ _ _
      have hlt := num_lt (bit8_le (bytesOf s)) (5 * m) 5
      rw [hw, hv2]
      refine Ev.pos (by omega) (Ev.pos (by omega) (Ev.pos (by omega) (Ev.pos (by omega) (Ev.pos (by omega) ?_))))
      rw [show (8 * s.size + 4) / 5 - m = 0 + 1 by omega, b32from_cons]
      simp only [b32from, List.range'_zero, List.map_nil]
      exact Ev.now _
  | succ d ih =>
    intro i m x c out hd hx hc hv hq hl
    have hbt := bt_range s (i : Int)
    obtain ⟨b, hbb⟩ := Int.eq_ofNat_of_zero_le hbt.1
    have hbv : num (bit8 (bytesOf s)) (8 * i) 8 = b := by
      rw [bit8_byte _ _ (fun x hx => bytes_lt hx), ← bt_nat, hbb]; rfl
    refine Ev.step (fun k => impl_base32.l0.eq_2 _ _ _ _ _ k) ?_
    have e1 : wrap64 ((x : Int) * 256) = ((x * 256 : Nat) : Int) := by rw [w64 (by omega) (by omega)]; omega
    have e2 : wrap64 (bt s (i : Int)) = (b : Int) := by rw [hbb, w64 (by omega) (by omega)]
    have e3 : wrap64 ((c : Int) + 8) = ((c + 8 : Nat) : Int) := by rw [w64 (by omega) (by omega)]; omega
    rw [e1, e2, e3, or_add (x * 256) b 8 (by omega) (by omega) (by omega) (by omega)]
    refine Ev.pos (by omega) (Ev.pos (by omega) ?_)
    refine impl_b32_l1 s hb i (by omega) (fun m x c out h1 h2 h3 h4 h5 => ih (i + 1) m x c out (by omega) h1 h2 h3 h4 h5) 12 (c + 8) m (x * 256 + b) out (by omega) (by omega) ?_ (by omega) hl (by omega)
    rw [num_grow (by omega) hv, num_add, hq, hbv]
theorem impl_b32 (s : ByteArray) (hb : s.size ≤ 1048576) : Ev (fun k => impl_base32.f k s) (strOfNums (b32 (bytesOf s))) := by
  have h := impl_b32_l0 s hb s.size 0 0 0 0 [] (by omega) (by omega) (by omega) (by simp [num]) (by omega) rfl
  unfold b32
  rw [bytesOf_length]
  show Ev (fun k => impl_base32.l0 k s [] 0 0 0) _
  simpa using h

theorem spec_bit (s : ByteArray) (hb : s.size ≤ 140737488351232) (k : Nat) (hk : k < 9223372036854775800) : spec_l1bit.f s (k : Int) = some ((bit8 (bytesOf s) k : Nat) : Int) := by
  have e1 : wrap64 (Int.tdiv (k : Int) 8) = ((k / 8 : Nat) : Int) := by
    rw [Int.tdiv_eq_ediv_of_nonneg (by omega), w64 (by omega) (by omega)]; omega
  have e2 : wrap64 (7 - Int.tmod (k : Int) 8) = ((7 - k % 8 : Nat) : Int) := by
    rw [Int.tmod_eq_emod_of_nonneg (by omega), w64 (by omega) (by omega)]; omega
  unfold spec_l1bit.f
  rw [e1, e2]
  by_cases h : s.size ≤ k / 8
  · rw [if_pos (by omega), bit8_past (by rw [bytesOf_length]; omega)]; rfl
  · rw [if_neg (by omega), if_pos (by omega), if_pos (by omega), if_pos (by omega)]
    have hbt := bt_range s ((k / 8 : Nat) : Int)
    obtain ⟨b, hbb⟩ := Int.eq_ofNat_of_zero_le hbt.1
    have hv : ((bytesOf s).getD (k / 8) 0).toNat = b := by rw [← bt_nat, hbb]; rfl
    rw [hbb, w64 (by omega) (by omega), shr_nat b _ (by omega), and_mask _ 1 (by decide) (Nat.lt_of_le_of_lt (Nat.div_le_self _ _) (by omega)) 1 (by decide)]
    unfold bit8
    rw [hv]
theorem spec_b32_l1 (s : ByteArray) (hb : s.size ≤ 4000) (g : Nat) (hg : 5 * g < 8 * s.size) (out : List Int) (r : ByteArray) (hl : out.length = g)
    (H : Ev (fun k => spec_Base32.l0 k s (out ++ [letter (num (bit8 (bytesOf s)) (5 * g) 5)]) ((5 * (g + 1) : Nat) : Int)) r) :
    ∀ (d j : Nat), j + d = 5 → Ev (fun k => spec_Base32.l1 k s out ((5 * g : Nat) : Int) ((num (bit8 (bytesOf s)) (5 * g) j : Nat) : Int) (j : Int)) r := by
  intro d
  induction d with
  | zero =>
    intro j hj
    obtain rfl : j = 5 := by omega
    have hlt := num_lt (bit8_le (bytesOf s)) (5 * g) 5
    refine Ev.step (fun k => spec_Base32.l1.eq_2 _ _ _ _ _ k) ?_
    refine Ev.neg (by omega) (Ev.pos (by omega) (Ev.pos (by omega) (Ev.pos (by omega) ?_)))
    have e : wrap64 (((5 * g : Nat) : Int) + 5) = ((5 * (g + 1) : Nat) : Int) := by rw [w64 (by omega) (by omega)]; omega
    rw [e]
    exact H
  | succ d ih =>
    intro j hj
    have hlt := num_lt (bit8_le (bytesOf s)) (5 * g) j
    have hp : 2 ^ j ≤ 2 ^ 5 := Nat.pow_le_pow_right (by decide) (by omega)
    have hbit := bit8_le (bytesOf s) (5 * g + j)
    refine Ev.step (fun k => spec_Base32.l1.eq_2 _ _ _ _ _ k) ?_
    have e : wrap64 (((5 * g : Nat) : Int) + (j : Int)) = ((5 * g + j : Nat) : Int) := by rw [w64 (by omega) (by omega)]; omega
    have e2 : wrap64 ((j : Int) + 1) = ((j + 1 : Nat) : Int) := by rw [w64 (by omega) (by omega)]; omega
    have e3 : wrap64 (wrap64 (2 * ((num (bit8 (bytesOf s)) (5 * g) j : Nat) : Int)) + ((bit8 (bytesOf s) (5 * g + j) : Nat) : Int)) = ((num (bit8 (bytesOf s)) (5 * g) (j + 1) : Nat) : Int) := by
      rw [w64 (n := 2 * _) (by omega) (by omega), w64 (by omega) (by omega)]
      show _ = ((2 * num (bit8 (bytesOf s)) (5 * g) j + bit8 (bytesOf s) (5 * g + j) : Nat) : Int)
      omega
    rw [e, e2]
    refine Ev.pos (by omega) (Ev.told (spec_bit s (by omega) _ (by omega)) ?_)
    rw [e3]
    exact ih (j + 1) (by omega)
theorem spec_b32_l0 (s : ByteArray) (hb : s.size ≤ 4000) : ∀ (d g : Nat) (out : List Int), g + d = (8 * s.size + 4) / 5 → out.length = g →
    Ev (fun k => spec_Base32.l0 k s out ((5 * g : Nat) : Int)) (strOfNums (out ++ b32from (bytesOf s) g d)) := by
  have e8 : wrap64 (8 * (s.size : Int)) = ((8 * s.size : Nat) : Int) := by rw [w64 (by omega) (by omega)]; omega
  intro d
  induction d with
  | zero =>
    intro g out hg hl
    refine Ev.step (fun k => spec_Base32.l0.eq_2 _ _ _ k) ?_
    rw [e8]
    refine Ev.neg (by omega) ?_
    simp only [b32from, List.range'_zero, List.map_nil, List.append_nil]
    exact Ev.now _
  | succ d ih =>
    intro g out hg hl
    refine Ev.step (fun k => spec_Base32.l0.eq_2 _ _ _ k) ?_
    rw [e8]
    refine Ev.pos (by omega) ?_
    refine spec_b32_l1 s hb g (by omega) out _ hl ?_ 5 0 (by omega)
    rw [b32from_cons, ← snoc_cons out _ (b32from _ _ _)]
    exact ih (g + 1) _ (by omega) (by simp [hl])
theorem spec_b32 (s : ByteArray) (hb : s.size ≤ 4000) : Ev (fun k => spec_Base32.f k s) (strOfNums (b32 (bytesOf s))) := by
  unfold spec_Base32.f
  refine Ev.neg (by omega) ?_
  have h := spec_b32_l0 s hb _ 0 [] (Nat.zero_add _) rfl
  unfold b32
  rw [bytesOf_length]
  simpa using h

/-! Five bits of each letter, and the bytes out of them -/
@[irreducible] def five (b : Int) : Int := if 65 ≤ b ∧ b ≤ 90 then b - 65 else if 50 ≤ b ∧ b ≤ 55 then b - 50 + 26 else -1
theorem five_lt (b : Int) : five b < 32 := by unfold five; split; omega; split <;> omega
theorem index_five {b : Int} (h0 : 0 ≤ b) (h1 : b < 256) : Lib.indexByte tbl.data.toList b.toNat.toUInt8 = five b := by
  have h : ∀ n : Fin 256, Lib.indexByte tbl.data.toList (n : Nat).toUInt8 = five ((n : Nat) : Int) := by decide +kernel
  have := h ⟨b.toNat, by omega⟩
  simpa only [Int.toNat_of_nonneg h0] using this
def bit5 (l : List Int) (k : Nat) : Nat := (five (l.getD (k / 5) 0)).toNat / 2 ^ (4 - k % 5) % 2
theorem bit5_le (l : List Int) (k : Nat) : bit5 l k ≤ 1 := by unfold bit5; omega
theorem bit5_five (l : List Int) (i : Nat) : num (bit5 l) (5 * i) 5 = (five (l.getD i 0)).toNat := by
  have hx := five_lt (l.getD i 0)
  have hx' : (five (l.getD i 0)).toNat < 32 := by omega
  clear hx
  generalize hv : (five (l.getD i 0)).toNat = v at hx'
  have hb : ∀ j, j < 5 → bit5 l (5 * i + j) = v / 2 ^ (4 - j) % 2 := by
    intro j hj
    unfold bit5
    rw [show (5 * i + j) / 5 = i by omega, show (5 * i + j) % 5 = j by omega, hv]
  simp only [num]
  rw [hb 0 (by omega), hb 1 (by omega), hb 2 (by omega), hb 3 (by omega), hb 4 (by omega)]
  simp only [Nat.reduceSub, Nat.reducePow]
  omega
def d32 (l : List Int) (n : Nat) : List Int := (List.range n).map fun m => ((num (bit5 l) (8 * m) 8 : Nat) : Int)
theorem d32_length (l : List Int) (n : Nat) : (d32 l n).length = n := by simp [d32]
theorem d32_succ (l : List Int) (n : Nat) : d32 l (n + 1) = d32 l n ++ [((num (bit5 l) (8 * n) 8 : Nat) : Int)] := by simp [d32, List.range_succ]
theorem d32_bytes (l : List Int) (n : Nat) : ∀ x ∈ d32 l n, 0 ≤ x ∧ x < 256 := by
  intro x hx
  simp only [d32, List.mem_map] at hx
  obtain ⟨m, _, rfl⟩ := hx
  have := num_lt (bit5_le l) (8 * m) 8
  omega
def text32 (s : ByteArray) : ByteArray := strOfNums (d32 (bytesOf s) (5 * s.size / 8))
def rb32 (s : ByteArray) : ByteArray × Bool :=
  if (∀ x ∈ bytesOf s, 0 ≤ five x) ∧ s.size ≤ 6400 ∧ (strOfNums (b32 (bytesOf (text32 s)))).toList = s.toList then (text32 s, true) else (⟨#[]⟩, false)
theorem b32_length (l : List Int) : (b32 l).length = (8 * l.length + 4) / 5 := by simp [b32, b32from]
theorem text32_size (s : ByteArray) : (text32 s).size = 5 * s.size / 8 := by unfold text32; rw [size_strOf, d32_length]
theorem rb32_bad {s : ByteArray} {i : Nat} (h : i < s.size) (hb : five (bt s (i : Int)) < 0) : rb32 s = (⟨#[]⟩, false) := by
  unfold rb32
  rw [if_neg]
  rintro ⟨h1, _⟩
  have := h1 _ (getD_mem (xs := bytesOf s) (i := i) (by rw [bytesOf_length]; exact h))
  rw [← bt_nat] at this
  omega
theorem rb32_long {s : ByteArray} (h : 6400 < s.size) : rb32 s = (⟨#[]⟩, false) := by
  unfold rb32
  rw [if_neg]
  rintro ⟨_, h1, _⟩
  omega
theorem all_five {s : ByteArray} (h : ∀ j, j < s.size → 0 ≤ five (bt s (j : Int))) : ∀ x ∈ bytesOf s, 0 ≤ five x := by
  intro x hx
  obtain ⟨j, hj, rfl⟩ := List.getElem_of_mem hx
  have := h j (by rw [← bytesOf_length]; exact hj)
  rw [bt_nat, List.getD_eq_getElem?_getD, List.getElem?_eq_getElem hj, Option.getD_some] at this
  exact this
/-- Both ends: the letters are good; the text's letters again are compared. -/
theorem rb32_end {s : ByteArray} (h : ∀ j, j < s.size → 0 ≤ five (bt s (j : Int))) (hs : 5 * s.size / 8 ≤ 4000) :
    rb32 s = if (strOfNums (b32 (bytesOf (text32 s)))).toList = s.toList then (text32 s, true) else (⟨#[]⟩, false) := by
  unfold rb32
  by_cases he : (strOfNums (b32 (bytesOf (text32 s)))).toList = s.toList
  · rw [if_pos he, if_pos]
    refine ⟨all_five h, ?_, he⟩
    have h1 := congrArg List.length he
    rw [Lib.toList_data, Lib.toList_data] at h1
    have h2 : (strOfNums (b32 (bytesOf (text32 s)))).size = s.size := h1
    rw [size_strOf, b32_length, bytesOf_length, text32_size] at h2
    omega
  · rw [if_neg he, if_neg (fun h => he h.2.2)]

theorem num_part {β : Nat → Nat} (h : ∀ k, β k ≤ 1) {y q a b : Nat} (hy : y % 2 ^ (a + b) = num β q (a + b)) :
    y / 2 ^ a % 2 ^ b = num β q b ∧ y % 2 ^ a = num β (q + b) a := by
  have e := num_add β q b a
  rw [Nat.add_comm b a] at e
  have hM := num_lt h (q + b) a
  have hN := num_lt h q b
  rw [e, Nat.add_comm (num β q b * 2 ^ a)] at hy
  have hp : 2 ^ (a + b) = 2 ^ a * 2 ^ b := Nat.pow_add 2 a b
  constructor
  · have h1 := Nat.mod_mul_right_div_self y (2 ^ a) (2 ^ b)
    rw [← h1, ← hp, hy, Nat.add_mul_div_right _ _ (Nat.two_pow_pos a), Nat.div_eq_of_lt hM, Nat.zero_add]
  · have h1 := Nat.mod_mod_of_dvd y (⟨2 ^ b, hp⟩ : 2 ^ a ∣ 2 ^ (a + b))
    rw [← h1, hy, Nat.add_mul_mod_self_right, Nat.mod_eq_of_lt hM]
theorem num_grow5 {x b c v : Nat} (hb : b < 32) (hx : x % 2 ^ c = v) : (x * 32 + b) % 2 ^ (c + 5) = v * 32 + b := by
  have hp : 2 ^ (c + 5) = 2 ^ c * 32 := Nat.pow_add 2 c 5
  have h1 := Nat.div_add_mod x (2 ^ c)
  have h2 : x * 32 + b = (v * 32 + b) + (x / 2 ^ c) * (2 ^ c * 32) := by
    rw [← hx]
    conv => lhs; rw [← h1]
    rw [Nat.add_mul, Nat.mul_comm (2 ^ c) (x / 2 ^ c), Nat.mul_assoc]
    omega
  have h3 : v < 2 ^ c := by rw [← hx]; exact Nat.mod_lt _ (Nat.two_pow_pos c)
  rw [h2, hp, Nat.add_mul_mod_self_right, Nat.mod_eq_of_lt]
  omega
theorem impl_rb_l0 (s : ByteArray) (hb : s.size ≤ 1048576) : ∀ (d i m x c : Nat), i + d = s.size → x < 4096 → c ≤ 7 → x % 2 ^ c = num (bit5 (bytesOf s)) (8 * m) c → 8 * m + c = 5 * i →
    (∀ j, j < i → 0 ≤ five (bt s (j : Int))) → Ev (fun k => impl_ReadBase32.l0 k s (d32 (bytesOf s) m) (x : Int) (c : Int) (i : Int)) (rb32 s) := by
  intro d
  induction d with
  | zero =>
    intro i m x c hd hx hc hv hq hg
    have hm : m = 5 * s.size / 8 := by omega
    refine Ev.step (fun k => impl_ReadBase32.l0.eq_2 _ _ _ _ _ k) (Ev.neg (by omega) ?_)
    by_cases h4 : ((d32 (bytesOf s) m).length : Int) > 4000
    · refine Ev.pos h4 ?_
      rw [d32_length] at h4
      rw [rb32_long (by omega)]; exact Ev.now _
    · refine Ev.neg h4 ?_
      rw [d32_length] at h4
      rw [rb32_end (fun j hj => hg j (by omega)) (by omega)]
      have ht : strOfNums (d32 (bytesOf s) m) = text32 s := by rw [hm]; rfl
      rw [ht]
      refine Ev.bind (impl_b32 (text32 s) (by rw [text32_size]; omega)) ?_
      by_cases he : (strOfNums (b32 (bytesOf (text32 s)))).toList = s.toList
      · exact Ev.pos he (by rw [if_pos he]; exact Ev.now _)
      · exact Ev.neg he (by rw [if_neg he]; exact Ev.now _)
  | succ d ih =>
    intro i m x c hd hx hc hv hq hg
    have hr := bt_range s (i : Int)
    have hf := five_lt (bt s (i : Int))
    refine Ev.step (fun k => impl_ReadBase32.l0.eq_2 _ _ _ _ _ k) (Ev.pos (by omega) (Ev.pos (by omega) ?_))
    refine Ev.told (b := five (bt s (i : Int))) (congrArg some (index_five (by omega) (by omega))) ?_
    by_cases hn : five (bt s (i : Int)) < 0
    · refine Ev.pos hn ?_
      rw [rb32_bad (by omega) hn]; exact Ev.now _
    · refine Ev.neg hn ?_
      obtain ⟨v, hvv⟩ := Int.eq_ofNat_of_zero_le (show 0 ≤ five (bt s (i : Int)) by omega)
      have hvl : v < 32 := by omega
      have hnum : num (bit5 (bytesOf s)) (5 * i) 5 = v := by rw [bit5_five, ← bt_nat, hvv]; rfl
      rw [hvv]
      have e1 : wrap64 ((x : Int) * 32) = ((x * 32 : Nat) : Int) := by rw [w64 (by omega) (by omega)]; omega
      have e3 : wrap64 ((c : Int) + 5) = ((c + 5 : Nat) : Int) := by rw [w64 (by omega) (by omega)]; omega
      have e4 : wrap64 ((i : Int) + 1) = ((i + 1 : Nat) : Int) := by rw [w64 (by omega) (by omega)]; omega
      rw [e1, e3, e4, or_add (x * 32) v 5 (by omega) (by omega) (by omega) (by omega), and_mask (x * 32 + v) 12 (by decide) (by omega) 4095 (by decide)]
      clear e1 e3 e4
      have hg' : ∀ j, j < i + 1 → 0 ≤ five (bt s (j : Int)) := fun j hj => (Nat.lt_or_eq_of_le (Nat.le_of_lt_succ hj)).elim (fun h => hg j h) (fun h => h ▸ Int.not_lt.mp hn)
      have hY : (x * 32 + v) % 2 ^ 12 % 2 ^ (c + 5) = num (bit5 (bytesOf s)) (8 * m) (c + 5) := by
        have h1 := Nat.mod_mod_of_dvd (x * 32 + v) (Nat.pow_dvd_pow 2 (Nat.add_le_add_right hc 5))
        have h2 := num_grow5 (b := v) hvl hv
        have h3 := num_add (bit5 (bytesOf s)) (8 * m) c 5
        rw [hq, hnum, show (2 : Nat) ^ 5 = 32 by decide] at h3
        exact h1.trans (h2.trans h3.symm)
      clear hv hnum hvl hvv hf hr hn hx
      have hy : (x * 32 + v) % 2 ^ 12 < 4096 := Nat.mod_lt _ (Nat.two_pow_pos 12)
      generalize (x * 32 + v) % 2 ^ 12 = y at hY hy
      by_cases h8 : 8 ≤ c + 5
      · obtain ⟨a, ha⟩ : ∃ a, c + 5 = a + 8 := ⟨c + 5 - 8, by omega⟩
        have e5 : wrap64 (((c + 5 : Nat) : Int) - 8) = (a : Int) := by rw [w64 (by omega) (by omega)]; omega
        rw [ha] at hY
        obtain ⟨p1, p2⟩ := num_part (bit5_le (bytesOf s)) hY
        refine Ev.pos (by omega) ?_
        rw [e5, shr_nat y a (by omega)]
        refine Ev.pos (by omega) (Ev.pos (by rw [d32_length]; omega) ?_)
        have e6 : ((y / 2 ^ a : Nat) : Int) % 256 = ((num (bit5 (bytesOf s)) (8 * m) 8 : Nat) : Int) := by
          rw [← p1, show (2 : Nat) ^ 8 = 256 by decide]
          generalize y / 2 ^ a = q
          omega
        rw [e6, ← d32_succ]
        exact ih (i + 1) (m + 1) y a (by omega) hy (by omega) p2 (by omega) hg'
      · refine Ev.neg (by omega) ?_
        exact ih (i + 1) m y (c + 5) (by omega) hy (by omega) hY (by omega) hg'
theorem impl_rb (s : ByteArray) (hb : s.size ≤ 1048576) : Ev (fun k => impl_ReadBase32.f k s) (rb32 s) :=
  impl_rb_l0 s hb s.size 0 0 0 0 (by omega) (by omega) (by omega) (by simp [num]) (by omega) (by omega)

/-! A digest is read back out of its letters -/
theorem five_letter {v : Nat} (h : v < 32) : five (letter v) = (v : Int) := by
  have : ∀ n : Fin 32, five (letter (n : Nat)) = ((n : Nat) : Int) := by decide +kernel
  exact this ⟨v, h⟩
theorem b32_at (l : List Int) (g : Nat) (h : g < (8 * l.length + 4) / 5) : (b32 l).getD g 0 = letter (num (bit8 l) (5 * g) 5) := by
  rw [List.getD_eq_getElem?_getD, List.getElem?_eq_getElem (by rw [b32_length]; exact h), Option.getD_some]
  simp [b32, b32from]
theorem num_bit {β : Nat → Nat} (h : ∀ k, β k ≤ 1) (q j : Nat) (hj : j < 5) : num β q 5 / 2 ^ (4 - j) % 2 = β (q + j) := by
  have h0 := h (q + 0); have h1 := h (q + 1); have h2 := h (q + 2); have h3 := h (q + 3); have h4 := h (q + 4)
  simp only [num]
  rcases (by omega : j = 0 ∨ j = 1 ∨ j = 2 ∨ j = 3 ∨ j = 4) with rfl | rfl | rfl | rfl | rfl <;> simp only [Nat.reduceSub, Nat.reducePow] <;> omega
theorem bit5_b32 (l : List Int) (k : Nat) (h : k < 8 * l.length) : bit5 (b32 l) k = bit8 l k := by
  unfold bit5
  rw [b32_at l (k / 5) (by omega), five_letter (num_lt (bit8_le l) _ _), Int.toNat_natCast, num_bit (bit8_le l) _ _ (Nat.mod_lt _ (by decide)), Nat.div_add_mod]
theorem d32_b32 (l : List Int) (hl : ∀ x ∈ l, 0 ≤ x ∧ x < 256) : d32 (b32 l) l.length = l := by
  apply List.ext_getElem
  · rw [d32_length]
  · intro i h1 h2
    simp only [d32, List.getElem_map, List.getElem_range]
    rw [num_congr (γ := bit8 l) (fun k _ hk => bit5_b32 l k (by omega)), bit8_byte l i hl, List.getD_eq_getElem?_getD, List.getElem?_eq_getElem h2, Option.getD_some]
    exact Int.toNat_of_nonneg (hl _ (List.getElem_mem h2)).1
theorem b32_good (l : List Int) : ∀ x ∈ b32 l, 0 ≤ five x := by
  intro x hx
  simp only [b32, b32from, List.mem_map] at hx
  obtain ⟨j, _, rfl⟩ := hx
  rw [five_letter (num_lt (bit8_le l) _ _)]; exact Int.natCast_nonneg _
theorem letter_byte (l : List Int) : ∀ x ∈ b32 l, 0 ≤ x ∧ x < 256 := by
  intro x hx
  simp only [b32, b32from, List.mem_map] at hx
  obtain ⟨j, _, rfl⟩ := hx
  unfold letter
  have := bt_range tbl ((num (bit8 l) (5 * j) 5 : Nat) : Int)
  omega

/-! The reader of draws -/
def Bs (b : List Int) : Prop := b.length ≤ 140737488351240
theorem and255 (y : Int) : 0 ≤ Go.bits .and .i64 y 255 ∧ Go.bits .and .i64 y 255 ≤ 255 := by
  have h : (BitVec.ofInt 64 y &&& BitVec.ofInt 64 255).toNat ≤ 255 := by
    rw [BitVec.toNat_and]
    exact Nat.and_le_right
  show 0 ≤ IntKind.i64.wrap ((BitVec.ofInt 64 y &&& BitVec.ofInt 64 255).toNat : Int) ∧ IntKind.i64.wrap ((BitVec.ofInt 64 y &&& BitVec.ofInt 64 255).toNat : Int) ≤ 255
  rw [wraps_i64 _ (Int.natCast_nonneg _) (by omega)]
  omega
theorem draw_byte {b : List Int} (hb : Bs b) (i h : Int) (hi : 0 ≤ i) : ∃ x i' h' : Int, spec_l1Byte.f b i h = some (x, i', h') ∧ 0 ≤ x ∧ x ≤ 255 ∧ 0 ≤ i' := by
  unfold Bs at hb
  unfold spec_l1Byte.f
  by_cases c : i < (b.length : Int)
  · rw [if_pos c, if_pos hi]
    exact ⟨_, _, _, rfl, (and255 _).1, (and255 _).2, by rw [w64 (by omega) (by omega)]; omega⟩
  · rw [if_neg c]
    exact ⟨_, _, _, rfl, (and255 _).1, (and255 _).2, hi⟩
theorem tmod_in {x n : Int} (hx : 0 ≤ x) (hn : 0 < n) : 0 ≤ Int.tmod x n ∧ Int.tmod x n < n := by
  rw [Int.tmod_eq_emod_of_nonneg hx]
  exact ⟨Int.emod_nonneg _ (by omega), Int.emod_lt_of_pos _ hn⟩
theorem draw_below {b : List Int} (hb : Bs b) (i h n : Int) (hi : 0 ≤ i) : ∃ x i' h' : Int, spec_l1Below.f b i h n = some (x, i', h') ∧ 0 ≤ x ∧ (0 < n → x < n) ∧ (n ≤ 0 → x = 0) ∧ 0 ≤ i' := by
  unfold spec_l1Below.f
  by_cases c0 : n ≤ 0
  · rw [if_pos c0]
    exact ⟨_, _, _, rfl, by omega, fun h => by omega, fun _ => rfl, hi⟩
  · rw [if_neg c0]
    obtain ⟨x, i1, h1, e1, x0, x1, j1⟩ := draw_byte hb i h hi
    by_cases c1 : n ≤ 256
    · rw [if_pos c1, e1]
      simp only [Option.bind_some]
      rw [if_neg (by omega)]
      have := tmod_in x0 (show 0 < n by omega)
      exact ⟨_, _, _, rfl, this.1, fun _ => this.2, fun h => by omega, j1⟩
    · obtain ⟨y, i2, h2, e2, y0, y1, j2⟩ := draw_byte hb i1 h1 j1
      obtain ⟨z, i3, h3, e3, z0, z1, j3⟩ := draw_byte hb i2 h2 j2
      obtain ⟨w, i4, h4, e4, v0, v1, j4⟩ := draw_byte hb i3 h3 j3
      rw [if_neg c1, e1]
      simp only [Option.bind_some]
      rw [e2]
      simp only [Option.bind_some]
      rw [e3]
      simp only [Option.bind_some]
      rw [e4]
      simp only [Option.bind_some]
      rw [if_neg (by omega)]
      have hs : 0 ≤ wrap64 ((wrap64 ((wrap64 ((wrap64 (x * 16777216)) + (wrap64 (y * 65536)))) + (wrap64 (z * 256)))) + w) := by
        rw [w64 (n := x * 16777216) (by omega) (by omega), w64 (n := y * 65536) (by omega) (by omega), w64 (n := z * 256) (by omega) (by omega), w64 (n := x * 16777216 + y * 65536) (by omega) (by omega), w64 (n := x * 16777216 + y * 65536 + z * 256) (by omega) (by omega), w64 (by omega) (by omega)]
        omega
      have := tmod_in hs (show 0 < n by omega)
      exact ⟨_, _, _, rfl, this.1, fun _ => this.2, fun h => by omega, j4⟩
theorem draw_new {b : List Int} (hb : Bs b) : ∃ h : Int, Ev (fun k => spec_l1New.f k b) (b, 0, h) := by
  unfold Bs at hb
  have loop : ∀ (d i : Nat) (x : Int), i + d = b.length → ∃ h : Int, Ev (fun k => spec_l1New.l0 k b x (i : Int)) (b, 0, h) := by
    intro d
    induction d with
    | zero => intro i x hi; exact ⟨_, Ev.step (fun k => spec_l1New.l0.eq_2 _ _ _ k) (Ev.neg (by omega) (Ev.now _))⟩
    | succ d ih =>
      intro i x hi
      by_cases c : (i : Int) < 4000
      · have hw : wrap64 ((i : Int) + 1) = ((i + 1 : Nat) : Int) := by rw [w64 (by omega) (by omega)]; omega
        obtain ⟨h, e⟩ := ih (i + 1) (Go.bits .and .i64 (wrap64 ((wrap64 ((wrap64 (x * 131)) + (wrap64 (rd b (i : Int))))) + 7)) 1073741823) (by omega)
        refine ⟨h, Ev.step (fun k => spec_l1New.l0.eq_2 _ _ _ k) (Ev.pos (by omega) (Ev.pos c (Ev.pos (by omega) ?_)))⟩
        rw [hw]; exact e
      · exact ⟨_, Ev.step (fun k => spec_l1New.l0.eq_2 _ _ _ k) (Ev.pos (by omega) (Ev.neg c (Ev.now _)))⟩
  exact loop b.length 0 _ (by omega)

theorem draw_bend {b : List Int} (hb : Bs b) (i h : Int) (s : ByteArray) (hs : s.size ≤ 140737488351232) (hi : 0 ≤ i) : ∃ (r : ByteArray) (i' h' : Int), spec_l1bend.f b i h s = some (r, i', h') ∧ r.size ≤ s.size + 1 ∧ 0 ≤ i' := by
  obtain ⟨p, i1, h1, e1, p0, p1, _, j1⟩ := draw_below hb i h ((s.size : Int) + 1) hi
  have p1 := p1 (by omega)
  obtain ⟨q, i2, h2, e2, q0, q1, _, j2⟩ := draw_below hb i1 h1 4 j1
  unfold spec_l1bend.f
  rw [if_pos hs, e1, Option.bind_some]
  show ∃ (r : ByteArray) (i' h' : Int), (if 0 ≤ p ∧ p ≤ s.size then _ else _) = some (r, i', h') ∧ _
  rw [if_pos ⟨p0, by omega⟩, e2, Option.bind_some]
  obtain ⟨n, rfl⟩ := Int.eq_ofNat_of_zero_le p0
  show ∃ (r : ByteArray) (i' h' : Int), (if q = 0 then _ else _) = some (r, i', h') ∧ _
  have z1 : (s.extract 0 n).size ≤ n := by rw [ByteArray.size_extract]; omega
  have z2 : (s.extract n s.size).size ≤ s.size - n := by rw [ByteArray.size_extract]; omega
  have z3 : (s.extract (n + 1) s.size).size ≤ s.size - (n + 1) := by rw [ByteArray.size_extract]; omega
  by_cases c0 : q = 0
  · rw [if_pos c0]
    obtain ⟨x, i3, h3, e3, x0, x1, j3⟩ := draw_byte hb i2 h2 j2
    rw [e3, Option.bind_some]
    refine ⟨_, _, _, rfl, ?_, j3⟩
    rw [ByteArray.size_append, ByteArray.size_append, size_strOf]
    simp only [List.length_cons, List.length_nil, Int.toNat_natCast]
    omega
  · rw [if_neg c0]
    by_cases c1 : q = 1
    · rw [if_pos c1]
      exact ⟨_, _, _, rfl, by simp only [Int.toNat_natCast]; omega, j2⟩
    · rw [if_neg c1]
      by_cases c2 : q = 2 ∧ (n : Int) < s.size
      · rw [if_pos c2]
        exact ⟨_, _, _, rfl, by rw [ByteArray.size_append]; simp only [Int.toNat_natCast]; omega, j2⟩
      · rw [if_neg c2]
        by_cases c3 : (n : Int) < s.size
        · rw [if_pos c3]
          obtain ⟨x, i3, h3, e3, x0, x1, _, j3⟩ := draw_below hb i2 h2 8 j2
          have x1 := x1 (by decide)
          rw [e3, Option.bind_some]
          show ∃ (r : ByteArray) (i' h' : Int), (if 0 ≤ x ∧ x < 8 then _ else _) = some (r, i', h') ∧ _
          rw [if_pos ⟨x0, x1⟩]
          refine ⟨_, _, _, rfl, ?_, j3⟩
          rw [size_strOf, List.length_set, bytesOf_length]; omega
        · rw [if_neg c3]
          refine ⟨_, _, _, rfl, ?_, j2⟩
          rw [ByteArray.size_append]; exact Nat.le_refl _

theorem draw_of_l0 {b : List Int} (hb : Bs b) (set : ByteArray) (hs0 : 0 < set.size) (hs1 : set.size ≤ 200) : ∀ (d j : Nat) (out : List Int) (i h : Int), 0 ≤ i → out.length = j → j + d ≤ 1000 → ∃ (r : ByteArray) (i' h' : Int), Ev (fun k => spec_l1of.l0 k ((j + d : Nat) : Int) set out (j : Int) b i h) (r, i', h') ∧ r.size = j + d ∧ 0 ≤ i' := by
  intro d
  induction d with
  | zero =>
    intro j out i h hi hl hd
    exact ⟨strOfNums out, i, h, Ev.step (fun k => spec_l1of.l0.eq_2 _ _ _ _ _ _ _ k) (Ev.neg (by omega) (Ev.now _)), by rw [size_strOf]; omega, hi⟩
  | succ d ih =>
    intro j out i h hi hl hd
    obtain ⟨x, i1, h1, e1, x0, x1, _, j1⟩ := draw_below hb i h (set.size : Int) hi
    have x1 := x1 (by omega)
    have hw : wrap64 ((j : Int) + 1) = ((j + 1 : Nat) : Int) := by rw [w64 (by omega) (by omega)]; omega
    obtain ⟨r, i2, h2, e2, z, j2⟩ := ih (j + 1) (out ++ [bt set x]) i1 h1 j1 (by simp [hl]) (by omega)
    rw [show j + 1 + d = j + (d + 1) by omega] at e2 z
    refine ⟨r, i2, h2, Ev.step (fun k => spec_l1of.l0.eq_2 _ _ _ _ _ _ _ k) (Ev.pos (by omega) (Ev.told e1 (Ev.pos x0 (Ev.pos x1 (Ev.pos (by omega) ?_))))), z, j2⟩
    rw [hw]; exact e2
theorem draw_of {b : List Int} (hb : Bs b) (set : ByteArray) (hs0 : 0 < set.size) (hs1 : set.size ≤ 200) (n : Int) (h0 : 0 ≤ n) (h1 : n ≤ 1000) (i h : Int) (hi : 0 ≤ i) : ∃ (r : ByteArray) (i' h' : Int), Ev (fun k => spec_l1of.f k b i h n set) (r, i', h') ∧ r.size ≤ 1000 ∧ (r.size : Int) = n ∧ 0 ≤ i' := by
  obtain ⟨m, rfl⟩ := Int.eq_ofNat_of_zero_le h0
  obtain ⟨r, i2, h2, e2, z, j2⟩ := draw_of_l0 hb set hs0 hs1 m 0 [] i h hi rfl (by omega)
  rw [Nat.zero_add] at e2 z
  exact ⟨r, i2, h2, e2, by omega, by omega, j2⟩

theorem draw_b32_l0 {b : List Int} (hb : Bs b) : ∀ (d : Nat) (out : List Int) (i h : Int), 0 ≤ i → out.length + d ≤ 1000 → ∃ r : ByteArray, Ev (fun k => spec_DrawBase32.l0 k out (d : Int) b i h) r ∧ r.size = out.length + d := by
  intro d
  induction d with
  | zero =>
    intro out i h hi hd
    exact ⟨strOfNums out, Ev.step (fun k => spec_DrawBase32.l0.eq_2 _ _ _ _ _ k) (Ev.neg (by omega) (Ev.now _)), by rw [size_strOf]; omega⟩
  | succ d ih =>
    intro out i h hi hd
    obtain ⟨x, i1, h1, e1, x0, x1, j1⟩ := draw_byte hb i h hi
    have hw : wrap64 (((d + 1 : Nat) : Int) - 1) = (d : Int) := by rw [w64 (by omega) (by omega)]; omega
    obtain ⟨r, e2, z⟩ := ih (out ++ [x % 256]) i1 h1 j1 (by simp; omega)
    refine ⟨r, Ev.step (fun k => spec_DrawBase32.l0.eq_2 _ _ _ _ _ k) (Ev.pos (by omega) (Ev.told e1 (Ev.pos (by omega) ?_))), by rw [z]; simp; omega⟩
    rw [hw]; exact e2
theorem draw_b32 {b : List Int} (hb : Bs b) : ∃ s : ByteArray, Ev (fun k => spec_DrawBase32.f k b) s ∧ s.size ≤ 40 := by
  obtain ⟨h0, e0⟩ := draw_new hb
  obtain ⟨z, ez, hz⟩ : ∃ z : Int, spec_l1Size.f b 40 = some z ∧ z ≤ 40 := by
    unfold Bs at hb
    unfold spec_l1Size.f
    rw [w64 (n := (b.length : Int) / 20) (by omega) (by omega), w64 (n := 2 + (b.length : Int) / 20) (by omega) (by omega)]
    by_cases c : 2 + (b.length : Int) / 20 > 40
    · exact ⟨_, by rw [if_pos c], by omega⟩
    · exact ⟨_, by rw [if_neg c], by omega⟩
  obtain ⟨x, i2, h2, e2, x0, x1, x2, j2⟩ := draw_below hb 0 h0 z (by omega)
  have hx : x ≤ 40 := by
    by_cases c : 0 < z
    · have := x1 c; omega
    · have := x2 (by omega); omega
  obtain ⟨m, rfl⟩ := Int.eq_ofNat_of_zero_le x0
  obtain ⟨s, e3, hs⟩ := draw_b32_l0 hb m [] i2 h2 j2 (by simp; omega)
  exact ⟨s, Ev.bind e0 (Ev.told ez (Ev.told e2 e3)), by rw [hs]; simp; omega⟩
theorem spec_B32 {s : ByteArray} (h : s.size ≤ 4000) : Ev (fun k => spec_Base32.f k s) (strOfNums (b32 (bytesOf s))) := spec_b32 s h
theorem draw_rb32 {b : List Int} (hb : Bs b) : ∃ t : ByteArray, Ev (fun k => spec_DrawReadBase32.f k b) t ∧ t.size ≤ 1000 := by
  obtain ⟨h0, e0⟩ := draw_new hb
  obtain ⟨s, es, zs⟩ := draw_b32 hb
  have e1 := spec_B32 (s := s) (by omega)
  have z1 : (strOfNums (b32 (bytesOf s))).size ≤ 100 := by rw [size_strOf, b32_length, bytesOf_length]; omega
  obtain ⟨q, i2, h2, e2, q0, q1, _, j2⟩ := draw_below hb 0 h0 4 (by omega)
  unfold spec_DrawReadBase32.f
  by_cases c : q = 0
  · obtain ⟨t, i3, h3, e3, zt, _⟩ := draw_bend hb i2 h2 (strOfNums (b32 (bytesOf s))) (by omega) j2
    exact ⟨t, Ev.bind e0 (Ev.bind es (Ev.bind e1 (Ev.told e2 (Ev.pos c (Ev.told e3 (Ev.now _)))))), by omega⟩
  · by_cases c1 : q = 1
    · obtain ⟨n, i3, h3, e3, n0, n1, _, j3⟩ := draw_below hb i2 h2 12 j2
      have n1 := n1 (by decide)
      obtain ⟨t, i4, h4, e4, zt, _, _⟩ := draw_of hb (⟨#[65, 66, 89, 90, 50, 51, 54, 55]⟩ : ByteArray) (by decide) (by decide) n n0 (by omega) i3 h3 j3
      exact ⟨t, Ev.bind e0 (Ev.bind es (Ev.bind e1 (Ev.told e2 (Ev.neg c (Ev.pos c1 (Ev.told e3 (Ev.bind e4 (Ev.now _)))))))), by omega⟩
    · exact ⟨_, Ev.bind e0 (Ev.bind es (Ev.bind e1 (Ev.told e2 (Ev.neg c (Ev.neg c1 (Ev.now _)))))), by omega⟩

theorem impl_B32 {s : ByteArray} (h : s.size ≤ 4000) : Ev (fun k => impl_Base32.f k s) (strOfNums (b32 (bytesOf s))) := by
  unfold impl_Base32.f
  exact Ev.neg (by omega) (Ev.bind (impl_b32 s (by omega)) (Ev.now _))
theorem rb32_b32 {s : ByteArray} (h : s.size ≤ 4000) : rb32 (strOfNums (b32 (bytesOf s))) = (s, true) := by
  have hb : bytesOf (strOfNums (b32 (bytesOf s))) = b32 (bytesOf s) := bytes_strOf (letter_byte _)
  have hz : (strOfNums (b32 (bytesOf s))).size = (8 * s.size + 4) / 5 := by rw [size_strOf, b32_length, bytesOf_length]
  have ht : text32 (strOfNums (b32 (bytesOf s))) = s := by
    unfold text32
    rw [hb, hz, show 5 * ((8 * s.size + 4) / 5) / 8 = s.size by omega, show s.size = (bytesOf s).length from (bytesOf_length s).symm, d32_b32 _ (fun x hx => bytes_lt hx), strOf_bytes]
  unfold rb32
  rw [ht, if_pos]
  refine ⟨?_, by omega, rfl⟩
  rw [hb]; exact b32_good _
theorem rb32_true {t : ByteArray} (h : (rb32 t).2 = true) : (rb32 t).1.size ≤ 4000 ∧ strOfNums (b32 (bytesOf (rb32 t).1)) = t := by
  unfold rb32 at h ⊢
  by_cases c : (∀ x ∈ bytesOf t, 0 ≤ five x) ∧ t.size ≤ 6400 ∧ (strOfNums (b32 (bytesOf (text32 t)))).toList = t.toList
  · rw [if_pos c]
    exact ⟨by show (text32 t).size ≤ 4000; rw [text32_size]; omega, toList_iff.mp c.2.2⟩
  · rw [if_neg c] at h; cases h
theorem FnBase32s : laws_FnBase32s.Pure := by
  intro b hl hb hw
  apply Ev.rounds
  have hbs : Bs b := by unfold Bs; omega
  obtain ⟨s, es, zs⟩ := draw_b32 hbs
  obtain ⟨t, et, zt⟩ := draw_rb32 hbs
  have hwd : Foreign.laws_words.f = some true := rfl
  have i1 := impl_B32 (s := s) (by omega)
  have z1 : (strOfNums (b32 (bytesOf s))).size = (8 * s.size + 4) / 5 := by rw [size_strOf, b32_length, bytesOf_length]
  have r1 := impl_rb (strOfNums (b32 (bytesOf s))) (by omega)
  rw [rb32_b32 (by omega)] at r1
  have last : Ev (fun k => laws_FnBase32s.j0 k b false) true := by
    refine Ev.step (fun k => laws_FnBase32s.j0.eq_2 _ _ k) (Ev.neg (by simp) (Ev.bind et (Ev.bind (impl_rb t (by omega)) ?_)))
    by_cases h : (rb32 t).2 = true
    · obtain ⟨h0, h1⟩ := rb32_true h
      have i2 := impl_B32 h0
      rw [h1] at i2
      exact Ev.pos h (Ev.bind i2 (Ev.pos rfl (Ev.told hwd (Ev.now _))))
    · exact Ev.neg h (Ev.told hwd (Ev.now _))
  unfold laws_FnBase32s.f
  refine Ev.bind es (Ev.bind i1 (Ev.bind r1 (Ev.pos rfl (Ev.pos rfl (Ev.bind i1 ?_)))))
  have e : (((strOfNums (b32 (bytesOf s))).size : Int) != wrap64 (Int.tdiv (wrap64 ((wrap64 (8 * (s.size : Int))) + 4)) 5)) = false := by
    rw [w64 (n := 8 * (s.size : Int)) (by omega) (by omega), w64 (n := 8 * (s.size : Int) + 4) (by omega) (by omega), Int.tdiv_eq_ediv_of_nonneg (by omega), w64 (by omega) (by omega), z1]
    apply bne_eq_false_iff_eq.mpr
    omega
  rw [e]; exact last

end Go.Proofs.YtikeagkcekkioaaDoor.Pure
