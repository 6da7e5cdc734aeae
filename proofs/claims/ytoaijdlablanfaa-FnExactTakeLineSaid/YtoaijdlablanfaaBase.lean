/- Plain facts on bytes, lists of numbers and rounds, used by the proofs of this seat; no condition of their own. -/
import Derived.Test.YtoaijdlablanfaaWMore
import Derived.Lib.Strings
namespace Go.Proofs.Ytoaijdlablanfaa.Base
open Go.RowKit Go.Proofs.YtoaijdlablanfaaW.PrintWords Go.Proofs.YtoaijdlablanfaaW.PrintLast Go.Proofs.YtoaijdlablanfaaW.PrintMore

/-! Numbers -/
theorem w64 {n : Int} (h0 : -9223372036854775808 ≤ n) (h1 : n ≤ 9223372036854775807) : wrap64 n = n := by unfold wrap64; omega
theorem wf64 {n : Int} (h : (Lit.int .i64 n).wf = true) : -9223372036854775808 ≤ n ∧ n ≤ 9223372036854775807 := by
  simp only [Lit.wf, IntKind.min, IntKind.max, IntKind.signed, IntKind.bits, Bool.and_eq_true, decide_eq_true_eq, if_true] at h
  omega

/-! Rounds -/
theorem Ev.pos {α : Type} {c : Prop} [Decidable c] {f g : Nat → Option α} {r : α} (h : c) (H : Ev f r) : Ev (fun k => if c then f k else g k) r := by
  simpa only [if_pos h] using H
theorem Ev.neg {α : Type} {c : Prop} [Decidable c] {f g : Nat → Option α} {r : α} (h : ¬ c) (H : Ev g r) : Ev (fun k => if c then f k else g k) r := by
  simpa only [if_neg h] using H
theorem Ev.told {α β : Type} {x : Option β} {b : β} {f : Nat → β → Option α} {r : α} (h : x = some b) (H : Ev (fun k => f k b) r) : Ev (fun k => x.bind (f k)) r := by
  subst h; exact H

/-! Bytes -/
theorem bytes_lt {s : ByteArray} {x : Int} (h : x ∈ bytesOf s) : 0 ≤ x ∧ x < 256 := by
  simp only [bytesOf, List.mem_map] at h
  obtain ⟨b, _, rfl⟩ := h
  have := b.toNat_lt
  omega
theorem bt_getD (s : ByteArray) (i : Int) : bt s i = (bytesOf s).getD i.toNat 0 := by rw [← rd_bytesOf]; rfl
theorem bt_nat (s : ByteArray) (i : Nat) : bt s (i : Int) = (bytesOf s).getD i 0 := by rw [bt_getD]; rfl
theorem bytes_extract (s : ByteArray) (a b : Nat) : bytesOf (s.extract a b) = ((bytesOf s).drop a).take (b - a) := by
  simp only [bytesOf, Lib.extract_data, List.map_take, List.map_drop]
theorem bytes_to_end (s : ByteArray) (a : Nat) : bytesOf (s.extract a s.size) = (bytesOf s).drop a := by
  rw [bytes_extract]; apply List.take_of_length_le; simp [bytesOf_length]
theorem bytes_head (s : ByteArray) (b : Nat) : bytesOf (s.extract 0 b) = (bytesOf s).take b := by
  rw [bytes_extract]; simp
theorem bytes_strOf {xs : List Int} (h : ∀ x ∈ xs, 0 ≤ x ∧ x < 256) : bytesOf (strOfNums xs) = xs := by
  simp only [bytesOf, strOfNums_data, List.map_map]
  conv => rhs; rw [← List.map_id xs]
  apply List.map_congr_left
  intro x hx
  have := h x hx
  simp only [Function.comp, id]
  have h2 : (UInt8.ofNat x.toNat).toNat = x.toNat := by
    rw [UInt8.toNat_ofNat']; omega
  rw [h2]; omega
theorem strOf_bytes (s : ByteArray) : strOfNums (bytesOf s) = s := by
  obtain ⟨⟨l⟩⟩ := s
  simp only [strOfNums, bytesOf, List.map_map]
  congr 2
  conv => rhs; rw [← List.map_id l]
  apply List.map_congr_left
  intro b _
  simp [Function.comp]
theorem bytes_inj {s t : ByteArray} (h : bytesOf s = bytesOf t) : s = t := by
  rw [← strOf_bytes s, ← strOf_bytes t, h]
theorem toList_iff {s t : ByteArray} : s.toList = t.toList ↔ s = t := by
  constructor
  · intro h
    rw [Lib.toList_data, Lib.toList_data] at h
    exact bytes_inj (by simp only [bytesOf, h])
  · rintro rfl; rfl
theorem toList_nil {s : ByteArray} : s.toList = ([] : List UInt8) ↔ bytesOf s = [] := by
  rw [Lib.toList_data]; simp [bytesOf]
theorem toList_nil_size {s : ByteArray} : s.toList = ([] : List UInt8) ↔ s.size = 0 := by
  rw [toList_nil, ← List.length_eq_zero_iff, bytesOf_length]
theorem size_extract (s : ByteArray) (a b : Nat) (h : b ≤ s.size) : (s.extract a b).size = b - a := by
  rw [← bytesOf_length, bytes_extract]; simp [bytesOf_length]; omega
theorem size_strOf (xs : List Int) : (strOfNums xs).size = xs.length := strOfNums_size xs
theorem bytes_append (s t : ByteArray) : bytesOf (s ++ t) = bytesOf s ++ bytesOf t := by
  simp [bytesOf, ByteArray.data_append]
theorem strOf_append (xs ys : List Int) : strOfNums xs ++ strOfNums ys = strOfNums (xs ++ ys) := by
  have h : ∀ s t : ByteArray, s.data = t.data → s = t := by intro s t h; cases s; cases t; simp_all
  apply h
  simp [strOfNums, ByteArray.data_append]
theorem bytes_lit (l : List UInt8) : bytesOf ⟨l.toArray⟩ = l.map fun b => (b.toNat : Int) := rfl
theorem extract_strOf (s : ByteArray) (a b : Nat) : s.extract a b = strOfNums (((bytesOf s).drop a).take (b - a)) := by
  rw [← bytes_extract, strOf_bytes]
theorem mem_drop_take {xs : List Int} {p : Int → Prop} (h : ∀ x ∈ xs, p x) (a b : Nat) : ∀ x ∈ (xs.drop a).take b, p x :=
  fun x hx => h x (List.mem_of_mem_drop (List.mem_of_mem_take hx))
theorem drop_cons {xs : List Int} {i : Nat} (h : i < xs.length) : xs.drop i = xs.getD i 0 :: xs.drop (i + 1) := by
  rw [List.getD_eq_getElem?_getD, List.getElem?_eq_getElem h, Option.getD_some]
  exact List.drop_eq_getElem_cons h
theorem take_snoc {xs : List Int} {i : Nat} (h : i < xs.length) : xs.take (i + 1) = xs.take i ++ [xs.getD i 0] := by
  rw [List.getD_eq_getElem?_getD, List.getElem?_eq_getElem h, Option.getD_some]
  exact List.take_succ_eq_append_getElem h
theorem getD_mem {xs : List Int} {i : Nat} (h : i < xs.length) : xs.getD i 0 ∈ xs := by
  rw [List.getD_eq_getElem?_getD, List.getElem?_eq_getElem h, Option.getD_some]; exact List.getElem_mem h
theorem getD_past {xs : List Int} {i : Nat} (h : xs.length ≤ i) : xs.getD i 0 = 0 := by
  rw [List.getD_eq_getElem?_getD, List.getElem?_eq_none h]; rfl
theorem nil_str : (⟨#[]⟩ : ByteArray) = strOfNums [] := rfl
/-! Bits of whole numbers -/
theorem wraps_i64 (n : Int) (h0 : 0 ≤ n) (h1 : n < 2 ^ 63) : IntKind.i64.wrap n = n := by rw [IntKind.wrap_i64]; omega
theorem wraps_u32 (n : Int) (h0 : 0 ≤ n) (h1 : n < 2 ^ 32) : IntKind.u32.wrap n = n := by rw [IntKind.wrap_u32]; omega
theorem wraps_u64 (n : Int) (h0 : 0 ≤ n) (h1 : n < 2 ^ 64) : IntKind.u64.wrap n = n := by
  simp only [IntKind.wrap, IntKind.bits, IntKind.signed, Bool.false_and]
  simp
  omega
theorem shr_nat (y a : Nat) (h : a ≤ 64) : shr .i64 (y : Int) (a : Int) = ((y / 2 ^ a : Nat) : Int) := by
  unfold shr
  rw [Int.toNat_natCast, Nat.min_eq_left (by simpa [IntKind.bits] using h)]
  simp
theorem shl_nat (y a : Nat) (h : a ≤ 64) (hb : y * 2 ^ a < 2 ^ 63) : shl .i64 (y : Int) (a : Int) = ((y * 2 ^ a : Nat) : Int) := by
  unfold shl
  rw [Int.toNat_natCast, Nat.min_eq_left (by simpa [IntKind.bits] using h)]
  have e : (y : Int) * 2 ^ a = ((y * 2 ^ a : Nat) : Int) := by simp
  rw [e]
  exact wraps_i64 _ (Int.natCast_nonneg _) (by exact_mod_cast hb)
theorem and_mask (y i : Nat) (hi : i ≤ 63) (h : y < 2 ^ 63) (m : Int) (hm : m = 2 ^ i - 1) : Go.bits .and .i64 (y : Int) m = ((y % 2 ^ i : Nat) : Int) := by
  subst hm
  rw [bits_mask .i64 63 (by decide) wraps_i64 i hi _ (Int.natCast_nonneg _) (by exact_mod_cast h)]
  simp
theorem or_add (x y i : Nat) (hx : x % 2 ^ i = 0) (hx1 : x < 2 ^ 63) (hy : y < 2 ^ i) (hy1 : y < 2 ^ 63) : Go.bits .or .i64 (x : Int) (y : Int) = ((x + y : Nat) : Int) := by
  rw [bits_join .i64 63 (by decide) wraps_i64 i _ _ (Int.natCast_nonneg _) (by exact_mod_cast hx) (by exact_mod_cast hx1) (Int.natCast_nonneg _) (by exact_mod_cast hy) (by exact_mod_cast hy1)]
  simp

/-! A stream of bits, read as numbers -/
def num (β : Nat → Nat) (q : Nat) : Nat → Nat
  | 0 => 0
  | c + 1 => 2 * num β q c + β (q + c)
theorem num_add (β : Nat → Nat) (q a b : Nat) : num β q (a + b) = num β q a * 2 ^ b + num β (q + a) b := by
  induction b with
  | zero => simp [num]
  | succ b ih =>
    rw [← Nat.add_assoc]
    simp only [num]
    rw [ih, Nat.pow_succ, Nat.add_assoc q a b]
    rw [Nat.mul_add, ← Nat.mul_assoc 2, Nat.mul_comm 2 (num β q a), Nat.mul_assoc, Nat.mul_comm 2 (2 ^ b), Nat.add_assoc]
theorem num_lt {β : Nat → Nat} (h : ∀ k, β k ≤ 1) (q c : Nat) : num β q c < 2 ^ c := by
  induction c with
  | zero => simp [num]
  | succ c ih =>
    simp only [num]
    have := h (q + c)
    rw [Nat.pow_succ]; omega
theorem num_zero {β : Nat → Nat} {q c : Nat} (h : ∀ k, q ≤ k → β k = 0) : num β q c = 0 := by
  induction c with
  | zero => rfl
  | succ c ih => simp only [num, ih, h (q + c) (by omega)]
theorem num_congr {β γ : Nat → Nat} {q c : Nat} (h : ∀ k, q ≤ k → k < q + c → β k = γ k) : num β q c = num γ q c := by
  induction c with
  | zero => rfl
  | succ c ih => simp only [num]; rw [ih (fun k h1 h2 => h k h1 (by omega)), h (q + c) (by omega) (by omega)]
theorem num_five {β : Nat → Nat} (h : ∀ k, β k ≤ 1) {y q a : Nat} (hy : y % 2 ^ (a + 5) = num β q (a + 5)) :
    y / 2 ^ a % 32 = num β q 5 ∧ y % 2 ^ a = num β (q + 5) a := by
  have e := num_add β q 5 a
  rw [Nat.add_comm 5 a] at e
  have hM := num_lt h (q + 5) a
  have hN := num_lt h q 5
  rw [e, Nat.add_comm (num β q 5 * 2 ^ a)] at hy
  have hp : 2 ^ (a + 5) = 2 ^ a * 32 := Nat.pow_add 2 a 5
  constructor
  · have h1 := Nat.mod_mul_right_div_self y (2 ^ a) 32
    rw [← h1, ← hp, hy, Nat.add_mul_div_right _ _ (Nat.two_pow_pos a), Nat.div_eq_of_lt hM, Nat.zero_add]
  · have h1 := Nat.mod_mod_of_dvd y (⟨32, hp⟩ : 2 ^ a ∣ 2 ^ (a + 5))
    rw [← h1, hy, Nat.add_mul_mod_self_right, Nat.mod_eq_of_lt hM]
theorem num_grow {x b c v : Nat} (hb : b < 256) (hx : x % 2 ^ c = v) : (x * 256 + b) % 2 ^ (c + 8) = v * 256 + b := by
  have hp : 2 ^ (c + 8) = 2 ^ c * 256 := Nat.pow_add 2 c 8
  have h1 := Nat.div_add_mod x (2 ^ c)
  have h2 : x * 256 + b = (v * 256 + b) + (x / 2 ^ c) * (2 ^ c * 256) := by
    rw [← hx]
    conv => lhs; rw [← h1]
    rw [Nat.add_mul, Nat.mul_comm (2 ^ c) (x / 2 ^ c), Nat.mul_assoc]
    omega
  have h3 : v < 2 ^ c := by rw [← hx]; exact Nat.mod_lt _ (Nat.two_pow_pos c)
  rw [h2, hp, Nat.add_mul_mod_self_right, Nat.mod_eq_of_lt]
  omega
end Go.Proofs.Ytoaijdlablanfaa.Base
