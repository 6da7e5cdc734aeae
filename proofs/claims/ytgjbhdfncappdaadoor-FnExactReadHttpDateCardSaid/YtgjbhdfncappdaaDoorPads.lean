/- Plain facts on decimal texts: numbers written with so many digits, and with as many as they need; no program in sight, no condition. -/
namespace Go.Proofs.YtgjbhdfncappdaaDoor.Pads
set_option linter.unusedVariables false
set_option linter.unusedSimpArgs false
def padL : Nat → Int → List Int
  | 0, _ => []
  | k + 1, n => padL k (n / 10) ++ [48 + n % 10]
theorem padL_length : ∀ (k : Nat) (n : Int), (padL k n).length = k
  | 0, _ => rfl
  | k + 1, n => by simp [padL, padL_length k]
theorem padL_digit : ∀ (k : Nat) (n : Int), ∀ x ∈ padL k n, 48 ≤ x ∧ x ≤ 57
  | 0, _ => by simp [padL]
  | k + 1, n => by
    intro x hx
    simp only [padL, List.mem_append, List.mem_singleton] at hx
    rcases hx with h | h
    · exact padL_digit k _ x h
    · omega
/-- as many digits as a number needs -/
def decL : Nat → Int → List Int
  | 0, n => [48 + n % 10]
  | k + 1, n => if n < 10 then [48 + n] else decL k (n / 10) ++ [48 + n % 10]
def zeros (k : Nat) : List Int := List.replicate k 48
theorem decL_pos : ∀ (k : Nat) (n : Int), 1 ≤ (decL k n).length
  | 0, _ => by simp [decL]
  | k + 1, n => by simp only [decL]; split <;> simp
theorem padL_zero : ∀ k : Nat, padL k 0 = zeros k
  | 0 => rfl
  | k + 1 => by simp only [padL, show (0 : Int) / 10 = 0 by decide, padL_zero k, zeros]; rw [List.replicate_succ']; rfl
/-- a number below 10^k, written with k digits, is its digits behind zeros -/
theorem pad_dec : ∀ (k f : Nat) (n : Int), 1 ≤ k → k ≤ f + 1 → 0 ≤ n → n < 10 ^ k → (decL f n).length ≤ k ∧ zeros (k - (decL f n).length) ++ decL f n = padL k n
  | 0, _, _, h, _, _, _ => by omega
  | 1, f, n, _, _, h0, h1 => by
    have h1 : n < 10 := by simpa using h1
    have e : decL f n = [48 + n] := by
      cases f with
      | zero => simp only [decL]; congr 1; omega
      | succ f => simp only [decL]; rw [if_pos h1]
    rw [e]
    refine ⟨by simp, ?_⟩
    simp only [List.length_singleton, Nat.sub_self, zeros, List.replicate_zero, List.nil_append, padL]
    congr 1; omega
  | k + 2, 0, n, _, hk, _, _ => by omega
  | k + 2, f + 1, n, _, hk, h0, h1 => by
    by_cases c : n < 10
    · have e : decL (f + 1) n = [48 + n] := by simp only [decL]; rw [if_pos c]
      rw [e]
      refine ⟨by simp, ?_⟩
      rw [show padL (k + 2) n = padL (k + 1) (n / 10) ++ [48 + n % 10] from rfl, show n / 10 = 0 by omega, padL_zero]
      simp only [List.length_singleton, show k + 2 - 1 = k + 1 by omega]
      congr 2; omega
    · have h2 : n / 10 < 10 ^ (k + 1) := by
        have : (10 : Int) ^ (k + 2) = 10 ^ (k + 1) * 10 := Int.pow_succ ..
        omega
      have ih := pad_dec (k + 1) f (n / 10) (by omega) (by omega) (by omega) h2
      have e : decL (f + 1) n = decL f (n / 10) ++ [48 + n % 10] := by simp only [decL]; rw [if_neg c]
      rw [e, List.length_append, List.length_singleton]
      refine ⟨by omega, ?_⟩
      rw [show k + 2 - ((decL f (n / 10)).length + 1) = k + 1 - (decL f (n / 10)).length by omega, ← List.append_assoc, ih.2]
      rfl
/-- what digits tell -/
def valL (l : List Int) : Int := l.foldl (fun a x => 10 * a + (x - 48)) 0
theorem valL_snoc (l : List Int) (x : Int) : valL (l ++ [x]) = 10 * valL l + (x - 48) := by simp [valL]
theorem valL_pad : ∀ (k : Nat) (n : Int), 0 ≤ n → n < 10 ^ k → valL (padL k n) = n
  | 0, n, h0, h1 => by have h1 : n < 1 := by simpa using h1
                       have : n = 0 := by omega
                       subst this; rfl
  | k + 1, n, h0, h1 => by
    have : (10 : Int) ^ (k + 1) = 10 ^ k * 10 := Int.pow_succ ..
    rw [show padL (k + 1) n = padL k (n / 10) ++ [48 + n % 10] from rfl, valL_snoc, valL_pad k (n / 10) (by omega) (by omega)]
    omega
theorem snoc_cases (l : List Int) : l = [] ∨ ∃ i x, l = i ++ [x] := by
  cases h : l.reverse with
  | nil => left; simpa using h
  | cons x r => right; exact ⟨r.reverse, x, by have := congrArg List.reverse h; simpa using this⟩
theorem valL_bd : ∀ (k : Nat) (l : List Int), l.length = k → (∀ x ∈ l, 48 ≤ x ∧ x ≤ 57) → 0 ≤ valL l ∧ valL l < 10 ^ k
  | 0, l, hl, _ => by
    have : l = [] := List.length_eq_zero_iff.mp hl
    subst this; exact ⟨by decide, by decide⟩
  | k + 1, l, hl, h => by
    rcases snoc_cases l with rfl | ⟨i, x, rfl⟩
    · simp at hl
    · have ih := valL_bd k i (by simpa using hl) (fun y hy => h y (by simp [hy]))
      have hx := h x (by simp)
      have : (10 : Int) ^ (k + 1) = 10 ^ k * 10 := Int.pow_succ ..
      rw [valL_snoc]; omega
/-- digits are the text of what they tell -/
theorem pad_valL : ∀ (k : Nat) (l : List Int), l.length = k → (∀ x ∈ l, 48 ≤ x ∧ x ≤ 57) → padL k (valL l) = l
  | 0, l, hl, _ => by
    have : l = [] := List.length_eq_zero_iff.mp hl
    subst this; rfl
  | k + 1, l, hl, h => by
    rcases snoc_cases l with rfl | ⟨i, x, rfl⟩
    · simp at hl
    · have ih := pad_valL k i (by simpa using hl) (fun y hy => h y (by simp [hy]))
      have b := valL_bd k i (by simpa using hl) (fun y hy => h y (by simp [hy]))
      have hx := h x (by simp)
      rw [valL_snoc, show padL (k + 1) (10 * valL i + (x - 48)) = padL k ((10 * valL i + (x - 48)) / 10) ++ [48 + (10 * valL i + (x - 48)) % 10] from rfl, show (10 * valL i + (x - 48)) / 10 = valL i by omega, ih]
      congr 2; omega
theorem pad_inj {k : Nat} {a b : Int} (h : padL k a = padL k b) (a0 : 0 ≤ a) (a1 : a < 10 ^ k) (b0 : 0 ≤ b) (b1 : b < 10 ^ k) : a = b := by
  rw [← valL_pad k a a0 a1, ← valL_pad k b b0 b1, h]
theorem padL_two (n : Int) : padL 2 (n % 100) = padL 2 n := by
  simp only [padL, List.nil_append, List.cons_append]
  rw [show n % 100 / 10 % 10 = n / 10 % 10 by omega, show n % 100 % 10 = n % 10 by omega]
/-- order by digits -/
theorem pad_lt : ∀ (k : Nat) (a b : Int), 0 ≤ a → a < b → b < 10 ^ k → List.Lex (· < ·) (padL k a) (padL k b)
  | 0, a, b, h0, h1, h2 => by have h2 : b < 1 := by simpa using h2
                              omega
  | k + 1, a, b, h0, h1, h2 => by
    have e : (10 : Int) ^ (k + 1) = 10 ^ k * 10 := Int.pow_succ ..
    simp only [padL]
    by_cases c : a / 10 = b / 10
    · rw [c]
      have : 48 + a % 10 < 48 + b % 10 := by omega
      induction padL k (b / 10) with
      | nil => exact List.Lex.rel this
      | cons x l ih => exact List.Lex.cons ih
    · have ih := pad_lt k (a / 10) (b / 10) (by omega) (by omega) (by omega)
      have hl : (padL k (a / 10)).length = (padL k (b / 10)).length := by rw [padL_length, padL_length]
      revert hl ih
      generalize padL k (a / 10) = p; generalize padL k (b / 10) = q
      intro ih hl
      induction ih with
      | nil => simp at hl
      | cons h ih2 => exact List.Lex.cons (ih2 (by simpa using hl))
      | rel h => exact List.Lex.rel h
end Go.Proofs.YtgjbhdfncappdaaDoor.Pads
