/- What the library's Itoa tells of one digit, as a function that the printed walks may call. Its condition: a number of one digit. -/
import Derived.Test.YtgjbhdfncappdaaDoorProg
import Derived.Test.YtgjbhdfncappdaaDoorVMore
import Derived.Below
import Derived.Deep.Draws
import Derived.WalkKit
import Derived.KernelRfl
import Derived.Test.YtgjbhdfncappdaaDoorPads
import Derived.Deep.LoopGhost
namespace Go.Proofs.YtgjbhdfncappdaaDoor.Foreign
set_option linter.unusedVariables false
set_option linter.unusedSimpArgs false
open Go.RowKit Go.Proofs.YtgjbhdfncappdaaDoor.Pads Go.Proofs.YtgjbhdfncappdaaDoorV.PrintWords Go.Proofs.YtgjbhdfncappdaaDoorV.PrintLast Go.Proofs.YtgjbhdfncappdaaDoorV.PrintMore
def strconv_Itoa.f (a0 : Int) : Option ByteArray := if 0 ≤ a0 ∧ a0 < 10 then some (strOfNums [48 + a0]) else none
set_option maxRecDepth 100000 in
theorem small_digit (i : Int) (h0 : 0 ≤ i) (h1 : i < 10) (w : World) :
    Calls Tryd.prog 96 #[.int .i64 i] w fun e w' => e = .returned (.string (strOfNums [48 + i])) ∧ w = w' := by
  obtain rfl | rfl | rfl | rfl | rfl | rfl | rfl | rfl | rfl | rfl : i = 0 ∨ i = 1 ∨ i = 2 ∨ i = 3 ∨ i = 4 ∨ i = 5 ∨ i = 6 ∨ i = 7 ∨ i = 8 ∨ i = 9 := by omega
  all_goals
    go_enter Tryd.func96, Tryd.ntmps96
    go_wp2
    go_ret
    exact ⟨rfl, rfl⟩
set_option maxRecDepth 100000 in
theorem format_digit (i : Int) (h0 : 0 ≤ i) (h1 : i < 10) (w : World) :
    Calls Tryd.prog 91 #[.int .i64 i, .int .i64 10] w fun e w' => e = .returned (.string (strOfNums [48 + i])) ∧ w = w' := by
  have h2 : i < 100 := by omega
  go_enter Tryd.func91, Tryd.ntmps91
  go_wp2_with (go_at_call 96; refine (small_digit i h0 h1 _).mono ?_; rintro e w1 ⟨rfl, rfl⟩)
  go_ret
  exact ⟨rfl, rfl⟩
set_option maxRecDepth 100000 in
theorem inner_digit (i : Int) (h0 : 0 ≤ i) (h1 : i < 10) (w : World) :
    Calls Tryd.prog 82 #[.int .i64 i] w fun e w' => e = .returned (.string (strOfNums [48 + i])) ∧ w = w' := by
  go_enter Tryd.func82, Tryd.ntmps82
  go_wp2_with (go_at_call 91; refine (format_digit i h0 h1 _).mono ?_; rintro e w1 ⟨rfl, rfl⟩)
  go_ret
  exact ⟨rfl, rfl⟩
set_option maxRecDepth 100000 in
theorem itoa_digit (a0 : Int) (h0 : 0 ≤ a0) (h1 : a0 < 10) (w : World) :
    Calls Tryd.prog 73 #[.int .i64 a0] w fun e w' => e = .returned (.string (strOfNums [48 + a0])) ∧ w = w' := by
  go_enter Tryd.func73, Tryd.ntmps73
  go_wp2_with (go_at_call 82; refine (inner_digit a0 h0 h1 _).mono ?_; rintro e w1 ⟨rfl, rfl⟩)
  go_ret
  exact ⟨rfl, rfl⟩
theorem strconv_Itoa.calls (a0 : Int) (r : ByteArray) (w : World) (h : strconv_Itoa.f a0 = some r) :
    Calls Tryd.prog 73 #[.int .i64 a0] w fun e w' => e = .returned (.string r) ∧ Drawn0 w w' := by
  unfold strconv_Itoa.f at h
  split at h
  · rename_i hc
    obtain rfl := Option.some.inj h
    exact (itoa_digit a0 hc.1 hc.2 w).mono fun e w' ⟨he, hw⟩ => ⟨he, by subst hw; exact Drawn0.refl _⟩
  · cases h
theorem str_append (xs ys : List Int) : strOfNums xs ++ strOfNums ys = strOfNums (xs ++ ys) := by
  have h : ∀ s t : ByteArray, s.data = t.data → s = t := by intro s t h; cases s; cases t; simp_all
  apply h
  simp [strOfNums, ByteArray.data_append]
theorem ret_str {a b : ByteArray} (h : a = b) : Ending.returned (.string a) = .returned (.string b) := by rw [h]
/-- so many digits of a number -/
theorem digits_c (n : Int) (k : Nat) (h0 : 0 ≤ n) (h1 : n ≤ 9223372036854775807) (hk : k ≤ 100) (w : World) :
    Calls Tryd.prog 54 #[.int .i64 n, .int .i64 (k : Int)] w fun e w' => e = .returned (.string (strOfNums (padL k n))) ∧ w = w' := by
  go_enter Tryd.func54, Tryd.ntmps54
  go_wp2
  go_loopg [0, 1, 5] k (fun g s0 s1 s5 wr => ∃ (n' : Int) (acc : List Int), 0 ≤ n' ∧ n' ≤ 9223372036854775807 ∧ g ≤ 100 ∧ s0 = .int .i64 n' ∧ s1 = .int .i64 (g : Int) ∧ s5 = .string (strOfNums acc) ∧ acc.length + g = k ∧ Aside (padL g n' ++ acc = padL k n) ∧ w = wr)
  case atStart => exact ⟨n, [], h0, h1, hk, rfl, rfl, rfl, by simp, List.append_nil _, rfl⟩
  case round =>
    obtain ⟨n', acc, hn0, hn1, hg, rfl, rfl, rfl, hl, hacc, rfl⟩ := hrel
    cases gk with
    | zero =>
      go_wp2
      go_ret
      exact ⟨ret_str (by have := hacc.out; simp only [padL, List.nil_append] at this; rw [this]), rfl⟩
    | succ g =>
      have hz : (strOfNums [48 + n' % 10]).size + (strOfNums acc).size ≤ 9223372036854775807 := by rw [strOfNums_size, strOfNums_size]; simp; omega
      have hz1 : ¬ 9223372036854775807 < (strOfNums [48 + n' % 10]).size + (strOfNums acc).size := by omega
      have hl' : Aside (acc.length + (g + 1) = k) := hl
      clear hl
      go_wp2_with (go_at_call 73; refine (itoa_digit _ (by omega) (by omega) _).mono ?_; rintro e w' ⟨rfl, rfl⟩)
      go_roundg g
      case measure => omega
      case rel => exact ⟨n' / 10, [48 + n' % 10] ++ acc, by omega, by omega, by omega, rfl, by go_num, by rw [str_append], by have := hl'.out; simp; omega, by have := hacc.out; simp only [padL, List.append_assoc] at this; exact this, rfl⟩
def impl_digits.f (n k : Int) : Option ByteArray := if 0 ≤ n ∧ n ≤ 9223372036854775807 ∧ 0 ≤ k ∧ k ≤ 100 then some (strOfNums (padL k.toNat n)) else none
theorem impl_digits.calls (n k : Int) (r : ByteArray) (w : World) (h : impl_digits.f n k = some r) :
    Calls Tryd.prog 54 #[.int .i64 n, .int .i64 k] w fun e w' => e = .returned (.string r) ∧ Drawn0 w w' := by
  unfold impl_digits.f at h
  split at h
  · rename_i hc
    obtain rfl := Option.some.inj h
    have := digits_c n k.toNat hc.1 hc.2.1 (by omega) w
    rw [Int.toNat_of_nonneg hc.2.2.1] at this
    exact this.mono fun e w' ⟨he, hw⟩ => ⟨he, by subst hw; exact Drawn0.refl _⟩
  · cases h
end Go.Proofs.YtgjbhdfncappdaaDoor.Foreign
