/- The law FnExactTrim answers true for every text: both results are the text without blanks and tabs around it. No condition. -/
import Derived.Test.YtcehnamlnbhhnaaPFnExactTrimx1
import Derived.Test.YtcehnamlnbhhnaaBase
namespace Go.Proofs.Ytcehnamlnbhhnaa.Pure
open Go.RowKit Go.Proofs.Ytcehnamlnbhhnaa.PFnExactTrim Go.Proofs.YtcehnamlnbhhnaaW.PrintWords Go.Proofs.YtcehnamlnbhhnaaW.PrintLast Go.Proofs.YtcehnamlnbhhnaaW.PrintMore Go.Proofs.Ytcehnamlnbhhnaa.Base
set_option linter.unusedVariables false
set_option linter.unusedSimpArgs false

/-! A text without blanks and tabs around it -/
def ws (x : Int) : Bool := x == 32 || x == 9
def trimL (l : List Int) : List Int := l.dropWhile ws
def trimR (l : List Int) : List Int := (l.reverse.dropWhile ws).reverse
def trim (l : List Int) : List Int := trimR (trimL l)
theorem trimR_nil : trimR [] = [] := rfl
theorem trimR_ws {l : List Int} {x : Int} (h : ws x = true) : trimR (l ++ [x]) = trimR l := by simp [trimR, List.dropWhile, h]
theorem trimR_other {l : List Int} {x : Int} (h : ws x = false) : trimR (l ++ [x]) = l ++ [x] := by simp [trimR, List.dropWhile, h]
theorem trimL_ws {l : List Int} {x : Int} (h : ws x = true) : trimL (x :: l) = trimL l := by simp [trimL, List.dropWhile, h]
theorem trimL_other {l : List Int} {x : Int} (h : ws x = false) : trimL (x :: l) = x :: l := by simp [trimL, List.dropWhile, h]

theorem impl_space (x : Int) : impl_isSpace.f x = some (ws x) := by
  unfold impl_isSpace.f ws
  by_cases h : x = 32 <;> simp [h]
theorem impl_trim_l1 : ∀ (n : Nat) (s : ByteArray), s.size = n → s.size ≤ 140737488351232 → Ev (fun k => impl_Trim.l1 k s) (strOfNums (trimR (bytesOf s))) := by
  intro n
  induction n with
  | zero =>
    intro s hs hb
    refine Ev.step (fun k => impl_Trim.l1.eq_2 s k) ?_
    have hz : bytesOf s = [] := List.eq_nil_of_length_eq_zero (by rw [bytesOf_length, hs])
    refine Ev.pos (toList_nil.mpr hz) ?_
    have e : s = strOfNums (trimR (bytesOf s)) := by
      conv => lhs; rw [← strOf_bytes s]
      rw [hz]; rfl
    rw [← e]
    exact Ev.now s
  | succ n ih =>
    intro s hs hb
    have hsz : (s.size : Int) = (n : Int) + 1 := by omega
    have hw : wrap64 ((s.size : Int) - 1) = (n : Int) := by rw [w64 (by omega) (by omega)]; omega
    have hl : bytesOf s = (bytesOf s).take n ++ [(bytesOf s).getD n 0] := by
      have h1 := take_snoc (xs := bytesOf s) (i := n) (by rw [bytesOf_length]; omega)
      rw [← h1, List.take_of_length_le (by rw [bytesOf_length]; omega)]
    refine Ev.step (fun k => impl_Trim.l1.eq_2 s k) ?_
    refine Ev.neg (fun h => by have := toList_nil_size.mp h; omega) ?_
    rw [hw]
    refine Ev.pos (by omega) (Ev.pos (by omega) ?_)
    refine Ev.told (impl_space _) ?_
    rw [bt_nat]
    cases hx : ws ((bytesOf s).getD n 0) with
    | true =>
      refine Ev.pos rfl (Ev.pos (by omega) ?_)
      have h2 := ih (s.extract 0 n) (by rw [size_extract _ _ _ (by omega)]; omega) (by rw [size_extract _ _ _ (by omega)]; omega)
      rw [bytes_head] at h2
      rw [hl, trimR_ws hx]
      exact h2
    | false =>
      refine Ev.neg (by simp) ?_
      have e : s = strOfNums (trimR (bytesOf s)) := by
        conv => lhs; rw [← strOf_bytes s]
        rw [hl, trimR_other hx]
      rw [← e]
      exact Ev.now s
theorem impl_trim_l0 : ∀ (n : Nat) (s : ByteArray), s.size = n → s.size ≤ 140737488351232 → Ev (fun k => impl_Trim.l0 k s) (strOfNums (trim (bytesOf s))) := by
  intro n
  induction n with
  | zero =>
    intro s hs hb
    refine Ev.step (fun k => impl_Trim.l0.eq_2 s k) ?_
    have hz : bytesOf s = [] := List.eq_nil_of_length_eq_zero (by rw [bytesOf_length, hs])
    refine Ev.pos (toList_nil.mpr hz) ?_
    refine Ev.step (fun k => impl_Trim.j1.eq_2 s k) ?_
    have := impl_trim_l1 0 s hs hb
    rw [hz] at this ⊢
    exact this
  | succ n ih =>
    intro s hs hb
    have hl : bytesOf s = (bytesOf s).getD 0 0 :: (bytesOf s).drop 1 := by
      have h1 := drop_cons (xs := bytesOf s) (i := 0) (by rw [bytesOf_length]; omega)
      simpa using h1
    refine Ev.step (fun k => impl_Trim.l0.eq_2 s k) ?_
    refine Ev.neg (fun h => by have := toList_nil_size.mp h; omega) ?_
    refine Ev.pos (by omega) ?_
    refine Ev.told (impl_space _) ?_
    rw [show bt s 0 = (bytesOf s).getD 0 0 from bt_nat s 0]
    cases hx : ws ((bytesOf s).getD 0 0) with
    | true =>
      refine Ev.pos rfl (Ev.pos (by omega) ?_)
      have h2 := ih (s.extract 1 s.size) (by rw [size_extract _ _ _ (by omega)]; omega) (by rw [size_extract _ _ _ (by omega)]; omega)
      rw [bytes_to_end] at h2
      rw [hl]
      unfold trim
      rw [trimL_ws hx]
      exact h2
    | false =>
      refine Ev.neg (by simp) ?_
      refine Ev.step (fun k => impl_Trim.j1.eq_2 s k) ?_
      have h2 := impl_trim_l1 _ s rfl hb
      have e : trim (bytesOf s) = trimR (bytesOf s) := by
        unfold trim; rw [hl, trimL_other hx]
      rw [e]
      exact h2
theorem impl_trim (s : ByteArray) (hb : s.size ≤ 140737488351232) : Ev (fun k => impl_Trim.f k s) (strOfNums (trim (bytesOf s))) := impl_trim_l0 _ s rfl hb

theorem spec_white (x : Int) : spec_l1white.f x = some (ws x) := by
  unfold spec_l1white.f ws
  by_cases h : x = 32 <;> simp [h]
theorem spec_trim_l1 (s : ByteArray) (hb : s.size ≤ 140737488351232) (f : Nat) : ∀ (d t : Nat), t = f + d → t ≤ s.size →
    Ev (fun k => spec_Trim.l1 k s (f : Int) (t : Int)) (strOfNums (trimR (((bytesOf s).take t).drop f))) := by
  intro d
  induction d with
  | zero =>
    intro t ht hle
    refine Ev.step (fun k => spec_Trim.l1.eq_2 s _ _ k) ?_
    refine Ev.neg (by omega) (Ev.pos (by omega) (Ev.pos (by omega) (Ev.pos (by omega) ?_)))
    rw [Int.toNat_natCast, Int.toNat_natCast, extract_strOf]
    have e1 : ((bytesOf s).take t).drop f = [] := by apply List.drop_eq_nil_of_le; simp [bytesOf_length]; omega
    rw [e1, show t - f = 0 by omega, List.take_zero]
    exact Ev.now _
  | succ d ih =>
    intro t ht hle
    obtain ⟨u, rfl⟩ : ∃ u, t = u + 1 := ⟨t - 1, by omega⟩
    have hw : wrap64 (((u + 1 : Nat) : Int) - 1) = (u : Int) := by rw [w64 (by omega) (by omega)]; omega
    refine Ev.step (fun k => spec_Trim.l1.eq_2 s _ _ k) ?_
    rw [hw]
    refine Ev.pos (by omega) (Ev.pos (by omega) (Ev.pos (by omega) (Ev.told (spec_white _) ?_)))
    rw [bt_nat]
    have e : ((bytesOf s).take (u + 1)).drop f = ((bytesOf s).take u).drop f ++ [(bytesOf s).getD u 0] := by
      rw [take_snoc (by rw [bytesOf_length]; omega), List.drop_append_of_le_length (by simp [bytesOf_length]; omega)]
    cases hx : ws ((bytesOf s).getD u 0) with
    | true =>
      refine Ev.pos rfl ?_
      rw [e, trimR_ws hx]
      exact ih u (by omega) (by omega)
    | false =>
      refine Ev.neg (by simp) (Ev.pos (by omega) (Ev.pos (by omega) (Ev.pos (by omega) ?_)))
      rw [Int.toNat_natCast, Int.toNat_natCast, extract_strOf, e, trimR_other hx, ← e, List.drop_take]
      exact Ev.now _
theorem spec_trim_l0 (s : ByteArray) (hb : s.size ≤ 140737488351232) : ∀ (d i : Nat), s.size = i + d →
    Ev (fun k => spec_Trim.l0 k s (i : Int)) (strOfNums (trim ((bytesOf s).drop i))) := by
  have stop : ∀ i : Nat, i ≤ s.size → trimL ((bytesOf s).drop i) = (bytesOf s).drop i → Ev (fun k => spec_Trim.j1 k s (i : Int)) (strOfNums (trim ((bytesOf s).drop i))) := by
    intro i hi he
    refine Ev.step (fun k => spec_Trim.j1.eq_2 s _ k) ?_
    have h := spec_trim_l1 s hb i (s.size - i) s.size (by omega) (Nat.le_refl _)
    rw [List.take_of_length_le (by rw [bytesOf_length]; omega)] at h
    unfold trim
    rw [he]
    exact h
  intro d
  induction d with
  | zero =>
    intro i hi
    refine Ev.step (fun k => spec_Trim.l0.eq_2 s _ k) ?_
    refine Ev.neg (by omega) (stop i (by omega) ?_)
    rw [List.drop_eq_nil_of_le (by rw [bytesOf_length]; omega)]; rfl
  | succ d ih =>
    intro i hi
    have hc := drop_cons (xs := bytesOf s) (i := i) (by rw [bytesOf_length]; omega)
    refine Ev.step (fun k => spec_Trim.l0.eq_2 s _ k) ?_
    refine Ev.pos (by omega) (Ev.pos (by omega) (Ev.told (spec_white _) ?_))
    rw [bt_nat]
    cases hx : ws ((bytesOf s).getD i 0) with
    | true =>
      refine Ev.pos rfl ?_
      have hw : wrap64 ((i : Int) + 1) = ((i + 1 : Nat) : Int) := by rw [w64 (by omega) (by omega)]; omega
      rw [hw, hc]
      unfold trim
      rw [trimL_ws hx]
      exact ih (i + 1) (by omega)
    | false =>
      refine Ev.neg (by simp) (stop i (by omega) ?_)
      rw [hc, trimL_other hx]
theorem spec_trim (s : ByteArray) (hb : s.size ≤ 140737488351232) : Ev (fun k => spec_Trim.f k s) (strOfNums (trim (bytesOf s))) := by
  have := spec_trim_l0 s hb s.size 0 (by omega)
  show Ev (fun k => spec_Trim.l0 k s 0) _
  simpa using this

theorem FnExactTrim : laws_FnExactTrim.Pure := by
  intro s hs
  apply Ev.rounds
  show Ev (fun k => if (s.size : Int) > 1048576 then (some true) else ((spec_Trim.f k s).bind fun t105 => ((impl_Trim.f k s).bind fun t106 => (if t106.toList = t105.toList then (some true) else (some false))))) true
  by_cases h : (s.size : Int) > 1048576
  · exact Ev.pos h (Ev.now _)
  · exact Ev.neg h (Ev.bind (spec_trim s hs) (Ev.bind (impl_trim s hs) (Ev.pos rfl (Ev.now _))))

end Go.Proofs.Ytcehnamlnbhhnaa.Pure
