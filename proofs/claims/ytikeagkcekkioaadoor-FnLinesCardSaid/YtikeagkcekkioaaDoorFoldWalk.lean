/- What the program's and the reference's Fold tell: great letters become small ones. No condition but a text that has room. -/
import Derived.Test.YtikeagkcekkioaaDoorFoldMem
import Derived.Test.YtikeagkcekkioaaDoorProg
import Derived.Test.YtikeagkcekkioaaDoorWMore
import Derived.Below
import Derived.Deep.Draws
import Derived.Deep.LoopGhost
import Derived.WalkKit
import Derived.KernelRfl
import Derived.Lib.ConvBytes
import Derived.Laws.IdiomStrings
import Derived.Lib.AtoiErrMem
namespace Go.Proofs.YtikeagkcekkioaaDoor.Foreign
set_option linter.unusedVariables false
set_option linter.unusedSimpArgs false
open Go.RowKit Go.Proofs.YtikeagkcekkioaaDoorW.PrintWords Go.Proofs.YtikeagkcekkioaaDoorW.PrintLast Go.Proofs.YtikeagkcekkioaaDoorW.PrintMore
def low (x : Int) : Int := if 65 ≤ x ∧ x ≤ 90 then x + 32 else x
def lowL (l : List Int) : List Int := l.map low
theorem isUpper_yes (b : Int) (h : 65 ≤ b ∧ b ≤ 90) (w : World) : Calls Tryd.prog 56 #[.int .u8 b] w fun e w' => e = .returned (.bool true) ∧ w = w' := by
  obtain ⟨h0, h1⟩ := h
  go_enter Tryd.func56, Tryd.ntmps56
  go_wp2
  go_ret
  exact ⟨rfl, rfl⟩
theorem isUpper_no (b : Int) (h : ¬ (65 ≤ b ∧ b ≤ 90)) (w : World) : Calls Tryd.prog 56 #[.int .u8 b] w fun e w' => e = .returned (.bool false) ∧ w = w' := by
  by_cases h0 : 65 ≤ b
  · have h1 : ¬ b ≤ 90 := fun h' => h ⟨h0, h'⟩
    clear h
    go_enter Tryd.func56, Tryd.ntmps56
    go_wp2
    go_ret
    exact ⟨rfl, rfl⟩
  · clear h
    go_enter Tryd.func56, Tryd.ntmps56
    go_wp2
    go_ret
    exact ⟨rfl, rfl⟩
theorem l1lower_c (b : Int) (h0 : 0 ≤ b) (h1 : b < 256) (w : World) : Calls Tryd.prog 57 #[.int .u8 b] w fun e w' => e = .returned (.int .u8 (low b)) ∧ w = w' := by
  by_cases h : 65 ≤ b ∧ b ≤ 90
  · have hr : low b = b + 32 := if_pos h
    rw [hr]; clear hr
    obtain ⟨h2, h3⟩ := h
    go_enter Tryd.func57, Tryd.ntmps57
    go_wp2
    go_ret
    exact ⟨by first | rfl | (congr 2; omega), rfl⟩
  · have hr : low b = b := if_neg h
    rw [hr]; clear hr
    by_cases h2 : 65 ≤ b
    · have h3 : ¬ b ≤ 90 := fun h' => h ⟨h2, h'⟩
      clear h
      go_enter Tryd.func57, Tryd.ntmps57
      go_wp2
      go_ret
      exact ⟨rfl, rfl⟩
    · clear h
      go_enter Tryd.func57, Tryd.ntmps57
      go_wp2
      go_ret
      exact ⟨rfl, rfl⟩
theorem low_byte {x : Int} (h : 0 ≤ x ∧ x < 256) : 0 ≤ low x ∧ low x < 256 := by unfold low; split <;> omega
/-- behind i rounds -/
def half (l : List Int) (i : Nat) : List Int := lowL (l.take i) ++ l.drop i
theorem half_length (l : List Int) (i : Nat) : (half l i).length = l.length := by simp [half, lowL]; omega
theorem half_zero (l : List Int) : half l 0 = l := by simp [half, lowL]
theorem half_all (l : List Int) : half l l.length = lowL l := by simp [half]
theorem half_get {l : List Int} {i : Nat} (h : i < l.length) : (half l i).getD i 0 = l.getD i 0 := by
  have h1 : (lowL (l.take i)).length = i := by simp [lowL]; omega
  simp only [half, List.getD]
  rw [List.getElem?_append_right (by omega), h1]; simp
theorem half_succ {l : List Int} {i : Nat} (h : i < l.length) : half l (i + 1) = (half l i).set i (low (l.getD i 0)) := by
  have h1 : (lowL (l.take i)).length = i := by simp [lowL]; omega
  have h2 : l.drop i = l.getD i 0 :: l.drop (i + 1) := by
    rw [List.getD_eq_getElem?_getD, List.getElem?_eq_getElem h, Option.getD_some]; exact List.drop_eq_getElem_cons h
  have h3 : l.take (i + 1) = l.take i ++ [l.getD i 0] := by
    rw [List.getD_eq_getElem?_getD, List.getElem?_eq_getElem h, Option.getD_some]; exact List.take_succ_eq_append_getElem h
  unfold half
  rw [h3, h2, List.set_append_right _ _ (by omega), h1, Nat.sub_self]
  simp [lowL]
theorem half_bd {l : List Int} (h : ∀ x ∈ l, 0 ≤ x ∧ x < 256) : ∀ x ∈ lowL l, 0 ≤ x ∧ x < 256 := by
  intro x hx
  simp only [lowL, List.mem_map] at hx
  obtain ⟨y, hy, rfl⟩ := hx
  exact low_byte (h y hy)
theorem half_same {l : List Int} {i : Nat} (h : i < l.length) (hl : low (l.getD i 0) = l.getD i 0) : half l (i + 1) = half l i := by
  rw [half_succ h, hl, ← half_get h]
  apply List.ext_getElem?
  intro j
  rw [List.getElem?_set]
  by_cases e : i = j
  · subst e
    have : i < (half l i).length := by rw [half_length]; exact h
    rw [if_pos rfl, if_pos this, List.getD_eq_getElem?_getD, List.getElem?_eq_getElem this]; rfl
  · rw [if_neg e]
set_option maxHeartbeats 1000000 in
theorem fold_c (s : ByteArray) (hs : s.size ≤ 140737488351232) (w : World) : Calls Tryd.prog 30 #[.string s] w fun e w' => e = .returned (.string (strOfNums (lowL (bytesOf s)))) ∧ Below w.heap.size w w' := by
  have hcv := Lib.run_convert_string_bytes (P := Tryd.prog) w 9 22 5 s Tryd.underlying9 Tryd.underlying22 Tryd.underlying5
  have hsz : (bytesOf s).length = s.size := bytesOf_length s
  go_enter Tryd.func30, Tryd.ntmps30
  go_wp2
  have HB0 := BytesAt.start w 5 s
  clear hcv
  have HSZ : Aside ((bytesOf s).length = s.size) := hsz
  clear hsz
  go_loopg [10] s.size (fun k s10 wr => ∃ i : Nat, i + k = s.size ∧ s10 = .int .i64 (i : Int) ∧ Aside (BytesAt w wr (half (bytesOf s) i)))
  case atStart => exact ⟨0, by omega, rfl, by show BytesAt _ _ _; rw [half_zero]; exact HB0⟩
  case round =>
    obtain ⟨i, hi, rfl, HB⟩ := hrel
    cases gk with
    | zero =>
      obtain rfl : i = s.size := by omega
      have hcb := conv_back (by have := HB.out; rw [← HSZ.out, half_all] at this; exact this) (half_bd (bytesOf_bd s)) (grownCap w s.size 0 5)
      rw [show (lowL (bytesOf s)).length = s.size by rw [← HSZ.out]; simp [lowL]] at hcb
      go_wp2
      go_ret
      exact ⟨rfl, HB.out.below⟩
    | succ g =>
      have hi' : i < s.size := by omega
      have hil : i < (bytesOf s).length := by rw [HSZ.out]; exact hi'
      have hcell := HB.out.cell i (by rw [half_length]; exact hil)
      have hfree := HB.out.free i (by rw [half_length]; exact hil)
      rw [half_get hil] at hcell
      obtain ⟨x, hx⟩ : ∃ x, (bytesOf s).getD i 0 = x := ⟨_, rfl⟩
      rw [hx] at hcell
      have HX : Aside ((bytesOf s).getD i 0 = x) := hx
      have hxb : 0 ≤ x ∧ x < 256 := by
        rw [← hx, List.getD_eq_getElem?_getD, List.getElem?_eq_getElem hil]; exact bytesOf_bd s _ (List.getElem_mem hil)
      obtain ⟨x0, x1⟩ := hxb
      clear hx
      have HIL : Aside (i < (bytesOf s).length) := hil
      clear hil
      by_cases hu : 65 ≤ x ∧ x ≤ 90
      · have hlow : Aside (low x = x + 32) := if_pos hu
        have hu0 := hu.1
        have hu1 := hu.2
        go_wp2_with (go_at_call 56; refine (isUpper_yes x hu _).mono ?_; rintro e w' ⟨rfl, rfl⟩)
        go_roundg g
        case measure => omega
        case rel => exact ⟨i + 1, by omega, by go_num, by rw [half_succ HIL.out, HX.out, hlow.out]; exact HB.out.set i (by rw [half_length]; exact HIL.out) _⟩
      · have hlow : Aside (low x = x) := if_neg hu
        go_wp2_with (go_at_call 56; refine (isUpper_no x hu _).mono ?_; rintro e w' ⟨rfl, rfl⟩)
        go_roundg g
        case measure => omega
        case rel => exact ⟨i + 1, by omega, by go_num, by rw [half_same HIL.out (by rw [HX.out]; exact hlow.out)]; exact HB⟩
set_option maxHeartbeats 1000000 in
theorem specFold_c (s : ByteArray) (hs : s.size ≤ 140737488351232) (w : World) : Calls Tryd.prog 32 #[.string s] w fun e w' => e = .returned (.string (strOfNums (lowL (bytesOf s)))) ∧ Below w.heap.size w w' := by
  have hcv := Lib.run_convert_string_bytes (P := Tryd.prog) w 9 22 5 s Tryd.underlying9 Tryd.underlying22 Tryd.underlying5
  have hsz : (bytesOf s).length = s.size := bytesOf_length s
  go_enter Tryd.func32, Tryd.ntmps32
  go_wp2
  have HB0 := BytesAt.start w 5 s
  clear hcv
  have HSZ : Aside ((bytesOf s).length = s.size) := hsz
  clear hsz
  go_loopg [4] s.size (fun k s10 wr => ∃ i : Nat, i + k = s.size ∧ s10 = .int .i64 (i : Int) ∧ Aside (BytesAt w wr (half (bytesOf s) i)))
  case atStart => exact ⟨0, by omega, rfl, by show BytesAt _ _ _; rw [half_zero]; exact HB0⟩
  case round =>
    obtain ⟨i, hi, rfl, HB⟩ := hrel
    cases gk with
    | zero =>
      obtain rfl : i = s.size := by omega
      have hcb := conv_back (by have := HB.out; rw [← HSZ.out, half_all] at this; exact this) (half_bd (bytesOf_bd s)) (grownCap w s.size 0 5)
      rw [show (lowL (bytesOf s)).length = s.size by rw [← HSZ.out]; simp [lowL]] at hcb
      go_wp2
      go_ret
      exact ⟨rfl, HB.out.below⟩
    | succ g =>
      have hi' : i < s.size := by omega
      have hil : i < (bytesOf s).length := by rw [HSZ.out]; exact hi'
      have hcell := HB.out.cell i (by rw [half_length]; exact hil)
      have hfree := HB.out.free i (by rw [half_length]; exact hil)
      rw [half_get hil] at hcell
      obtain ⟨x, hx⟩ : ∃ x, (bytesOf s).getD i 0 = x := ⟨_, rfl⟩
      rw [hx] at hcell
      have HX : Aside ((bytesOf s).getD i 0 = x) := hx
      have hxb : 0 ≤ x ∧ x < 256 := by
        rw [← hx, List.getD_eq_getElem?_getD, List.getElem?_eq_getElem hil]; exact bytesOf_bd s _ (List.getElem_mem hil)
      obtain ⟨x0, x1⟩ := hxb
      clear hx
      have HIL : Aside (i < (bytesOf s).length) := hil
      clear hil
      have hlb := low_byte (x := x) ⟨x0, x1⟩
      obtain ⟨y, hy⟩ : ∃ y, low x = y := ⟨_, rfl⟩
      have HY : Aside (low x = y) := hy
      rw [hy] at hlb
      obtain ⟨y0, y1⟩ := hlb
      clear hy
      go_wp2_with (go_at_call 57; refine (l1lower_c x x0 x1 _).mono ?_; rintro e w' ⟨rfl, rfl⟩; rw [HY.out])
      go_roundg g
      case measure => omega
      case rel => exact ⟨i + 1, by omega, by go_num, by rw [half_succ HIL.out, HX.out, HY.out]; exact HB.out.set i (by rw [half_length]; exact HIL.out) _⟩
/-! As functions that the printed walks may call -/
def foldM (s : ByteArray) : ByteArray := strOfNums (lowL (bytesOf s))
def impl_Fold.f (s : ByteArray) : Option ByteArray := if s.size ≤ 140737488351232 then some (foldM s) else none
def spec_Fold.f (s : ByteArray) : Option ByteArray := if s.size ≤ 140737488351232 then some (foldM s) else none
theorem impl_Fold.calls (s r : ByteArray) (w : World) (h : impl_Fold.f s = some r) : Calls Tryd.prog 30 #[.string s] w fun e w' => e = .returned (.string r) ∧ Below w.heap.size w w' := by
  unfold impl_Fold.f at h
  split at h
  · rename_i hs
    obtain rfl := Option.some.inj h
    exact fold_c s hs w
  · cases h
theorem spec_Fold.calls (s r : ByteArray) (w : World) (h : spec_Fold.f s = some r) : Calls Tryd.prog 32 #[.string s] w fun e w' => e = .returned (.string r) ∧ Below w.heap.size w w' := by
  unfold spec_Fold.f at h
  split at h
  · rename_i hs
    obtain rfl := Option.some.inj h
    exact specFold_c s hs w
  · cases h
end Go.Proofs.YtikeagkcekkioaaDoor.Foreign
