/- What the program's ReadStamp tells, as a function that the printed walks may call. Condition: a text that has room. -/
import Derived.Test.YtgjbhdfncappdaaDoorAtoiWalk
import Derived.Test.YtgjbhdfncappdaaDoorSecWalk
import Derived.Test.YtgjbhdfncappdaaDoorHttps
import Derived.Lib.Strings
namespace Go.Proofs.YtgjbhdfncappdaaDoor.Foreign
set_option linter.unusedVariables false
set_option linter.unusedSimpArgs false
open Go.RowKit Go.Proofs.YtgjbhdfncappdaaDoor.Dates Go.Proofs.YtgjbhdfncappdaaDoor.Pads Go.Proofs.YtgjbhdfncappdaaDoor.Places Go.Proofs.YtgjbhdfncappdaaDoor.Reads Go.Proofs.YtgjbhdfncappdaaDoorW.PrintWords Go.Proofs.YtgjbhdfncappdaaDoorW.PrintLast Go.Proofs.YtgjbhdfncappdaaDoorW.PrintMore
theorem isDigit_yes (b : Int) (h0 : 48 ≤ b) (h1 : b ≤ 57) (w : World) : Calls Tryd.prog 61 #[.int .u8 b] w fun e w' => e = .returned (.bool true) ∧ w = w' := by
  go_enter Tryd.func61, Tryd.ntmps61
  go_wp2
  go_ret
  exact ⟨rfl, rfl⟩
theorem isDigit_no (b : Int) (h : ¬ (48 ≤ b ∧ b ≤ 57)) (w : World) : Calls Tryd.prog 61 #[.int .u8 b] w fun e w' => e = .returned (.bool false) ∧ w = w' := by
  by_cases h0 : 48 ≤ b
  · have h1 : ¬ b ≤ 57 := fun h' => h ⟨h0, h'⟩
    clear h
    go_enter Tryd.func61, Tryd.ntmps61
    go_wp2
    go_ret
    exact ⟨rfl, rfl⟩
  · clear h
    go_enter Tryd.func61, Tryd.ntmps61
    go_wp2
    go_ret
    exact ⟨rfl, rfl⟩
def upTo (l : List Int) (i : Nat) : Prop := ∀ x ∈ l.take i, 48 ≤ x ∧ x ≤ 57
theorem upTo_succ {l : List Int} {i : Nat} (h : i < l.length) (h1 : upTo l i) (h2 : 48 ≤ l.getD i 0 ∧ l.getD i 0 ≤ 57) : upTo l (i + 1) := by
  unfold upTo
  rw [take_more h]
  intro x hx
  rcases List.mem_append.mp hx with h3 | h3
  · exact h1 x h3
  · have : x = l.getD i 0 := by simpa using h3
    rw [this]; exact h2
theorem all_c (s : ByteArray) (hs : s.size ≤ 140737488351232) (w : World) : Calls Tryd.prog 60 #[.string s, .func (.func 61) #[] #[]] w fun e w' => e = .returned (.bool (decide (allDig (bytesOf s)))) ∧ w = w' := by
  have HSZ : Aside ((bytesOf s).length = s.size) := bytesOf_length s
  obtain ⟨r, hr⟩ : ∃ r, decide (allDig (bytesOf s)) = r := ⟨_, rfl⟩
  have HR : Aside (decide (allDig (bytesOf s)) = r) := hr
  rw [hr]; clear hr
  go_enter Tryd.func60, Tryd.ntmps60
  go_wp2
  go_loopg [5] s.size (fun k s5 wr => ∃ i : Nat, i + k = s.size ∧ s5 = .int .i64 (i : Int) ∧ Aside (upTo (bytesOf s) i) ∧ w = wr)
  case atStart => exact ⟨0, by omega, rfl, (by show upTo _ _; intro x hx; simp at hx), rfl⟩
  case round =>
    obtain ⟨i, hi, rfl, hu, rfl⟩ := hrel
    cases gk with
    | zero =>
      obtain rfl : i = s.size := by omega
      have hr : r = true := by
        rw [← HR.out]; apply decide_eq_true
        intro x hx
        have := hu.out; unfold upTo at this; rw [← HSZ.out, List.take_length] at this; exact this x hx
      subst hr
      clear HR
      go_wp2
      go_ret
      exact ⟨rfl, rfl⟩
    | succ g =>
      have hi' : i < s.size := by omega
      obtain ⟨c, hc⟩ : ∃ c, s[i]'hi' = c := ⟨_, rfl⟩
      have HX : Aside ((bytesOf s).getD i 0 = (c.toNat : Int)) := by
        show _ = _
        rw [bytesOf_getD, List.getD_eq_getElem?_getD, List.getElem?_eq_getElem (by rw [Array.length_toList]; exact hi'), Option.getD_some]
        congr 1; rw [← hc]; rfl
      by_cases hd : 48 ≤ (c.toNat : Int) ∧ (c.toNat : Int) ≤ 57
      · have d0 := hd.1
        have d1 := hd.2
        clear hd
        go_wp2_with (go_at_call 61; refine (isDigit_yes _ d0 d1 _).mono ?_; rintro e w' ⟨rfl, rfl⟩)
        go_roundg g
        case measure => omega
        case rel => exact ⟨i + 1, by omega, by go_num, upTo_succ (by rw [HSZ.out]; exact hi') hu.out (by rw [HX.out]; exact ⟨d0, d1⟩), rfl⟩
      · have hr : r = false := by
          rw [← HR.out]; apply decide_eq_false
          intro h
          apply hd
          rw [← HX.out]
          have hil : i < (bytesOf s).length := by rw [HSZ.out]; exact hi'
          rw [List.getD_eq_getElem?_getD, List.getElem?_eq_getElem hil, Option.getD_some]
          exact h _ (List.getElem_mem hil)
        subst hr
        clear HR
        go_wp2_with (go_at_call 61; refine (isDigit_no _ hd _).mono ?_; rintro e w' ⟨rfl, rfl⟩)
        go_ret
        exact ⟨rfl, rfl⟩
theorem part_c (s : ByteArray) (g : Nat) (a b : Nat) (hab : a + 1 ≤ b) (hb : b ≤ s.size) (hab2 : b ≤ a + 15) (hs : s.size = 14) (hd : allDig (bytesOf s)) (w : World) (hc : w.cell? ⟨g, 0, none⟩ = some (.string s)) :
    Calls Tryd.prog 62 #[.int .i64 (a : Int), .int .i64 (b : Int), .pointer (some ⟨g, 0, none⟩)] w fun e w' => e = .returned (.int .i64 (valL (cut (bytesOf s) a b))) ∧ Below w.heap.size w w' := by
  have hx : bytesOf (s.extract a b) = cut (bytesOf s) a b := by
    unfold cut
    simp only [bytesOf, Lib.extract_data, List.map_take, List.map_drop]
  have HX : Aside (bytesOf (s.extract a b) = cut (bytesOf s) a b) := hx
  have hz : (s.extract a b).size = b - a := by rw [← bytesOf_length, hx, cut_length _ _ _ (by rw [bytesOf_length]; exact hb)]
  have hdd : ∀ x ∈ bytesOf (s.extract a b), 48 ≤ x ∧ x ≤ 57 := by rw [hx]; exact fun x h => hd x (cut_mem h)
  have HD : Aside (∀ x ∈ bytesOf (s.extract a b), 48 ≤ x ∧ x ≤ 57) := hdd
  have z1 : 1 ≤ (s.extract a b).size := by omega
  have z2 : (s.extract a b).size ≤ 15 := by omega
  have ab : (a : Int) ≤ (b : Int) := by omega
  have bs : (b : Int) ≤ (s.size : Int) := by omega
  clear hx hdd hz hd hs
  go_enter Tryd.func62, Tryd.ntmps62
  go_wp2_with (go_at_call 63; refine (atoi_c (s.extract a b) HD.out z1 z2 _).mono ?_; rintro e w1 ⟨rfl, hb⟩)
  go_ret
  exact ⟨ret_int (by rw [HX.out]), hb⟩
theorem cell_step {w w1 : World} (hb : Below w.heap.size w w1) {g : Nat} (hg : g < w.heap.size) {v : Value} (h : w.cell? ⟨g, 0, none⟩ = some v) : w1.cell? ⟨g, 0, none⟩ = some v := by
  rw [← h]; exact hb.cell (p := ⟨g, 0, none⟩) hg
theorem two2 {a : Int} {k : Bool} {x : Int × Bool} (h : x = (a, k)) : Ending.returned (.tuple #[.int .i64 a, .bool k]) = Ending.returned (.tuple #[.int .i64 x.1, .bool x.2]) := by rw [h]
def readM (l : List Int) : Int × Bool := if stampOk l then (stampT l, true) else (0, false)
set_option maxHeartbeats 2000000 in
theorem readStamp_dig (s : ByteArray) (hs : s.size = 14) (hd : allDig (bytesOf s)) (w : World) : Calls Tryd.prog 33 #[.string s] w fun e w' => e = .returned (.tuple #[.int .i64 (readM (bytesOf s)).1, .bool (readM (bytesOf s)).2]) ∧ Below w.heap.size w w' := by
  have hal : decide (allDig (bytesOf s)) = true := decide_eq_true hd
  have HAL : ∀ W, Calls Tryd.prog 60 #[.string s, .func (.func 61) #[] #[]] W fun e w' => e = .returned (.bool true) ∧ W = w' := by
    intro W; have := all_c s (by omega) W; rw [hal] at this; exact this
  have HS : Aside (s.size = 14) := hs
  have HD : Aside (allDig (bytesOf s)) := hd
  have n14 : ((s.size : Int) != 14) = false := by rw [hs]; rfl
  clear hs hd hal
  go_enter Tryd.func33, Tryd.ntmps33
  go_wp2_with (go_at_call 60; refine (HAL _).mono ?_; rintro e w' ⟨rfl, rfl⟩)
  refine (part_c s w.heap.size 0 4 (by omega) (by have := HS.out; omega) (by omega) HS.out HD.out _ (by simp)).mono ?_
  rintro e w0 ⟨rfl, hb0⟩
  have HB0 : Aside (Below w.heap.size w w0) := ((Below.refl _ _).alloc (Nat.le_refl _) _).trans (hb0.mono (by simp))
  have HG0 : Aside (w.heap.size < w0.heap.size) := by have := hb0.size; simp at this; show _ < _; omega
  have HC0 : Aside (w0.cell? ⟨w.heap.size, 0, none⟩ = some (.string s)) := cell_step hb0 (by simp) (by simp)
  clear hb0
  go_wp2_with fail
  refine (part_c s w.heap.size 4 6 (by omega) (by have := HS.out; omega) (by omega) HS.out HD.out _ (by exact HC0.out)).mono ?_
  rintro e w1 ⟨rfl, hb1⟩
  have HB1 : Aside (Below w.heap.size w w1) := HB0.out.trans (hb1.mono (Nat.le_of_lt HG0.out))
  have HG1 : Aside (w.heap.size < w1.heap.size) := Nat.lt_of_lt_of_le HG0.out hb1.size
  have HC1 : Aside (w1.cell? ⟨w.heap.size, 0, none⟩ = some (.string s)) := cell_step hb1 HG0.out HC0.out
  clear hb1
  go_wp2_with fail
  refine (part_c s w.heap.size 6 8 (by omega) (by have := HS.out; omega) (by omega) HS.out HD.out _ (by exact HC1.out)).mono ?_
  rintro e w2 ⟨rfl, hb2⟩
  have HB2 : Aside (Below w.heap.size w w2) := HB1.out.trans (hb2.mono (Nat.le_of_lt HG1.out))
  have HG2 : Aside (w.heap.size < w2.heap.size) := Nat.lt_of_lt_of_le HG1.out hb2.size
  have HC2 : Aside (w2.cell? ⟨w.heap.size, 0, none⟩ = some (.string s)) := cell_step hb2 HG1.out HC1.out
  clear hb2
  go_wp2_with fail
  refine (part_c s w.heap.size 8 10 (by omega) (by have := HS.out; omega) (by omega) HS.out HD.out _ (by exact HC2.out)).mono ?_
  rintro e w3 ⟨rfl, hb3⟩
  have HB3 : Aside (Below w.heap.size w w3) := HB2.out.trans (hb3.mono (Nat.le_of_lt HG2.out))
  have HG3 : Aside (w.heap.size < w3.heap.size) := Nat.lt_of_lt_of_le HG2.out hb3.size
  have HC3 : Aside (w3.cell? ⟨w.heap.size, 0, none⟩ = some (.string s)) := cell_step hb3 HG2.out HC2.out
  clear hb3
  go_wp2_with fail
  refine (part_c s w.heap.size 10 12 (by omega) (by have := HS.out; omega) (by omega) HS.out HD.out _ (by exact HC3.out)).mono ?_
  rintro e w4 ⟨rfl, hb4⟩
  have HB4 : Aside (Below w.heap.size w w4) := HB3.out.trans (hb4.mono (Nat.le_of_lt HG3.out))
  have HG4 : Aside (w.heap.size < w4.heap.size) := Nat.lt_of_lt_of_le HG3.out hb4.size
  have HC4 : Aside (w4.cell? ⟨w.heap.size, 0, none⟩ = some (.string s)) := cell_step hb4 HG3.out HC3.out
  clear hb4
  go_wp2_with fail
  refine (part_c s w.heap.size 12 14 (by omega) (by have := HS.out; omega) (by omega) HS.out HD.out _ (by exact HC4.out)).mono ?_
  rintro e w5 ⟨rfl, hb5⟩
  have HB5 : Aside (Below w.heap.size w w5) := HB4.out.trans (hb5.mono (Nat.le_of_lt HG4.out))
  have HG5 : Aside (w.heap.size < w5.heap.size) := Nat.lt_of_lt_of_le HG4.out hb5.size
  have HC5 : Aside (w5.cell? ⟨w.heap.size, 0, none⟩ = some (.string s)) := cell_step hb5 HG4.out HC4.out
  clear hb5
  go_wp2_with fail
  by_cases k : okC (valL (cut (bytesOf s) 0 4)) (valL (cut (bytesOf s) 4 6)) (valL (cut (bytesOf s) 6 8)) (valL (cut (bytesOf s) 8 10)) (valL (cut (bytesOf s) 10 12)) (valL (cut (bytesOf s) 12 14))
  · have HR : Aside (readM (bytesOf s) = (secs (valL (cut (bytesOf s) 0 4)) (valL (cut (bytesOf s) 4 6)) (valL (cut (bytesOf s) 6 8)) (valL (cut (bytesOf s) 8 10)) (valL (cut (bytesOf s) 10 12)) (valL (cut (bytesOf s) 12 14)), true)) := by
      show _ = _
      unfold readM; rw [if_pos ⟨by rw [bytesOf_length]; exact HS.out, HD.out, k⟩]; rfl
    refine (secondsOf_yes _ _ _ _ _ _ k _).mono ?_
    rintro e w6 ⟨rfl, hb6⟩
    have HB6 : Aside (Below w.heap.size w w6) := HB5.out.trans (hb6.mono (Nat.le_of_lt HG5.out))
    clear hb6
    go_wp2
    go_ret2
    exact ⟨two2 HR.out, HB6.out⟩
  · have HR : Aside (readM (bytesOf s) = (0, false)) := by
      show _ = _
      unfold readM; rw [if_neg fun c => k c.2.2]
    refine (secondsOf_no _ _ _ _ _ _ k _).mono ?_
    rintro e w6 ⟨rfl, hb6⟩
    have HB6 : Aside (Below w.heap.size w w6) := HB5.out.trans (hb6.mono (Nat.le_of_lt HG5.out))
    clear hb6
    go_wp2
    go_ret2
    exact ⟨two2 HR.out, HB6.out⟩
theorem readStamp_len (s : ByteArray) (hs : ¬ s.size = 14) (w : World) : Calls Tryd.prog 33 #[.string s] w fun e w' => e = .returned (.tuple #[.int .i64 0, .bool false]) ∧ Below w.heap.size w w' := by
  have n14 : ((s.size : Int) != 14) = true := by simp; omega
  have n15 : ((s.size : Int) == 14) = false := by simp; omega
  go_enter Tryd.func33, Tryd.ntmps33
  go_wp2
  go_ret2
  exact ⟨rfl, (Below.refl _ _).alloc (Nat.le_refl _) _⟩
theorem readStamp_not (s : ByteArray) (hs : s.size = 14) (hd : ¬ allDig (bytesOf s)) (w : World) : Calls Tryd.prog 33 #[.string s] w fun e w' => e = .returned (.tuple #[.int .i64 0, .bool false]) ∧ Below w.heap.size w w' := by
  have hal : decide (allDig (bytesOf s)) = false := decide_eq_false hd
  have HAL : ∀ W, Calls Tryd.prog 60 #[.string s, .func (.func 61) #[] #[]] W fun e w' => e = .returned (.bool false) ∧ W = w' := by
    intro W; have := all_c s (by omega) W; rw [hal] at this; exact this
  have n14 : ((s.size : Int) != 14) = false := by rw [hs]; rfl
  clear hs hd hal
  go_enter Tryd.func33, Tryd.ntmps33
  go_wp2_with (go_at_call 60; refine (HAL _).mono ?_; rintro e w' ⟨rfl, rfl⟩)
  go_ret2
  exact ⟨rfl, (Below.refl _ _).alloc (Nat.le_refl _) _⟩
def impl_ReadStamp.f (s : ByteArray) : Option (Int × Bool) := if s.size ≤ 140737488351232 then some (readM (bytesOf s)) else none
theorem impl_ReadStamp.calls (s : ByteArray) (r1 : Int) (r2 : Bool) (w : World) (h : impl_ReadStamp.f s = some (r1, r2)) : Calls Tryd.prog 33 #[.string s] w fun e w' => e = .returned (.tuple #[.int .i64 r1, .bool r2]) ∧ Below w.heap.size w w' := by
  unfold impl_ReadStamp.f at h
  split at h
  · have h := Option.some.inj h
    by_cases hs : s.size = 14
    · by_cases hd : allDig (bytesOf s)
      · have := readStamp_dig s hs hd w
        rw [h] at this; exact this
      · have e : readM (bytesOf s) = (0, false) := by unfold readM; rw [if_neg fun c => hd c.2.1]
        rw [e] at h
        obtain ⟨rfl, rfl⟩ := Prod.mk.inj h
        exact readStamp_not s hs hd w
    · have e : readM (bytesOf s) = (0, false) := by unfold readM; rw [if_neg fun c => hs (by have := c.1; rw [bytesOf_length] at this; exact this)]
      rw [e] at h
      obtain ⟨rfl, rfl⟩ := Prod.mk.inj h
      exact readStamp_len s hs w
  · cases h
end Go.Proofs.YtgjbhdfncappdaaDoor.Foreign
