/- What the library's Atoi tells of a text of digits. Condition: one to fifteen digits. -/
import Derived.Test.YtgjbhdfncappdaaDoorBytesMem
import Derived.Test.YtgjbhdfncappdaaDoorPads
import Derived.Outline
namespace Go.Proofs.YtgjbhdfncappdaaDoor.Foreign
set_option linter.unusedVariables false
set_option linter.unusedSimpArgs false
open Go.RowKit Go.Proofs.YtgjbhdfncappdaaDoor.Pads Go.Proofs.YtgjbhdfncappdaaDoorW.PrintWords Go.Proofs.YtgjbhdfncappdaaDoorW.PrintLast Go.Proofs.YtgjbhdfncappdaaDoorW.PrintMore
theorem take_more {xs : List Int} {i : Nat} (h : i < xs.length) : xs.take (i + 1) = xs.take i ++ [xs.getD i 0] := by
  rw [List.getD_eq_getElem?_getD, List.getElem?_eq_getElem h, Option.getD_some]
  exact List.take_succ_eq_append_getElem h
theorem valL_take {xs : List Int} (hd : ∀ x ∈ xs, 48 ≤ x ∧ x ≤ 57) (hl : xs.length ≤ 15) (i : Nat) (hi : i ≤ xs.length) : 0 ≤ valL (xs.take i) ∧ valL (xs.take i) ≤ 1000000000000000 := by
  have h := valL_bd i (xs.take i) (by simp; omega) (fun x hx => hd x (List.mem_of_mem_take hx))
  have : (10 : Int) ^ i ≤ 10 ^ 15 := by
    have := Nat.pow_le_pow_right (show 0 < 10 by decide) (show i ≤ 15 by omega)
    exact_mod_cast this
  have e : (10 : Int) ^ 15 = 1000000000000000 := by decide
  omega
theorem two_nil {a b : Int} (h : a = b) : Ending.returned (.tuple #[.int .i64 a, .nilIface]) = Ending.returned (.tuple #[.int .i64 b, .nilIface]) := by rw [h]
set_option maxHeartbeats 2000000 in
theorem inner_atoi (s : ByteArray) (hd : ∀ x ∈ bytesOf s, 48 ≤ x ∧ x ≤ 57) (h1 : 1 ≤ s.size) (h2 : s.size ≤ 15) (w : World) :
    Calls Tryd.prog 76 #[.string s] w fun e w' => e = .returned (.tuple #[.int .i64 (valL (bytesOf s)), .nilIface]) ∧ Below w.heap.size w w' := by
  have hcv := Lib.run_convert_string_bytes (P := Tryd.prog) w 9 24 5 s Tryd.underlying9 Tryd.underlying24 Tryd.underlying5
  have h0 : 0 < s.size := by omega
  obtain ⟨c, hc⟩ : ∃ c, s[0]'h0 = c := ⟨_, rfl⟩
  have hcd : 48 ≤ (c.toNat : Int) ∧ (c.toNat : Int) ≤ 57 := by
    apply hd
    rw [← hc]
    simp only [bytesOf, List.mem_map]
    exact ⟨s[0]'h0, by rw [Array.mem_toList_iff]; exact Array.getElem_mem _, rfl⟩
  have c45 : ((c.toNat : Int) == 45) = false := beq_eq_false_iff_ne.mpr (by omega)
  have c43 : ((c.toNat : Int) == 43) = false := beq_eq_false_iff_ne.mpr (by omega)
  have HD : Aside (∀ x ∈ bytesOf s, 48 ≤ x ∧ x ≤ 57) := hd
  have l19 : (s.size : Int) < 19 := by omega
  have l0 : (0 : Int) < (s.size : Int) := by omega
  clear hd hcd
  go_enter Tryd.func76, Tryd.ntmps76
  go_wp2
  have HB0 : Aside (BytesAt w (Lib.bytesWorld w 5 s) (bytesOf s)) := BytesAt.start w 5 s
  obtain ⟨W1, hW1⟩ : ∃ W1, W1 = Lib.bytesWorld w 5 s := ⟨_, rfl⟩
  rw [← hW1]
  have HB : Aside (BytesAt w W1 (bytesOf s)) := by rw [hW1]; exact HB0
  have HSZ : Aside ((bytesOf s).length = s.size) := bytesOf_length s
  clear hcv HB0 hW1
  go_loopg [6, 49] s.size (fun k s6 s49 wr => ∃ i : Nat, i + k = s.size ∧ s49 = .int .i64 (i : Int) ∧ s6 = .int .i64 (valL ((bytesOf s).take i)) ∧ W1 = wr)
  case atStart => exact ⟨0, by omega, rfl, rfl, rfl⟩
  case round =>
    obtain ⟨i, hi, rfl, rfl, rfl⟩ := hrel
    have hv := valL_take HD.out (by rw [HSZ.out]; exact h2) i (by rw [HSZ.out]; omega)
    obtain ⟨v0, v1⟩ := hv
    cases gk with
    | zero =>
      obtain rfl : i = s.size := by omega
      go_wp2
      go_ret2
      exact ⟨two_nil (by rw [← HSZ.out, List.take_length]), HB.out.below⟩
    | succ g =>
      have hi' : i < s.size := by omega
      have hil : i < (bytesOf s).length := by rw [HSZ.out]; exact hi'
      have hcell := HB.out.cell i hil
      obtain ⟨x, hx⟩ : ∃ x, (bytesOf s).getD i 0 = x := ⟨_, rfl⟩
      rw [hx] at hcell
      have hxb : 48 ≤ x ∧ x ≤ 57 := by
        rw [← hx, List.getD_eq_getElem?_getD, List.getElem?_eq_getElem hil]; exact HD.out _ (List.getElem_mem hil)
      obtain ⟨x0, x1⟩ := hxb
      have HV : Aside (valL ((bytesOf s).take (i + 1)) = 10 * valL ((bytesOf s).take i) + (x - 48)) := by
        show _ = _
        rw [take_more hil, valL_snoc, hx]
      clear hx hil
      obtain ⟨v, hv⟩ : ∃ v, valL ((bytesOf s).take i) = v := ⟨_, rfl⟩
      rw [hv] at v0 v1
      simp only [hv]
      have HVV : Aside (valL ((bytesOf s).take i) = v) := hv
      clear hv
      go_wp2
      go_roundg g
      case measure => omega
      case rel => exact ⟨i + 1, by omega, by go_num, by rw [HV.out, HVV.out]; congr 1; omega, rfl⟩
theorem atoi_c (s : ByteArray) (hd : ∀ x ∈ bytesOf s, 48 ≤ x ∧ x ≤ 57) (h1 : 1 ≤ s.size) (h2 : s.size ≤ 15) (w : World) :
    Calls Tryd.prog 63 #[.string s] w fun e w' => e = .returned (.tuple #[.int .i64 (valL (bytesOf s)), .nilIface]) ∧ Below w.heap.size w w' := by
  go_enter Tryd.func63, Tryd.ntmps63
  go_wp2_with (go_at_call 76; refine (inner_atoi s hd h1 h2 _).mono ?_; rintro e w1 ⟨rfl, hb⟩)
  go_ret2
  exact ⟨rfl, hb⟩
end Go.Proofs.YtgjbhdfncappdaaDoor.Foreign
