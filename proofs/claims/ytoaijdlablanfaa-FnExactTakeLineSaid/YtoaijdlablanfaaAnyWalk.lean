/- What the library's IndexAny tells of the two ends of a line, for every text, as a function that the printed walks may call. Condition: a text that has room. -/
import Derived.Test.YtoaijdlablanfaaProg
import Derived.Test.YtoaijdlablanfaaShelf
import Derived.Test.YtoaijdlablanfaaWMore
import Derived.Below
import Derived.Outline
import Derived.Deep.LoopGhost
import Derived.WalkKit
import Derived.RegionTactic
import Derived.ChangeAlike
import Derived.Deep.RegionWith
import Derived.WalkMore
import Derived.KernelRfl
import Derived.Laws.RangeAny
import Derived.Laws.RangeString
import Derived.Lib.OthersKept
import Derived.Deep.WholeRow
import Derived.Lib.IndexAny
namespace Go.Proofs.Ytoaijdlablanfaa.Foreign
set_option linter.unusedVariables false
set_option linter.unusedSimpArgs false
open Go.RowKit Go.Lib Go.Proofs.YtoaijdlablanfaaW.PrintWords Go.Proofs.YtoaijdlablanfaaW.PrintLast Go.Proofs.YtoaijdlablanfaaW.PrintMore
theorem decode_tail (s : ByteArray) (i k : Nat) (h1 : 1 ≤ k) (h2 : k < (Utf8.decode s i).2) : i + k < s.size ∧ 128 ≤ (s.get! (i + k)).toNat := by
  have hb : ∀ k, (s.get! (i + k)).toNat < 256 := fun k => (s.get! (i + k)).toNat_lt
  revert h2
  simp only [Utf8.decode]
  repeat' split
  all_goals intro h2
  all_goals (simp only [Bool.and_eq_true, decide_eq_true_eq, beq_iff_eq, ge_iff_le] at *)
  all_goals first
    | omega
    | (rcases (show k = 1 ∨ k = 2 ∨ k = 3 by omega) with rfl | rfl | rfl <;> omega)
theorem decode_valid (s : ByteArray) (i : Nat) : Utf8.valid ((Utf8.decode s i).1 : Int) = true := by
  have hb : ∀ k, (s.get! (i + k)).toNat < 256 := fun k => (s.get! (i + k)).toNat_lt
  have h0 := hb 0; have h1 := hb 1; have h2 := hb 2; have h3 := hb 3
  simp only [Utf8.decode]
  repeat' split
  all_goals first
    | (simp only [Bool.and_eq_true, decide_eq_true_eq, beq_iff_eq, ge_iff_le] at *; rename_i h; exact h.2)
    | (simp only [Utf8.valid, Utf8.runeError, Bool.or_eq_true, Bool.and_eq_true, decide_eq_true_eq]; omega)
    | (simp only [Bool.and_eq_true, decide_eq_true_eq, beq_iff_eq, ge_iff_le] at *; simp only [Utf8.valid, Utf8.runeError, Bool.or_eq_true, Bool.and_eq_true, decide_eq_true_eq]; omega)
    | decide
    | (show Utf8.valid ((65533 : Nat) : Int) = true; decide)
def anyL : List Int → Int
  | [] => -1
  | x :: l => if x = 13 ∨ x = 10 then 0 else if anyL l = -1 then -1 else anyL l + 1
def crlf : ByteArray := ⟨#[13, 10]⟩
theorem indexAny_L : ∀ l : List UInt8, Lib.indexAny l crlf.data.toList = anyL (l.map fun b => (b.toNat : Int))
  | [] => rfl
  | b :: l => by
    have ih := indexAny_L l
    rw [List.map_cons, anyL, Lib.indexAny, ih]
    have e : crlf.data.toList.contains b = decide ((b.toNat : Int) = 13 ∨ (b.toNat : Int) = 10) := by
      show ([13, 10] : List UInt8).contains b = _
      by_cases h1 : b = 13
      · subst h1; rfl
      · by_cases h2 : b = 10
        · subst h2; rfl
        · have n1 : b.toNat ≠ 13 := fun h => h1 (UInt8.toNat_inj.1 h)
          have n2 : b.toNat ≠ 10 := fun h => h2 (UInt8.toNat_inj.1 h)
          rw [decide_eq_false (by omega)]
          simp [h1, h2]
    rw [e]
    by_cases c : (b.toNat : Int) = 13 ∨ (b.toNat : Int) = 10
    · rw [if_pos c, decide_eq_true c]; rfl
    · rw [if_neg c, decide_eq_false c]
      simp only [beq_iff_eq]
      rfl
theorem valid_rune {c : Nat} (h : Utf8.valid (c : Int) = true) : Lib.validRune (c : Int) = true := by
  simp only [Utf8.valid, Bool.or_eq_true, Bool.and_eq_true, decide_eq_true_eq] at h
  unfold Lib.validRune
  exact decide_eq_true (by omega)
set_option maxRecDepth 100000 in
theorem rune_error (w : World) : Calls Try.prog 71 #[.string crlf, .int .i32 65533] w fun e w' => e = .returned (.int .i64 (-1)) ∧ Below w.heap.size w w' := by
  have hz : crlf.size = 2 := rfl
  go_enter Try.func71, Try.ntmps71
  go_wp2
  go_loopg [5, 6] 2 (fun g _ _ wx => ∃ i : Nat, i + g = 2 ∧ wx = w.iter crlf i)
  case atStart => exact ⟨0, by omega, rfl⟩
  case round =>
    obtain ⟨i, hig, rfl⟩ := hrel
    match gk, i, hig with
    | 0, 2, _ =>
      have hnx := fun ty => run_next_end (P := Try.prog) w crlf 2 ty (by decide)
      go_wp2
      go_ret
      exact ⟨rfl, (Below.refl _ _).alloc (Nat.le_refl _) _⟩
    | 2, 0, _ =>
      have hnx : ∀ ty, (Instr.next (.pointer (some ⟨w.heap.size, 0, none⟩)) true ty).run Try.prog (w.iter crlf 0) = .ok (.tuple #[.bool true, .int .i64 0, .int .i32 13]) (w.iter crlf 1) := fun ty => run_next_ascii (P := Try.prog) w crlf 0 ty (by decide) (by decide)
      go_wp2
      go_roundg 1
      case measure => omega
      case rel => exact ⟨1, by omega, rfl⟩
    | 1, 1, _ =>
      have hnx : ∀ ty, (Instr.next (.pointer (some ⟨w.heap.size, 0, none⟩)) true ty).run Try.prog (w.iter crlf 1) = .ok (.tuple #[.bool true, .int .i64 1, .int .i32 10]) (w.iter crlf 2) := fun ty => run_next_ascii (P := Try.prog) w crlf 1 ty (by decide) (by decide)
      go_wp2
      go_roundg 0
      case measure => omega
      case rel => exact ⟨2, by omega, rfl⟩
set_option maxRecDepth 100000 in
theorem enc_two {c : Nat} (h0 : 128 ≤ c) (h1 : c < 2048) : Utf8.encode (c : Int) = ⟨#[UInt8.ofNat (192 + c / 64), UInt8.ofNat (128 + c % 64)]⟩ := by
  have hv : Utf8.valid (c : Int) = true := by unfold Utf8.valid; simp; omega
  unfold Utf8.encode
  rw [if_pos hv, Int.toNat_natCast, if_neg (by omega), if_pos (by omega)]
set_option maxRecDepth 100000 in
theorem enc_more {c : Nat} (h1 : 2048 ≤ c) (hv : Utf8.valid (c : Int) = true) : 3 ≤ (Utf8.encode (c : Int)).size ∧ (Utf8.encode (c : Int)).size ≤ 4 := by
  unfold Utf8.encode
  rw [if_pos hv, Int.toNat_natCast, if_neg (by omega), if_neg (by omega)]
  split
  · exact ⟨by show 3 ≤ 3; decide, by show 3 ≤ 4; decide⟩
  · exact ⟨by show 3 ≤ 4; decide, by show 4 ≤ 4; decide⟩
set_option maxRecDepth 100000 in
theorem rune_more {c : Nat} (h1 : 2048 ≤ c) (hv : Utf8.valid (c : Int) = true) (hne : c ≠ 65533) (w : World) : Calls Try.prog 71 #[.string crlf, .int .i32 (c : Int)] w fun e w' => e = .returned (.int .i64 (-1)) ∧ Below w.heap.size w w' := by
  have hz : crlf.size = 2 := rfl
  have c0 : (0 : Int) ≤ (c : Int) := by omega
  have c1 : ¬ (c : Int) < 128 := by omega
  have c2 : ((c : Int) == 65533) = false := beq_eq_false_iff_ne.mpr (by omega)
  obtain ⟨z0, z1⟩ := enc_more h1 hv
  have hvr : Lib.validRune (c : Int) = true := valid_rune hv
  obtain ⟨E, hE⟩ : ∃ E, Utf8.encode (c : Int) = E := ⟨_, rfl⟩
  rw [hE] at z0 z1
  go_enter Try.func71, Try.ntmps71
  go_wp2_with (go_at_call 85; refine (Try.utf8_ValidRune _ _).mono ?_; rintro e w' ⟨rfl, hw⟩; rw [hw, hvr])
  go_step3
  go_wp2
  go_loopg [9, 10] 0 (fun g s9 _ wx => s9 = .int .i64 ((E.size : Int) - 1) ∧ wx = w)
  case atStart => exact ⟨rfl, rfl⟩
  case round =>
    obtain ⟨rfl, rfl⟩ := hrel
    have z2 : ¬ (E.size : Int) - 1 < 2 := by omega
    go_wp2
    go_ret
    exact ⟨rfl, Below.refl _ _⟩
set_option maxHeartbeats 4000000 in
set_option maxRecDepth 1000000 in
theorem rune_two {c : Nat} (h0 : 128 ≤ c) (h1 : c < 2048) (w : World) : Calls Try.prog 71 #[.string crlf, .int .i32 (c : Int)] w fun e w' => e = .returned (.int .i64 (-1)) ∧ Below w.heap.size w w' := by
  have hz : crlf.size = 2 := rfl
  have c0 : (0 : Int) ≤ (c : Int) := by omega
  have c1 : ¬ (c : Int) < 128 := by omega
  have c2 : ((c : Int) == 65533) = false := beq_eq_false_iff_ne.mpr (by omega)
  have hvr : Lib.validRune (c : Int) = true := by unfold Lib.validRune; exact decide_eq_true (by omega)
  obtain ⟨u, v, hE, hv⟩ : ∃ u v : UInt8, Utf8.encode (c : Int) = ⟨#[u, v]⟩ ∧ 128 ≤ v.toNat := ⟨_, _, enc_two h0 h1, by rw [UInt8.toNat_ofNat']; omega⟩
  have hi : ∀ W, Calls Try.prog 84 #[.string (⟨#[]⟩ : ByteArray), .int .u8 (v.toNat : Int)] W fun e w' => e = .returned (.int .i64 (-1)) ∧ w' = W := fun W => Try.strings_IndexByte (⟨#[]⟩ : ByteArray) (v.toNat : Int) W
  have v10 : ((v.toNat : Int) == 10) = false := beq_eq_false_iff_ne.mpr (by omega)
  have v10' : ((10 : Int) == (v.toNat : Int)) = false := beq_eq_false_iff_ne.mpr (by omega)
  have v10b : ((10 : Int) != (v.toNat : Int)) = true := bne_iff_ne.mpr (by omega)
  have hv1 : (⟨#[u, v]⟩ : ByteArray)[1]'(by show 1 < 2; decide) = v := rfl
  have hc1 : crlf[1]'(by decide) = 10 := rfl
  have hs2 : crlf.extract 2 2 = ⟨#[]⟩ := rfl
  go_enter Try.func71, Try.ntmps71
  go_wp2_with (go_at_call 85; refine (Try.utf8_ValidRune _ _).mono ?_; rintro e w' ⟨rfl, hw⟩; rw [hw, hvr])
  go_step3
  go_wp2
  go_loopg [9, 10] 0 (fun g s9 _ wx => s9 = .int .i64 1 ∧ wx = w)
  case atStart => exact ⟨rfl, rfl⟩
  case round =>
    obtain ⟨rfl, rfl⟩ := hrel
    go_wp2
    go_step3
    go_wp2
    go_region
    go_wp2
    go_region_with (go_at_call 84; refine (hi _).mono ?_; rintro e w' ⟨rfl, hw⟩; rw [hw])
    all_goals (
      go_wp2
      rw [Exit.noGoto_ret]
      go_wp2
      rw [Exit.noGoto_ret]
      go_wp2
      go_ret
      exact ⟨rfl, by repeat (with_reducible first | exact Below.refl _ _ | apply below_drew1)⟩)
set_option maxRecDepth 100000 in
theorem rune_high {c : Nat} (h0 : 128 ≤ c) (hv : Utf8.valid (c : Int) = true) (w : World) : Calls Try.prog 71 #[.string crlf, .int .i32 (c : Int)] w fun e w' => e = .returned (.int .i64 (-1)) ∧ Below w.heap.size w w' := by
  by_cases h1 : c = 65533
  · subst h1; exact rune_error w
  · by_cases h2 : c < 2048
    · exact rune_two h0 h2 w
    · exact rune_more (by omega) hv h1 w
theorem crlf_has (b : UInt8) : crlf.data.toList.contains b = decide (b.toNat = 13 ∨ b.toNat = 10) := by
  show ([13, 10] : List UInt8).contains b = _
  by_cases h1 : b = 13
  · subst h1; rfl
  · by_cases h2 : b = 10
    · subst h2; rfl
    · have n1 : b.toNat ≠ 13 := fun h => h1 (UInt8.toNat_inj.1 h)
      have n2 : b.toNat ≠ 10 := fun h => h2 (UInt8.toNat_inj.1 h)
      rw [decide_eq_false (by omega)]
      simp [h1, h2]
theorem no_past {s : ByteArray} {i : Nat} (h : NoAny s.data.toList crlf.data.toList i) (hi : i < s.size) (hb : 128 ≤ (s[i]'hi).toNat) : NoAny s.data.toList crlf.data.toList (i + (Utf8.decode s i).2) := by
  intro j b hj hjb
  rw [crlf_has]
  by_cases c : j < i
  · have := h j b c hjb
    rw [crlf_has] at this; exact this
  · by_cases e : j = i
    · subst e
      rw [Lib.data_getElem? s j hi] at hjb
      obtain rfl := Option.some.inj hjb
      exact decide_eq_false (by omega)
    · obtain ⟨h1, h2⟩ := decode_tail s i (j - i) (by omega) (by omega)
      rw [show i + (j - i) = j by omega] at h1 h2
      rw [Lib.data_getElem? s j h1] at hjb
      obtain rfl := Option.some.inj hjb
      have := get_at s j h1
      rw [Nat.add_zero] at this
      rw [this] at h2
      exact decide_eq_false (by omega)
set_option maxHeartbeats 4000000 in
set_option maxRecDepth 100000 in
theorem short_any (s : ByteArray) (h8 : s.size ≤ 8) (w : World) : Calls Try.prog 46 #[.string s, .string crlf] w fun e w' => e = .returned (.int .i64 (Lib.indexAny s.data.toList crlf.data.toList)) ∧ Below w.heap.size w w' := by
  have hz : crlf.size = 2 := rfl
  have hemp : crlf.toList.isEmpty = false := by rw [Lib.toList_data]; rfl
  have h8z : decide ((8 : Int) < (s.size : Int)) = false := decide_eq_false (by omega)
  go_enter Try.func46, Try.ntmps46
  go_wp2_with (go_at_call 72; refine (Try.strings_shouldUseASCIISet _ _).mono ?_; rintro e w' ⟨rfl, hw⟩; rw [hw, h8z])
  go_loopg [9, 10] s.size (fun g _ _ wx => ∃ i : Nat, i ≤ s.size ∧ s.size ≤ i + g ∧ Aside (wx.heap[w.heap.size]? = some (.stringIter s i)) ∧ Aside (Below w.heap.size w wx) ∧ Aside (NoAny s.data.toList crlf.data.toList i))
  case atStart => exact ⟨0, by omega, by omega, World.iter_heap w s 0, (Below.refl _ _).alloc (Nat.le_refl _) _, NoAny.zero _ _⟩
  case round =>
    obtain ⟨i, his, hig, HI, HB, HN⟩ := hrel
    by_cases hi : i < s.size
    · cases gk with
      | zero => omega
      | succ g =>
        have hnx := fun ty => run_next_any_at (P := Try.prog) wr w.heap.size s i ty HI.out hi
        have hx : s.data.toList[i]? = some (s[i]'hi) := Lib.data_getElem? s i hi
        by_cases b128 : (s[i]'hi).toNat < 128
        · rw [decode_ascii s i hi b128] at hnx
          obtain ⟨x, hxe⟩ : ∃ x, s[i]'hi = x := ⟨_, rfl⟩
          rw [hxe] at hnx hx b128
          have HX : Aside (s.data.toList[i]? = some x) := hx
          have hback : ((x.toNat : Int)).toNat.toUInt8 = x := by simp
          have hcon := Lib.contains_iff_indexByte crlf.data.toList x
          clear hxe hx
          cases hin : crlf.data.toList.contains x
          · rw [hin] at hcon
            have hlt : ¬ ((0 : Int) ≤ Lib.indexByte crlf.data.toList x) := of_decide_eq_false hcon.symm
            have HIN : Aside (crlf.data.toList.contains x = false) := hin
            clear hcon hin
            go_wp2_with (go_at_call 71; refine (Try.strings_IndexRune_ascii _ _ _ (by omega) (by omega)).mono ?_; rintro e w' ⟨rfl, hw⟩; rw [hw, hback])
            go_roundg g
            case measure => omega
            case rel => exact ⟨i + 1, by omega, by omega, iterAt_heap _ _ _ _ _ HI.out, below_iterAt HB.out (Nat.le_refl _) _ _, HN.out.succ HX.out HIN.out⟩
          · rw [hin] at hcon
            have hge : (0 : Int) ≤ Lib.indexByte crlf.data.toList x := of_decide_eq_true hcon.symm
            have HIN : Aside (crlf.data.toList.contains x = true) := hin
            clear hcon hin
            go_wp2_with (go_at_call 71; refine (Try.strings_IndexRune_ascii _ _ _ (by omega) (by omega)).mono ?_; rintro e w' ⟨rfl, hw⟩; rw [hw, hback])
            go_ret
            exact ⟨by rw [Lib.indexAny_hit HN.out HX.out HIN.out]; rfl, below_iterAt HB.out (Nat.le_refl _) _ _⟩
        · have HN2 : Aside (NoAny s.data.toList crlf.data.toList (i + (Utf8.decode s i).2)) := no_past HN.out hi (by omega)
          obtain ⟨hc, hd⟩ := decode_high s i hi (by omega)
          have hv := decode_valid s i
          have hle : i + (Utf8.decode s i).2 ≤ s.size := by
            by_cases h1 : (Utf8.decode s i).2 = 1
            · omega
            · have := (decode_tail s i ((Utf8.decode s i).2 - 1) (by omega) (by omega)).1; omega
          obtain ⟨c, hce⟩ : ∃ c, (Utf8.decode s i).1 = c := ⟨_, rfl⟩
          obtain ⟨d, hde⟩ : ∃ d, (Utf8.decode s i).2 = d := ⟨_, rfl⟩
          rw [hce] at hnx hc hv
          rw [hde] at hnx hd HN2 hle
          have HC : Aside (128 ≤ c) := hc
          have HV : Aside (Utf8.valid (c : Int) = true) := hv
          clear hce hde hx b128 hc hv
          go_wp2_with (go_at_call 71; refine (rune_high HC.out HV.out _).mono ?_; rintro e w2 ⟨rfl, hb2⟩; have HI2 : Aside (w2.heap[w.heap.size]? = some (.stringIter s (i + d))) := blk_below (iterAt_heap _ _ _ _ _ HI.out) hb2; have HB2 : Aside (Below w.heap.size w w2) := (below_iterAt HB.out (Nat.le_refl _) s (i + d)).trans (hb2.mono (below_iterAt HB.out (Nat.le_refl _) s (i + d)).size); clear hb2)
          go_roundg g
          case measure => omega
          case rel => exact ⟨i + d, by omega, by omega, HI2, HB2, HN2⟩
    · obtain rfl : i = s.size := by omega
      have hnx := fun ty => run_next_end_at (P := Try.prog) wr w.heap.size s s.size ty HI.out hi
      go_wp2
      go_ret
      exact ⟨by rw [Lib.indexAny_none (by rw [← Lib.size_eq]; exact HN.out)]; rfl, HB.out⟩
def strings_IndexAny.f (s c : ByteArray) : Option Int := if c = crlf ∧ s.size ≤ 4000000000 then some (anyL (bytesOf s)) else none
theorem strings_IndexAny.calls (s c : ByteArray) (r : Int) (w : World) (h : strings_IndexAny.f s c = some r) : Calls Try.prog 46 #[.string s, .string c] w fun e w' => e = .returned (.int .i64 r) ∧ Below w.heap.size w w' := by
  unfold strings_IndexAny.f at h
  split at h
  · rename_i hc
    obtain rfl := Option.some.inj h
    obtain ⟨rfl, hz⟩ := hc
    have e := indexAny_L s.data.toList
    have e : Lib.indexAny s.data.toList crlf.data.toList = anyL (bytesOf s) := e
    rw [← e]
    by_cases h8 : s.size ≤ 8
    · exact short_any s h8 w
    · refine (Try.strings_IndexAny_long (zero_of_info (show (Try.prog.info? 82).map (fun i => (i.zero, i.size)) = some (some (.agg (Array.replicate 256 (.bool false))), 256) by kernel_rfl)).1 s crlf w (by decide) (by omega) (by omega) (by decide) (by
        intro j b hj
        have hm := List.mem_of_getElem? hj
        have hm : b ∈ ([13, 10] : List UInt8) := hm
        simp only [List.mem_cons, List.not_mem_nil, or_false] at hm
        rcases hm with rfl | rfl <;> decide)).mono ?_
      rintro e w' ⟨rfl, rfl⟩
      exact ⟨rfl, ((Below.refl _ _).alloc (Nat.le_refl _) _).alloc (by simp) _⟩
  · cases h
end Go.Proofs.Ytoaijdlablanfaa.Foreign
