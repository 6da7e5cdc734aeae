/- The law FnExactReadWarcDate answers true for every text: both read a date of records alike. No condition. -/
import Derived.Test.YtgjbhdfncappdaaDoorQFnExactReadWarcDatex4
import Derived.Test.YtgjbhdfncappdaaDoorBase
namespace Go.Proofs.YtgjbhdfncappdaaDoor.Pure
open Go.RowKit Go.Proofs.YtgjbhdfncappdaaDoor.PFnExactReadWarcDate Go.Proofs.YtgjbhdfncappdaaDoorW.PrintWords Go.Proofs.YtgjbhdfncappdaaDoorW.PrintLast Go.Proofs.YtgjbhdfncappdaaDoorW.PrintMore Go.Proofs.YtgjbhdfncappdaaDoor.Base
set_option linter.unusedVariables false
set_option linter.unusedSimpArgs false

/-! Numbers in decimal: the reference's DecText, and with so many digits -/
open Go.Proofs.YtgjbhdfncappdaaDoor.Dates Go.Proofs.YtgjbhdfncappdaaDoor.Pads Go.Proofs.YtgjbhdfncappdaaDoor.Formats Go.Proofs.YtgjbhdfncappdaaDoor.Finds Go.Proofs.YtgjbhdfncappdaaDoor.Places Go.Proofs.YtgjbhdfncappdaaDoor.Reads Go.Proofs.YtgjbhdfncappdaaDoor.Https Go.Proofs.YtgjbhdfncappdaaDoor.Foreign
theorem decL_len : ∀ (f : Nat) (n : Int), (decL f n).length ≤ f + 1
  | 0, _ => by simp [decL]
  | f + 1, n => by
    simp only [decL]; split
    · simp
    · have := decL_len f (n / 10); simp; omega
theorem spec_dec : ∀ (f : Nat) (n : Int), 0 ≤ n → n ≤ 999999999999999 → n < 10 ^ (f + 1) → f ≤ 20 → Ev (fun k => spec_DecText.f k n) (strOfNums (decL f n))
  | f, n, h0, h1, hf, hq => by
    refine Ev.step (fun k => spec_DecText.f.eq_2 n k) (Ev.neg (by omega) ?_)
    rw [show decide (n > 999999999999999) = false from decide_eq_false (by omega)]
    refine Ev.step (fun k => spec_DecText.j0.eq_2 n false k) (Ev.neg (by simp) ?_)
    by_cases c : n < 10
    · refine Ev.pos c ?_
      rw [w64 (by omega) (by omega), show (48 + n) % 256 = 48 + n by omega]
      have e : decL f n = [48 + n] := by
        cases f with
        | zero => simp only [decL]; congr 1; omega
        | succ f => simp only [decL]; rw [if_pos c]
      rw [e]; exact Ev.now _
    · refine Ev.neg c ?_
      match f, hf, hq with
      | 0, hf, _ => have hf : n < 10 := by simpa using hf
                    exact absurd hf c
      | f + 1, hf, hq =>
        have h2 : n / 10 < 10 ^ (f + 1) := by
          have : (10 : Int) ^ (f + 1 + 1) = 10 ^ (f + 1) * 10 := Int.pow_succ ..
          omega
        have ih := spec_dec f (n / 10) (by omega) (by omega) h2 (by omega)
        have e1 : wrap64 (Int.tdiv n 10) = n / 10 := by rw [Int.tdiv_eq_ediv_of_nonneg h0, w64 (by omega) (by omega)]
        have e2 : (wrap64 (48 + Int.tmod n 10)) % 256 = 48 + n % 10 := by rw [Int.tmod_eq_emod_of_nonneg h0, w64 (by omega) (by omega)]; omega
        rw [e1, e2]
        refine Ev.bind ih (Ev.told rfl (Ev.pos ?_ ?_))
        · have := decL_len f (n / 10); rw [size_strOf, size_strOf]; simp; omega
        · rw [strOf_append, show decL f (n / 10) ++ [48 + n % 10] = decL (f + 1) n by simp only [decL]; rw [if_neg c]]; exact Ev.now _
theorem spec_pad_l0 (k : Nat) (hk : k ≤ 100) : ∀ (d : Nat) (l : List Int), l.length + d = k → Ev (fun r => spec_l2pad.l0 r (k : Int) (strOfNums l)) (strOfNums (zeros d ++ l))
  | 0, l, h => by
    refine Ev.step (fun r => spec_l2pad.l0.eq_2 _ _ r) (Ev.neg (by rw [size_strOf]; omega) ?_)
    exact Ev.now _
  | d + 1, l, h => by
    refine Ev.step (fun r => spec_l2pad.l0.eq_2 _ _ r) (Ev.pos (by rw [size_strOf]; omega) (Ev.pos (by rw [size_strOf]; omega) ?_))
    rw [show (⟨#[48]⟩ : ByteArray) = strOfNums [48] from rfl, strOf_append]
    have ih := spec_pad_l0 k hk d ([48] ++ l) (by simp; omega)
    rw [show zeros (d + 1) ++ l = zeros d ++ ([48] ++ l) by simp [zeros, List.replicate_succ']]
    exact ih
theorem spec_pad (n : Int) (k : Nat) (h1 : 1 ≤ k) (hk : k ≤ 15) (h0 : 0 ≤ n) (hn : n < 10 ^ k) : Ev (fun r => spec_l2pad.f r n (k : Int)) (strOfNums (padL k n)) := by
  have hm : n ≤ 999999999999999 := by
    have : (10 : Int) ^ k ≤ 10 ^ 15 := by
      have := Nat.pow_le_pow_right (show 0 < 10 by decide) hk
      exact_mod_cast this
    have e : (10 : Int) ^ 15 = 1000000000000000 := by decide
    omega
  have p := pad_dec k 15 n h1 (by omega) h0 hn
  unfold spec_l2pad.f
  refine Ev.bind (spec_dec 15 n h0 hm (by have e : (10 : Int) ^ (15 + 1) = 10000000000000000 := by decide
                                          omega) (by decide)) ?_
  have := spec_pad_l0 k (by omega) (k - (decL 15 n).length) (decL 15 n) (by omega)
  rw [p.2] at this; exact this
theorem pad4 (n : Int) (h0 : 0 ≤ n) (hn : n ≤ 9999) : Ev (fun r => spec_l2pad.f r n 4) (strOfNums (padL 4 n)) := spec_pad n 4 (by decide) (by decide) h0 (by show _ < (10000 : Int); omega)
theorem pad2 (n : Int) (h0 : 0 ≤ n) (hn : n ≤ 99) : Ev (fun r => spec_l2pad.f r n 2) (strOfNums (padL 2 n)) := spec_pad n 2 (by decide) (by decide) h0 (by show _ < (100 : Int); omega)
theorem civ_yes {t : Int} (h : isT t) : spec_CivilOf.f t = some (yr t, mo t, da t, ho t, mi t, se t, true) := by unfold spec_CivilOf.f civM; rw [if_pos h]
theorem civ_no {t : Int} (h : ¬ isT t) : spec_CivilOf.f t = some (0, 0, 0, 0, 0, 0, false) := by unfold spec_CivilOf.f civM; rw [if_neg h]

/-! The reference's time of day -/
theorem spec_clock {t : Int} (h : isT t) (a b c : Int) : Ev (fun k => spec_l2clock.f k a b c (ho t) (mi t) (se t)) (strOfNums (clockL t)) := by
  obtain ⟨q1, q2, q3, q4, q5, q6⟩ := parts h
  unfold spec_l2clock.f
  rw [show (⟨#[58]⟩ : ByteArray) = strOfNums [58] from rfl]
  refine Ev.bind (pad2 (ho t) (by omega) (by omega)) (Ev.pos ?_ (Ev.bind (pad2 (mi t) (by omega) (by omega)) (Ev.pos ?_ (Ev.pos ?_ (Ev.bind (pad2 (se t) (by omega) (by omega)) (Ev.pos ?_ ?_))))))
  · simp only [strOf_append, size_strOf, padL_length, List.length_append, List.length_cons, List.length_nil]; omega
  · simp only [strOf_append, size_strOf, padL_length, List.length_append, List.length_cons, List.length_nil]; omega
  · simp only [strOf_append, size_strOf, padL_length, List.length_append, List.length_cons, List.length_nil]; omega
  · simp only [strOf_append, size_strOf, padL_length, List.length_append, List.length_cons, List.length_nil]; omega
  · simp only [strOf_append, List.append_assoc, clockL]; exact Ev.now _

/-! The reference's date of records -/
theorem spec_warc (t : Int) : Ev (fun k => spec_WarcDate.f k t) (strOfNums (warcT t)) := by
  unfold spec_WarcDate.f warcT
  by_cases h : isT t
  · obtain ⟨q1, q2, q3, q4, q5, q6⟩ := parts h
    rw [if_pos h, show (⟨#[45]⟩ : ByteArray) = strOfNums [45] from rfl, show (⟨#[84]⟩ : ByteArray) = strOfNums [84] from rfl, show (⟨#[90]⟩ : ByteArray) = strOfNums [90] from rfl]
    refine Ev.told (civ_yes h) (Ev.pos rfl ?_)
    repeat' first
      | refine Ev.pos (by simp only [strOf_append, size_strOf, padL_length, clock_length, List.length_append, List.length_cons, List.length_nil]; omega) ?_
      | refine Ev.bind (pad4 (yr t) (by omega) (by omega)) ?_
      | refine Ev.bind (pad2 (mo t) (by omega) (by omega)) ?_
      | refine Ev.bind (pad2 (da t) (by omega) (by omega)) ?_
      | refine Ev.bind (spec_clock h (yr t) (mo t) (da t)) ?_
    simp only [strOf_append, List.append_assoc, warcL]; exact Ev.now _
  · rw [if_neg h]
    exact Ev.told (civ_no h) (Ev.neg (by simp) (Ev.now _))

/-! What the reference's readers by places find -/
theorem digit_f (b : Int) : spec_l1digit.f b = some (decide (48 ≤ b ∧ b ≤ 57)) := by
  unfold spec_l1digit.f
  by_cases h : 48 ≤ b
  · rw [if_pos h]; simp [h]
  · rw [if_neg h]; simp [h]
theorem num_l0 (s : ByteArray) (hs : s.size ≤ 15) : ∀ (d i : Nat) (n : Int), i + d = s.size → 0 ≤ n → n < 10 ^ i → Ev (fun k => spec_l2num.l0 k s n (i : Int)) (numA ((bytesOf s).drop i) n)
  | 0, i, n, hd, h0, h1 => by
    have e : (bytesOf s).drop i = [] := List.drop_eq_nil_of_le (by rw [bytesOf_length]; omega)
    rw [e]
    refine Ev.step (fun k => spec_l2num.l0.eq_2 _ _ _ k) (Ev.neg (by omega) ?_)
    exact Ev.now _
  | d + 1, i, n, hd, h0, h1 => by
    have hil : i < (bytesOf s).length := by rw [bytesOf_length]; omega
    have hw : (wrap64 ((i : Int) + 1)) = ((i + 1 : Nat) : Int) := by rw [w64 (by omega) (by omega)]; omega
    have p : (10 : Int) ^ (i + 1) = 10 ^ i * 10 := Int.pow_succ ..
    have p2 : (10 : Int) ^ i ≤ 10 ^ 15 := by
      have := Nat.pow_le_pow_right (show 0 < 10 by decide) (show i ≤ 15 by omega)
      exact_mod_cast this
    have e15 : (10 : Int) ^ 15 = 1000000000000000 := by decide
    rw [drop_cons hil]
    refine Ev.step (fun k => spec_l2num.l0.eq_2 _ _ _ k) (Ev.pos (by omega) (Ev.pos (by omega) ?_))
    rw [bt_nat]
    generalize hx : (bytesOf s).getD i 0 = x
    unfold numA
    by_cases c : x = 32
    · rw [if_pos c]; refine Ev.pos c ?_
      rw [w64 (n := n * 10) (by omega) (by omega), hw]
      exact num_l0 s hs d (i + 1) (n * 10) (by omega) (by omega) (by omega)
    · rw [if_neg c]; refine Ev.neg c (Ev.told (digit_f x) ?_)
      by_cases g : 48 ≤ x ∧ x ≤ 57
      · rw [if_pos g, decide_eq_true g]; refine Ev.pos rfl ?_
        rw [w64 (n := n * 10) (by omega) (by omega), show (x - 48) % 256 = x - 48 by omega, w64 (by omega) (by omega), hw]
        exact num_l0 s hs d (i + 1) (n * 10 + (x - 48)) (by omega) (by omega) (by omega)
      · rw [if_neg g, decide_eq_false g]; exact Ev.neg (by simp) (Ev.now _)
theorem num_f (s : ByteArray) (hs : s.size ≤ 15) : Ev (fun k => spec_l2num.f k s) (numL (bytesOf s)) := by
  have := num_l0 s hs s.size 0 0 (by omega) (by omega) (by decide)
  exact this
theorem num_cut (s : ByteArray) (a b : Nat) (h : b ≤ s.size) (hb : b ≤ a + 15) : Ev (fun k => spec_l2num.f k (s.extract a b)) (numL (cut (bytesOf s) a b)) := by
  have := num_f (s.extract a b) (by rw [size_extract _ _ _ h]; omega)
  rw [bytes_extract] at this; exact this
def atM (y m d : Int) (l : List Int) : Int := if (secM y m d (numL (cut l 0 2)) (numL (cut l 3 5)) (numL (cut l 6 8))).2 = true then (secM y m d (numL (cut l 0 2)) (numL (cut l 3 5)) (numL (cut l 6 8))).1 else -1
theorem at_f (y m d : Int) (s : ByteArray) (hs : s.size = 8) : Ev (fun k => spec_l2at.f k y m d s) (atM y m d (bytesOf s)) := by
  unfold spec_l2at.f
  refine Ev.pos (by decide) (Ev.pos (by omega) (Ev.bind (num_cut s 0 2 (by omega) (by omega)) (Ev.pos (by decide) (Ev.pos (by omega) (Ev.bind (num_cut s 3 5 (by omega) (by omega)) (Ev.pos (by decide) (Ev.pos (by omega) (Ev.bind (num_cut s 6 8 (by omega) (by omega)) (Ev.told rfl ?_)))))))))
  unfold atM
  by_cases c : (secM y m d (numL (cut (bytesOf s) 0 2)) (numL (cut (bytesOf s) 3 5)) (numL (cut (bytesOf s) 6 8))).2 = true
  · refine Ev.pos c ?_; rw [if_pos c]; exact Ev.now _
  · refine Ev.neg c ?_; rw [if_neg c]; exact Ev.now _
theorem secM_civ {t : Int} (h : isT t) : secM (yr t) (mo t) (da t) (ho t) (mi t) (se t) = (t, true) := by
  unfold secM; rw [if_pos (civ_ok h), civ_secs h]
theorem atM_of {t : Int} (h : isT t) {l : List Int} (hl : clk l (ho t) (mi t) (se t)) : atM (yr t) (mo t) (da t) l = t := by
  unfold atM; rw [hl.1, hl.2.1, hl.2.2, secM_civ h]; rfl

theorem warc_len (t : Int) : (warcL t).length = 20 := by
  simp only [warcL, clockL, List.length_append, padL_length, List.length_cons, List.length_nil]
theorem warcT_same {x : Int} {l : List Int} (hl : l ≠ []) (h : warcT x = l) : isT x ∧ l = warcL x := by
  unfold warcT at h
  split at h
  · rename_i c; exact ⟨c, h.symm⟩
  · exact absurd h.symm hl
theorem warcT_byte (x : Int) : ∀ y ∈ warcT x, 0 ≤ y ∧ y < 256 := by
  intro y hy
  unfold warcT at hy
  split at hy
  · simp only [warcL, clockL, List.mem_append, List.mem_singleton] at hy
    rcases hy with h | h | h | h | h | h | (h | h | h | h | h) | h
    all_goals first
      | (have := padL_digit _ _ y h; omega)
      | omega
  · cases hy
theorem warcT_iff (x : Int) (s : ByteArray) : (strOfNums (warcT x)).toList = s.toList ↔ warcT x = bytesOf s := by
  rw [toList_iff]
  constructor
  · rintro rfl; rw [bytes_strOf (warcT_byte x)]
  · intro h; rw [h, strOf_bytes]
theorem spec_yes (s : ByteArray) (t : Int) (ht : isT t) (e : bytesOf s = warcL t) : Ev (fun k => spec_ReadWarcDate.f k s) (t, true) := by
  have hs : s.size = 20 := by rw [← bytesOf_length, e, warc_len]
  unfold spec_ReadWarcDate.f
  refine Ev.pos (by omega) (Ev.pos (by decide) (Ev.pos (by omega) (Ev.bind (num_cut s 0 4 (by omega) (by omega)) (Ev.pos (by decide) (Ev.pos (by omega) (Ev.bind (num_cut s 5 7 (by omega) (by omega)) (Ev.pos (by decide) (Ev.pos (by omega) (Ev.bind (num_cut s 8 10 (by omega) (by omega)) (Ev.pos (by decide) (Ev.pos (by omega) (Ev.bind (at_f _ _ _ _ (size_extract s 11 19 (by omega))) ?_))))))))))))
  rw [show bytesOf (s.extract 11 19) = cut (bytesOf s) 11 19 from bytes_extract s 11 19]
  obtain ⟨a1, a2, a3, a4⟩ := warc_at ht
  rw [e, a1, a2, a3, a4, atM_of ht (clock_at ht)]
  refine Ev.bind (spec_warc t) (Ev.pos ?_ (Ev.now _))
  rw [warcT_iff, e]; unfold warcT; rw [if_pos ht]
theorem spec_no (s : ByteArray) (h : ∀ t, isT t → bytesOf s ≠ warcL t) : Ev (fun k => spec_ReadWarcDate.f k s) (0, false) := by
  unfold spec_ReadWarcDate.f
  by_cases hs : s.size = 20
  · refine Ev.pos (by omega) (Ev.pos (by decide) (Ev.pos (by omega) (Ev.bind (num_cut s 0 4 (by omega) (by omega)) (Ev.pos (by decide) (Ev.pos (by omega) (Ev.bind (num_cut s 5 7 (by omega) (by omega)) (Ev.pos (by decide) (Ev.pos (by omega) (Ev.bind (num_cut s 8 10 (by omega) (by omega)) (Ev.pos (by decide) (Ev.pos (by omega) (Ev.bind (at_f _ _ _ _ (size_extract s 11 19 (by omega))) (Ev.bind (spec_warc _) (Ev.neg ?_ (Ev.now _)))))))))))))))
    rw [warcT_iff]
    intro e
    have hl : bytesOf s ≠ [] := by intro c; have := bytesOf_length s; rw [c] at this; simp at this; omega
    obtain ⟨ht, e2⟩ := warcT_same hl e
    exact h _ ht e2
  · exact Ev.neg (by omega) (Ev.now _)
theorem isd_f (b : Int) : impl_isDigit.f b = some (decide (48 ≤ b ∧ b ≤ 57)) := by
  unfold impl_isDigit.f
  by_cases h : 48 ≤ b
  · rw [if_pos h]; simp [h]
  · rw [if_neg h]; simp [h]
def implR (l : List Int) : Int × Bool := if (readM (digs l)).2 = true then (if warcT (readM (digs l)).1 = l then ((readM (digs l)).1, true) else (0, false)) else (0, false)
theorem digs_more {l : List Int} {i : Nat} (h : i < l.length) : digs (l.take (i + 1)) = digs (l.take i) ++ (if 48 ≤ l.getD i 0 ∧ l.getD i 0 ≤ 57 then [l.getD i 0] else []) := by
  have e : l.take (i + 1) = l.take i ++ [l.getD i 0] := by
    rw [List.getD_eq_getElem?_getD, List.getElem?_eq_getElem h, Option.getD_some, List.take_add_one, List.getElem?_eq_getElem h]; rfl
  rw [e, digs_app]
  congr 1
  unfold digs
  generalize l.getD i 0 = x
  by_cases c : 48 ≤ x ∧ x ≤ 57
  · rw [if_pos c, List.filter_cons_of_pos (by simp [c.1, c.2])]; rfl
  · rw [if_neg c, List.filter_cons_of_neg (by simp; omega)]; rfl
theorem digs_byte (l : List Int) : ∀ y ∈ digs l, 0 ≤ y ∧ y < 256 := by
  intro y hy
  unfold digs at hy
  have := (List.mem_filter.mp hy).2
  simp at this; omega
theorem digs_len (l : List Int) : (digs l).length ≤ l.length := List.length_filter_le _ _
theorem impl_l0 (s : ByteArray) (hs : s.size ≤ 1048576) : ∀ (d i : Nat), i + d = s.size → Ev (fun k => impl_ReadWarcDate.l0 k s (digs ((bytesOf s).take i)) (i : Int)) (implR (bytesOf s))
  | 0, i, hd => by
    have e : (bytesOf s).take i = bytesOf s := List.take_of_length_le (by rw [bytesOf_length]; omega)
    rw [e]
    have hz := digs_len (bytesOf s)
    rw [bytesOf_length] at hz
    have hr : impl_ReadStamp.f (strOfNums (digs (bytesOf s))) = some (readM (digs (bytesOf s))) := by
      unfold impl_ReadStamp.f; rw [if_pos (by rw [size_strOf]; omega), bytes_strOf (digs_byte _)]
    refine Ev.step (fun k => impl_ReadWarcDate.l0.eq_2 _ _ _ k) (Ev.neg (by omega) (Ev.told hr ?_))
    unfold implR
    by_cases c : (readM (digs (bytesOf s))).2 = true
    · refine Ev.pos c (Ev.told (show impl_WarcDate.f _ = some (strOfNums (warcT _)) from rfl) ?_)
      rw [if_pos c]
      by_cases g : warcT (readM (digs (bytesOf s))).1 = bytesOf s
      · refine Ev.pos ((warcT_iff _ _).mpr g) ?_; rw [if_pos g]; exact Ev.now _
      · refine Ev.neg (fun q => g ((warcT_iff _ _).mp q)) ?_; rw [if_neg g]; exact Ev.now _
    · refine Ev.neg c ?_; rw [if_neg c]; exact Ev.now _
  | d + 1, i, hd => by
    have hil : i < (bytesOf s).length := by rw [bytesOf_length]; omega
    have hw : (wrap64 ((i : Int) + 1)) = ((i + 1 : Nat) : Int) := by rw [w64 (by omega) (by omega)]; omega
    have hz := digs_len ((bytesOf s).take i)
    have ih := impl_l0 s hs d (i + 1) (by omega)
    rw [digs_more hil] at ih
    refine Ev.step (fun k => impl_ReadWarcDate.l0.eq_2 _ _ _ k) (Ev.pos (by omega) (Ev.pos (by omega) (Ev.told (isd_f _) ?_)))
    rw [bt_nat, hw]
    by_cases g : 48 ≤ (bytesOf s).getD i 0 ∧ (bytesOf s).getD i 0 ≤ 57
    · rw [decide_eq_true g]; rw [if_pos g] at ih
      refine Ev.pos rfl (Ev.pos ?_ ih)
      rw [List.length_take] at hz; omega
    · rw [decide_eq_false g]; rw [if_neg g, List.append_nil] at ih
      exact Ev.neg (by simp) ih
theorem FnExactReadWarcDate : laws_FnExactReadWarcDate.Pure := by
  intro s hs
  apply Ev.rounds
  unfold laws_FnExactReadWarcDate.f
  by_cases h : (s.size : Int) > 1048576
  · exact Ev.pos h (Ev.now _)
  · refine Ev.neg h ?_
    have hi : Ev (fun k => impl_ReadWarcDate.f k s) (implR (bytesOf s)) := impl_l0 s (by omega) s.size 0 (by omega)
    by_cases c : ∃ t, isT t ∧ bytesOf s = warcL t
    · obtain ⟨t, ht, e⟩ := c
      have hr : implR (bytesOf s) = (t, true) := by
        have r : readM (digs (bytesOf s)) = (t, true) := by
          rw [e, digs_warc]; unfold readM; rw [if_pos (stamp_of ht).1, (stamp_of ht).2]
        unfold implR; rw [r, if_pos rfl, if_pos (by rw [e]; unfold warcT; rw [if_pos ht])]
      rw [hr] at hi
      exact Ev.bind (spec_yes s t ht e) (Ev.bind hi (Ev.pos rfl (Ev.neg (by simp) (Ev.now _))))
    · have hn : ∀ t, isT t → bytesOf s ≠ warcL t := fun t ht e => c ⟨t, ht, e⟩
      have hr : implR (bytesOf s) = (0, false) := by
        unfold implR
        split
        · rename_i r2
          rw [if_neg]
          intro w
          have hok : isT (readM (digs (bytesOf s))).1 := by
            unfold readM at r2 ⊢
            split
            · rename_i k
              obtain ⟨t, ht, e⟩ := (stamp_iff _).mp k
              rw [e, (stamp_of ht).2]; exact ht
            · rename_i k; rw [if_neg k] at r2; cases r2
          unfold warcT at w
          rw [if_pos hok] at w
          exact hn _ hok w.symm
        · rfl
      rw [hr] at hi
      exact Ev.bind (spec_no s hn) (Ev.bind hi (Ev.pos rfl (Ev.neg (by simp) (Ev.now _))))

end Go.Proofs.YtgjbhdfncappdaaDoor.Pure
