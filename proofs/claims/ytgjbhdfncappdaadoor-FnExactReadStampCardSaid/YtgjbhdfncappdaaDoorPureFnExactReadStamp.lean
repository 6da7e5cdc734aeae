/- The law FnExactReadStamp answers true for every text: both read a stamp alike. No condition. -/
import Derived.Test.YtgjbhdfncappdaaDoorQFnExactReadStampx4
import Derived.Test.YtgjbhdfncappdaaDoorBase
namespace Go.Proofs.YtgjbhdfncappdaaDoor.Pure
open Go.RowKit Go.Proofs.YtgjbhdfncappdaaDoor.PFnExactReadStamp Go.Proofs.YtgjbhdfncappdaaDoorW.PrintWords Go.Proofs.YtgjbhdfncappdaaDoorW.PrintLast Go.Proofs.YtgjbhdfncappdaaDoorW.PrintMore Go.Proofs.YtgjbhdfncappdaaDoor.Base
set_option linter.unusedVariables false
set_option linter.unusedSimpArgs false

/-! Numbers in decimal: the reference's DecText, and with so many digits -/
open Go.Proofs.YtgjbhdfncappdaaDoor.Dates Go.Proofs.YtgjbhdfncappdaaDoor.Pads Go.Proofs.YtgjbhdfncappdaaDoor.Formats Go.Proofs.YtgjbhdfncappdaaDoor.Finds Go.Proofs.YtgjbhdfncappdaaDoor.Places Go.Proofs.YtgjbhdfncappdaaDoor.Reads Go.Proofs.YtgjbhdfncappdaaDoor.Https Go.Proofs.YtgjbhdfncappdaaDoor.Foreign
theorem decL_len : ∀ (f : Nat) (n : Int), (decL f n).length ≤ f + 1
  | 0, _ => by simp [decL]
  | f + 1, n => by
    simp only [decL]; split
    · simp
    · have := decL_len f (n / 10); simp; omega
theorem spec_dec : ∀ (f : Nat) (n : Int), 0 ≤ n → n ≤ 999999999999999 → n < 10 ^ (f + 1) → f ≤ 20 → Ev (fun k => spec_DecText.f k n) (strOfNums (decL f n))
  | f, n, h0, h1, hf, hq => by
    refine Ev.step (fun k => spec_DecText.f.eq_2 n k) (Ev.neg (by omega) ?_)
    rw [show decide (n > 999999999999999) = false from decide_eq_false (by omega)]
    refine Ev.step (fun k => spec_DecText.j0.eq_2 n false k) (Ev.neg (by simp) ?_)
    by_cases c : n < 10
    · refine Ev.pos c ?_
      rw [w64 (by omega) (by omega), show (48 + n) % 256 = 48 + n by omega]
      have e : decL f n = [48 + n] := by
        cases f with
        | zero => simp only [decL]; congr 1; omega
        | succ f => simp only [decL]; rw [if_pos c]
      rw [e]; exact Ev.now _
    · refine Ev.neg c ?_
      match f, hf, hq with
      | 0, hf, _ => have hf : n < 10 := by simpa using hf
                    exact absurd hf c
      | f + 1, hf, hq =>
        have h2 : n / 10 < 10 ^ (f + 1) := by
          have : (10 : Int) ^ (f + 1 + 1) = 10 ^ (f + 1) * 10 := Int.pow_succ ..
          omega
        have ih := spec_dec f (n / 10) (by omega) (by omega) h2 (by omega)
        have e1 : wrap64 (Int.tdiv n 10) = n / 10 := by rw [Int.tdiv_eq_ediv_of_nonneg h0, w64 (by omega) (by omega)]
        have e2 : (wrap64 (48 + Int.tmod n 10)) % 256 = 48 + n % 10 := by rw [Int.tmod_eq_emod_of_nonneg h0, w64 (by omega) (by omega)]; omega
        rw [e1, e2]
        refine Ev.bind ih (Ev.told rfl (Ev.pos ?_ ?_))
        · have := decL_len f (n / 10); rw [size_strOf, size_strOf]; simp; omega
        · rw [strOf_append, show decL f (n / 10) ++ [48 + n % 10] = decL (f + 1) n by simp only [decL]; rw [if_neg c]]; exact Ev.now _
theorem spec_pad_l0 (k : Nat) (hk : k ≤ 100) : ∀ (d : Nat) (l : List Int), l.length + d = k → Ev (fun r => spec_l2pad.l0 r (k : Int) (strOfNums l)) (strOfNums (zeros d ++ l))
  | 0, l, h => by
    refine Ev.step (fun r => spec_l2pad.l0.eq_2 _ _ r) (Ev.neg (by rw [size_strOf]; omega) ?_)
    exact Ev.now _
  | d + 1, l, h => by
    refine Ev.step (fun r => spec_l2pad.l0.eq_2 _ _ r) (Ev.pos (by rw [size_strOf]; omega) (Ev.pos (by rw [size_strOf]; omega) ?_))
    rw [show (⟨#[48]⟩ : ByteArray) = strOfNums [48] from rfl, strOf_append]
    have ih := spec_pad_l0 k hk d ([48] ++ l) (by simp; omega)
    rw [show zeros (d + 1) ++ l = zeros d ++ ([48] ++ l) by simp [zeros, List.replicate_succ']]
    exact ih
theorem spec_pad (n : Int) (k : Nat) (h1 : 1 ≤ k) (hk : k ≤ 15) (h0 : 0 ≤ n) (hn : n < 10 ^ k) : Ev (fun r => spec_l2pad.f r n (k : Int)) (strOfNums (padL k n)) := by
  have hm : n ≤ 999999999999999 := by
    have : (10 : Int) ^ k ≤ 10 ^ 15 := by
      have := Nat.pow_le_pow_right (show 0 < 10 by decide) hk
      exact_mod_cast this
    have e : (10 : Int) ^ 15 = 1000000000000000 := by decide
    omega
  have p := pad_dec k 15 n h1 (by omega) h0 hn
  unfold spec_l2pad.f
  refine Ev.bind (spec_dec 15 n h0 hm (by have e : (10 : Int) ^ (15 + 1) = 10000000000000000 := by decide
                                          omega) (by decide)) ?_
  have := spec_pad_l0 k (by omega) (k - (decL 15 n).length) (decL 15 n) (by omega)
  rw [p.2] at this; exact this
theorem pad4 (n : Int) (h0 : 0 ≤ n) (hn : n ≤ 9999) : Ev (fun r => spec_l2pad.f r n 4) (strOfNums (padL 4 n)) := spec_pad n 4 (by decide) (by decide) h0 (by show _ < (10000 : Int); omega)
theorem pad2 (n : Int) (h0 : 0 ≤ n) (hn : n ≤ 99) : Ev (fun r => spec_l2pad.f r n 2) (strOfNums (padL 2 n)) := spec_pad n 2 (by decide) (by decide) h0 (by show _ < (100 : Int); omega)
theorem civ_yes {t : Int} (h : isT t) : spec_CivilOf.f t = some (yr t, mo t, da t, ho t, mi t, se t, true) := by unfold spec_CivilOf.f civM; rw [if_pos h]
theorem civ_no {t : Int} (h : ¬ isT t) : spec_CivilOf.f t = some (0, 0, 0, 0, 0, 0, false) := by unfold spec_CivilOf.f civM; rw [if_neg h]

/-! The reference's stamp -/
theorem spec_stamp (t : Int) : Ev (fun k => spec_Stamp.f k t) (strOfNums (stampT' t)) := by
  unfold spec_Stamp.f stampT'
  by_cases h : isT t
  · obtain ⟨q1, q2, q3, q4, q5, q6⟩ := parts h
    rw [if_pos h]
    refine Ev.told (civ_yes h) (Ev.pos rfl ?_)
    refine Ev.bind (pad4 (yr t) (by omega) (by omega)) (Ev.bind (pad2 (mo t) (by omega) (by omega)) (Ev.pos ?_ (Ev.bind (pad2 (da t) (by omega) (by omega)) (Ev.pos ?_ (Ev.bind (pad2 (ho t) (by omega) (by omega)) (Ev.pos ?_ (Ev.bind (pad2 (mi t) (by omega) (by omega)) (Ev.pos ?_ (Ev.bind (pad2 (se t) (by omega) (by omega)) (Ev.pos ?_ ?_))))))))))
    · simp only [strOf_append, size_strOf, padL_length, List.length_append]; omega
    · simp only [strOf_append, size_strOf, padL_length, List.length_append]; omega
    · simp only [strOf_append, size_strOf, padL_length, List.length_append]; omega
    · simp only [strOf_append, size_strOf, padL_length, List.length_append]; omega
    · simp only [strOf_append, size_strOf, padL_length, List.length_append]; omega
    · simp only [strOf_append, List.append_assoc, stampL]; exact Ev.now _
  · rw [if_neg h]
    exact Ev.told (civ_no h) (Ev.neg (by simp) (Ev.now _))

/-! What the reference's readers by places find -/
theorem digit_f (b : Int) : spec_l1digit.f b = some (decide (48 ≤ b ∧ b ≤ 57)) := by
  unfold spec_l1digit.f
  by_cases h : 48 ≤ b
  · rw [if_pos h]; simp [h]
  · rw [if_neg h]; simp [h]
theorem num_l0 (s : ByteArray) (hs : s.size ≤ 15) : ∀ (d i : Nat) (n : Int), i + d = s.size → 0 ≤ n → n < 10 ^ i → Ev (fun k => spec_l2num.l0 k s n (i : Int)) (numA ((bytesOf s).drop i) n)
  | 0, i, n, hd, h0, h1 => by
    have e : (bytesOf s).drop i = [] := List.drop_eq_nil_of_le (by rw [bytesOf_length]; omega)
    rw [e]
    refine Ev.step (fun k => spec_l2num.l0.eq_2 _ _ _ k) (Ev.neg (by omega) ?_)
    exact Ev.now _
  | d + 1, i, n, hd, h0, h1 => by
    have hil : i < (bytesOf s).length := by rw [bytesOf_length]; omega
    have hw : (wrap64 ((i : Int) + 1)) = ((i + 1 : Nat) : Int) := by rw [w64 (by omega) (by omega)]; omega
    have p : (10 : Int) ^ (i + 1) = 10 ^ i * 10 := Int.pow_succ ..
    have p2 : (10 : Int) ^ i ≤ 10 ^ 15 := by
      have := Nat.pow_le_pow_right (show 0 < 10 by decide) (show i ≤ 15 by omega)
      exact_mod_cast this
    have e15 : (10 : Int) ^ 15 = 1000000000000000 := by decide
    rw [drop_cons hil]
    refine Ev.step (fun k => spec_l2num.l0.eq_2 _ _ _ k) (Ev.pos (by omega) (Ev.pos (by omega) ?_))
    rw [bt_nat]
    generalize hx : (bytesOf s).getD i 0 = x
    unfold numA
    by_cases c : x = 32
    · rw [if_pos c]; refine Ev.pos c ?_
      rw [w64 (n := n * 10) (by omega) (by omega), hw]
      exact num_l0 s hs d (i + 1) (n * 10) (by omega) (by omega) (by omega)
    · rw [if_neg c]; refine Ev.neg c (Ev.told (digit_f x) ?_)
      by_cases g : 48 ≤ x ∧ x ≤ 57
      · rw [if_pos g, decide_eq_true g]; refine Ev.pos rfl ?_
        rw [w64 (n := n * 10) (by omega) (by omega), show (x - 48) % 256 = x - 48 by omega, w64 (by omega) (by omega), hw]
        exact num_l0 s hs d (i + 1) (n * 10 + (x - 48)) (by omega) (by omega) (by omega)
      · rw [if_neg g, decide_eq_false g]; exact Ev.neg (by simp) (Ev.now _)
theorem num_f (s : ByteArray) (hs : s.size ≤ 15) : Ev (fun k => spec_l2num.f k s) (numL (bytesOf s)) := by
  have := num_l0 s hs s.size 0 0 (by omega) (by omega) (by decide)
  exact this
theorem num_cut (s : ByteArray) (a b : Nat) (h : b ≤ s.size) (hb : b ≤ a + 15) : Ev (fun k => spec_l2num.f k (s.extract a b)) (numL (cut (bytesOf s) a b)) := by
  have := num_f (s.extract a b) (by rw [size_extract _ _ _ h]; omega)
  rw [bytes_extract] at this; exact this
def atM (y m d : Int) (l : List Int) : Int := if (secM y m d (numL (cut l 0 2)) (numL (cut l 3 5)) (numL (cut l 6 8))).2 = true then (secM y m d (numL (cut l 0 2)) (numL (cut l 3 5)) (numL (cut l 6 8))).1 else -1
theorem at_f (y m d : Int) (s : ByteArray) (hs : s.size = 8) : Ev (fun k => spec_l2at.f k y m d s) (atM y m d (bytesOf s)) := by
  unfold spec_l2at.f
  refine Ev.pos (by decide) (Ev.pos (by omega) (Ev.bind (num_cut s 0 2 (by omega) (by omega)) (Ev.pos (by decide) (Ev.pos (by omega) (Ev.bind (num_cut s 3 5 (by omega) (by omega)) (Ev.pos (by decide) (Ev.pos (by omega) (Ev.bind (num_cut s 6 8 (by omega) (by omega)) (Ev.told rfl ?_)))))))))
  unfold atM
  by_cases c : (secM y m d (numL (cut (bytesOf s) 0 2)) (numL (cut (bytesOf s) 3 5)) (numL (cut (bytesOf s) 6 8))).2 = true
  · refine Ev.pos c ?_; rw [if_pos c]; exact Ev.now _
  · refine Ev.neg c ?_; rw [if_neg c]; exact Ev.now _
theorem secM_civ {t : Int} (h : isT t) : secM (yr t) (mo t) (da t) (ho t) (mi t) (se t) = (t, true) := by
  unfold secM; rw [if_pos (civ_ok h), civ_secs h]
theorem atM_of {t : Int} (h : isT t) {l : List Int} (hl : clk l (ho t) (mi t) (se t)) : atM (yr t) (mo t) (da t) l = t := by
  unfold atM; rw [hl.1, hl.2.1, hl.2.2, secM_civ h]; rfl

theorem piece8 (s : ByteArray) (hs : s.size = 14) : ((((s.extract 8 10) ++ (⟨#[58]⟩ : ByteArray)) ++ (s.extract 10 12)) ++ (⟨#[58]⟩ : ByteArray)) ++ (s.extract 12 14) = strOfNums (cut (bytesOf s) 8 10 ++ ([58] ++ (cut (bytesOf s) 10 12 ++ ([58] ++ cut (bytesOf s) 12 14)))) := by
  rw [show (⟨#[58]⟩ : ByteArray) = strOfNums [58] from rfl, extract_strOf s 8 10, extract_strOf s 10 12, extract_strOf s 12 14]
  simp only [strOf_append, List.append_assoc]; rfl
theorem stampT_same {x : Int} {l : List Int} (hl : l.length = 14) (h : stampT' x = l) : stampOk l := by
  unfold stampT' at h
  split at h
  · rename_i c; exact (stamp_iff l).mpr ⟨x, c, h.symm⟩
  · rw [← h] at hl; cases hl
theorem stampT_byte (x : Int) : ∀ y ∈ stampT' x, 0 ≤ y ∧ y < 256 := by
  intro y hy
  unfold stampT' at hy
  split at hy
  · have := stamp_dig _ y hy; omega
  · cases hy
theorem spec_read (s : ByteArray) : Ev (fun k => spec_ReadStamp.f k s) (readM (bytesOf s)) := by
  unfold spec_ReadStamp.f
  by_cases hs : s.size = 14
  · have hl : (bytesOf s).length = 14 := by rw [bytesOf_length]; exact hs
    refine Ev.pos (by omega) (Ev.pos (by decide) (Ev.pos (by omega) (Ev.bind (num_cut s 0 4 (by omega) (by omega)) (Ev.pos (by decide) (Ev.pos (by omega) (Ev.bind (num_cut s 4 6 (by omega) (by omega)) (Ev.pos (by decide) (Ev.pos (by omega) (Ev.bind (num_cut s 6 8 (by omega) (by omega)) ?_)))))))))
    rw [piece8 s hs]
    have z1 : (s.extract 8 10).size = 2 := size_extract _ _ _ (by omega)
    have z2 : (s.extract 10 12).size = 2 := size_extract _ _ _ (by omega)
    have z3 : (s.extract 12 14).size = 2 := size_extract _ _ _ (by omega)
    have zc : (⟨#[58]⟩ : ByteArray).size = 1 := rfl
    refine Ev.pos (by decide) (Ev.pos (by omega) (Ev.pos (by omega) (Ev.pos (by decide) (Ev.pos (by omega) (Ev.pos (by simp only [ByteArray.size_append]; omega) (Ev.pos (by simp only [ByteArray.size_append]; omega) (Ev.pos (by decide) (Ev.pos (by omega) (Ev.pos (by simp only [ByteArray.size_append]; omega) ?_)))))))))
    have hb : ∀ x ∈ bytesOf s, 0 ≤ x ∧ x < 256 := fun x h => bytes_lt h
    have c1 := cut_length (bytesOf s) 8 10 (by omega)
    have c2 := cut_length (bytesOf s) 10 12 (by omega)
    have c3 := cut_length (bytesOf s) 12 14 (by omega)
    refine Ev.bind (at_f _ _ _ _ (by rw [size_strOf]; simp only [List.length_append, List.length_cons, List.length_nil, c1, c2, c3])) ?_
    rw [bytes_strOf (by
      intro x hx
      simp only [List.mem_append, List.mem_singleton] at hx
      rcases hx with h | h | h | h | h
      · exact hb x (cut_mem h)
      · omega
      · exact hb x (cut_mem h)
      · omega
      · exact hb x (cut_mem h))]
    refine Ev.bind (spec_stamp _) ?_
    by_cases k : stampOk (bytesOf s)
    · obtain ⟨t, ht, e⟩ := (stamp_iff _).mp k
      have d := k.2.1
      obtain ⟨v1, v2, v3, v4, v5, v6⟩ := stamp_vals ht
      have dd : ∀ a b, allDig (cut (bytesOf s) a b) := fun a b x hx => d x (cut_mem hx)
      have hr : readM (bytesOf s) = (t, true) := by
        unfold readM; rw [if_pos k, e, (stamp_of ht).2]
      have ha : atM (numL (cut (bytesOf s) 0 4)) (numL (cut (bytesOf s) 4 6)) (numL (cut (bytesOf s) 6 8)) (cut (bytesOf s) 8 10 ++ ([58] ++ (cut (bytesOf s) 10 12 ++ ([58] ++ cut (bytesOf s) 12 14)))) = t := by
        have k1 := numL_dig (dd 0 4)
        have k2 := numL_dig (dd 4 6)
        have k3 := numL_dig (dd 6 8)
        have k4 := numL_dig (dd 8 10)
        have k5 := numL_dig (dd 10 12)
        have k6 := numL_dig (dd 12 14)
        rw [e] at k1 k2 k3 k4 k5 k6 c1 c2 c3 ⊢
        rw [k1, k2, k3, v1, v2, v3]
        apply atM_of ht
        refine ⟨?_, ?_, ?_⟩
        · rw [show cut (cut (stampL t) 8 10 ++ ([58] ++ (cut (stampL t) 10 12 ++ ([58] ++ cut (stampL t) 12 14)))) 0 2 = cut (stampL t) 8 10 from piece (A := []) (a := 0) (b := 2) rfl c1, k4, v4]
        · rw [show cut (stampL t) 8 10 ++ ([58] ++ (cut (stampL t) 10 12 ++ ([58] ++ cut (stampL t) 12 14))) = (cut (stampL t) 8 10 ++ [58]) ++ (cut (stampL t) 10 12 ++ ([58] ++ cut (stampL t) 12 14)) by simp only [List.append_assoc], piece (by simp only [List.length_append, List.length_cons, List.length_nil, c1]) (by rw [c2]), k5, v5]
        · rw [show cut (stampL t) 8 10 ++ ([58] ++ (cut (stampL t) 10 12 ++ ([58] ++ cut (stampL t) 12 14))) = (cut (stampL t) 8 10 ++ ([58] ++ (cut (stampL t) 10 12 ++ [58]))) ++ cut (stampL t) 12 14 by simp only [List.append_assoc], piece_end (by simp only [List.length_append, List.length_cons, List.length_nil, c1, c2]) (by rw [c3]), k6, v6]
      rw [ha, hr]
      refine Ev.pos ?_ (Ev.now _)
      rw [toList_iff]; unfold stampT'; rw [if_pos ht, ← e, strOf_bytes]
    · have hr : readM (bytesOf s) = (0, false) := by unfold readM; rw [if_neg k]
      rw [hr]
      refine Ev.neg ?_ (Ev.now _)
      rw [toList_iff]
      intro h
      apply k
      have h2 := congrArg bytesOf h
      rw [bytes_strOf (stampT_byte _)] at h2
      exact stampT_same hl h2
  · have hr : readM (bytesOf s) = (0, false) := by unfold readM; rw [if_neg fun c => hs (by have := c.1; rw [bytesOf_length] at this; exact this)]
    rw [hr]
    exact Ev.neg (by omega) (Ev.now _)
theorem FnExactReadStamp : laws_FnExactReadStamp.Pure := by
  intro s hs
  apply Ev.rounds
  unfold laws_FnExactReadStamp.f
  by_cases h : (s.size : Int) > 1048576
  · exact Ev.pos h (Ev.now _)
  · refine Ev.neg h (Ev.bind (spec_read s) (Ev.told (show impl_ReadStamp.f s = some (readM (bytesOf s)) by unfold impl_ReadStamp.f; rw [if_pos hs]) (Ev.pos rfl (Ev.neg (by simp) (Ev.now _)))))

end Go.Proofs.YtgjbhdfncappdaaDoor.Pure
