/- The law FnExactShaOk answers true for every state of a digest: both say the same, and the state is left as it was. No condition. -/
import Derived.Test.YtmplhlimccgcdaaPFnExactShaOkx
import Derived.Test.YtmplhlimccgcdaaBase
namespace Go.Proofs.Ytmplhlimccgcdaa.Pure
open Go.RowKit Go.Proofs.Ytmplhlimccgcdaa.PFnExactShaOk Go.Proofs.YtmplhlimccgcdaaW.PrintWords Go.Proofs.YtmplhlimccgcdaaW.PrintLast Go.Proofs.YtmplhlimccgcdaaW.PrintMore Go.Proofs.Ytmplhlimccgcdaa.Base
set_option linter.unusedVariables false
set_option linter.unusedSimpArgs false

/-! Lists of numbers: compared; marked; are the marks held -/
def upFrom (m : Int) (n : Nat) : List Int := (List.range n).map fun (j : Nat) => m + (j : Int)
theorem upFrom_succ (m : Int) (n : Nat) : upFrom m (n + 1) = m :: upFrom (m + 1) n := by
  unfold upFrom
  rw [List.range_succ_eq_map]
  simp only [List.map_cons, List.map_map]
  congr 1
  · simp
  · apply List.map_congr_left
    intro j _
    simp only [Function.comp]
    omega
theorem upFrom_length (m : Int) (n : Nat) : (upFrom m n).length = n := by simp [upFrom]
theorem eqI_loop (xs : List Int) (hb : xs.length ≤ 140737488355328) : ∀ (d i : Nat), i + d = xs.length → Ev (fun k => laws_eqIntS.l0 k xs xs (i : Int)) true := by
  intro d
  induction d with
  | zero => intro i h; exact Ev.step (fun k => laws_eqIntS.l0.eq_2 _ _ _ k) (Ev.neg (by omega) (Ev.now _))
  | succ d ih =>
    intro i h
    have hw : wrap64 ((i : Int) + 1) = ((i + 1 : Nat) : Int) := by rw [w64 (by omega) (by omega)]; omega
    refine Ev.step (fun k => laws_eqIntS.l0.eq_2 _ _ _ k) (Ev.pos (by omega) (Ev.pos (by omega) (Ev.pos (by omega) (Ev.pos rfl ?_))))
    rw [hw]
    exact ih (i + 1) (by omega)
theorem eqI_same (xs : List Int) (hb : xs.length ≤ 140737488355328) : Ev (fun k => laws_eqIntS.f k xs xs) true := by
  unfold laws_eqIntS.f
  exact Ev.pos rfl (eqI_loop xs hb xs.length 0 (by omega))

theorem toI_loop (xs : List Int) (hb : xs.length ≤ 1048576) : ∀ (d i : Nat) (ys : List Int), i + d = xs.length → ys.length = xs.length → ys.take i = xs.take i →
    Ev (fun k => laws_toIntS.l0 k xs ys (i : Int)) xs := by
  intro d
  induction d with
  | zero =>
    intro i ys h hl ht
    refine Ev.step (fun k => laws_toIntS.l0.eq_2 _ _ _ k) (Ev.neg (by omega) ?_)
    rw [List.take_of_length_le (by omega), List.take_of_length_le (by omega)] at ht
    rw [ht]; exact Ev.now _
  | succ d ih =>
    intro i ys h hl ht
    have hw : wrap64 ((i : Int) + 1) = ((i + 1 : Nat) : Int) := by rw [w64 (by omega) (by omega)]; omega
    refine Ev.step (fun k => laws_toIntS.l0.eq_2 _ _ _ k) (Ev.pos (by omega) (Ev.pos (by omega) (Ev.pos (by omega) ?_)))
    rw [hw, Int.toNat_natCast]
    refine ih (i + 1) _ (by omega) (by simpa using hl) ?_
    rw [take_snoc (by simp; omega), take_snoc (by omega), List.take_set_of_le (by omega), ht]
    congr 2
    rw [List.getD_eq_getElem?_getD, List.getElem?_set_self (by omega)]
    rfl
theorem toI_all (xs : List Int) (hb : xs.length ≤ 1048576) : Ev (fun k => laws_toIntS.f k xs) xs := by
  unfold laws_toIntS.f
  refine Ev.pos (by omega) (Ev.pos (by omega) ?_)
  exact toI_loop xs hb xs.length 0 _ (by omega) (by simp) (by simp)

/-! Five words -/
def word (x : Int) : Bool := decide (0 ≤ x) && decide (x ≤ 4294967295)
theorem spec_word (x : Int) : spec_l3word.f x = some (word x) := by
  unfold spec_l3word.f word
  by_cases h : 0 ≤ x
  · rw [if_pos h]; simp [h]
  · rw [if_neg h]; simp [h]
theorem impl_within_word (x : Int) : impl_within.f x 0 4294967295 = some (word x) := by
  unfold impl_within.f word
  by_cases h : 0 ≤ x
  · rw [if_pos h]; simp [h]
  · rw [if_neg h]; simp [h]
theorem all_step (xs : List Int) (i : Nat) (h : i < xs.length) : (xs.drop i).all word = (word (rd xs (i : Int)) && (xs.drop (i + 1)).all word) := by
  rw [drop_cons h]; rfl
theorem spec_words_l0 (xs : List Int) (h5 : xs.length = 5) : ∀ (d i : Nat), i + d = 5 → Ev (fun k => spec_l3words.l0 k xs (i : Int)) ((xs.drop i).all word) := by
  intro d
  induction d with
  | zero =>
    intro i h
    refine Ev.step (fun k => spec_l3words.l0.eq_2 _ _ k) (Ev.neg (by omega) ?_)
    rw [List.drop_eq_nil_of_le (by omega)]; exact Ev.now _
  | succ d ih =>
    intro i h
    have hw : wrap64 ((i : Int) + 1) = ((i + 1 : Nat) : Int) := by rw [w64 (by omega) (by omega)]; omega
    refine Ev.step (fun k => spec_l3words.l0.eq_2 _ _ k) (Ev.pos (by omega) (Ev.pos (by omega) (Ev.pos (by omega) (Ev.told (spec_word _) ?_))))
    rw [all_step xs i (by omega)]
    cases hx : word (rd xs (i : Int)) with
    | true =>
      refine Ev.pos rfl ?_
      rw [hw, Bool.true_and]
      exact ih (i + 1) (by omega)
    | false => exact Ev.neg (by simp) (Ev.now _)
def wordsOk (xs : List Int) : Bool := decide (xs.length = 5) && xs.all word
theorem spec_words (xs : List Int) : Ev (fun k => spec_l3words.f k xs) (wordsOk xs) := by
  unfold spec_l3words.f wordsOk
  by_cases h5 : xs.length = 5
  · refine Ev.pos (by omega) ?_
    have := spec_words_l0 xs h5 5 0 (by omega)
    rw [decide_eq_true h5, Bool.true_and]
    simpa using this
  · refine Ev.neg (by omega) ?_
    rw [decide_eq_false h5, Bool.false_and]; exact Ev.now _
theorem impl_words_l0 (xs : List Int) (hb : xs.length ≤ 140737488355328) : ∀ (d i : Nat), i + d = xs.length → Ev (fun k => impl_areWords.l0 k xs (xs.length : Int) (i : Int)) ((xs.drop i).all word) := by
  intro d
  induction d with
  | zero =>
    intro i h
    refine Ev.step (fun k => impl_areWords.l0.eq_2 _ _ _ k) (Ev.neg (by omega) ?_)
    rw [List.drop_eq_nil_of_le (by omega)]; exact Ev.now _
  | succ d ih =>
    intro i h
    have hw : wrap64 ((i : Int) + 1) = ((i + 1 : Nat) : Int) := by rw [w64 (by omega) (by omega)]; omega
    refine Ev.step (fun k => impl_areWords.l0.eq_2 _ _ _ k) (Ev.pos (by omega) (Ev.pos (by omega) (Ev.pos (by omega) (Ev.told (impl_within_word _) ?_))))
    rw [all_step xs i (by omega)]
    cases hx : word (rd xs (i : Int)) with
    | true =>
      refine Ev.pos rfl ?_
      rw [hw, Bool.true_and]
      exact ih (i + 1) (by omega)
    | false => exact Ev.neg (by simp) (Ev.now _)
theorem impl_words (xs : List Int) : Ev (fun k => impl_areWords.f k xs 5) (wordsOk xs) := by
  unfold impl_areWords.f wordsOk
  by_cases h5 : xs.length = 5
  · refine Ev.pos (by omega) ?_
    have := impl_words_l0 xs (by omega) 5 0 (by omega)
    rw [decide_eq_true h5, Bool.true_and]
    simpa using this
  · refine Ev.neg (by omega) ?_
    rw [decide_eq_false h5, Bool.false_and]; exact Ev.now _

def shaOk (h : List Int) (r : ByteArray) (n : Int) : Bool := wordsOk h && (decide (0 ≤ n) && (decide (n ≤ 999999999999999) && ((r.size : Int) == Int.tmod n 64)))
theorem spec_shaOk (h : List Int) (r : ByteArray) (n : Int) : Ev (fun k => spec_ShaOk.f k h r n) (shaOk h r n) := by
  unfold spec_ShaOk.f shaOk
  refine Ev.bind (spec_words h) ?_
  cases hw : wordsOk h with
  | false => exact Ev.neg (by simp) (Ev.now _)
  | true =>
    refine Ev.pos rfl ?_
    rw [Bool.true_and]
    by_cases h0 : 0 ≤ n
    · refine Ev.pos h0 ?_
      rw [decide_eq_true h0, Bool.true_and]
      by_cases h1 : n ≤ 999999999999999
      · refine Ev.pos h1 ?_
        rw [decide_eq_true h1, Bool.true_and]; exact Ev.now _
      · refine Ev.neg h1 ?_
        rw [decide_eq_false h1, Bool.false_and]; exact Ev.now _
    · refine Ev.neg h0 ?_
      rw [decide_eq_false h0, Bool.false_and]; exact Ev.now _
theorem impl_shaOk (h : List Int) (r : ByteArray) (n : Int) : Ev (fun k => impl_ShaOk.f k h r n) (shaOk h r n) := by
  unfold impl_ShaOk.f shaOk
  refine Ev.bind (impl_words h) ?_
  cases hw : wordsOk h with
  | false => exact Ev.neg (by simp) (Ev.now _)
  | true =>
    refine Ev.pos rfl ?_
    rw [Bool.true_and]
    unfold impl_within.f
    by_cases h0 : 0 ≤ n
    · rw [if_pos h0, decide_eq_true h0, Bool.true_and]
      by_cases h1 : n ≤ 999999999999999
      · rw [decide_eq_true h1, Bool.true_and]; exact Ev.told rfl (Ev.pos rfl (Ev.now _))
      · rw [decide_eq_false h1, Bool.false_and]; exact Ev.told rfl (Ev.neg (by simp) (Ev.now _))
    · rw [if_neg h0, decide_eq_false h0, Bool.false_and]; exact Ev.told rfl (Ev.neg (by simp) (Ev.now _))

theorem toSha_all (h : List Int) (r : ByteArray) (n : Int) (hb : h.length ≤ 1048576) : Ev (fun k => laws_toSha.f k h r n) (h, r, n) := by
  unfold laws_toSha.f
  exact Ev.bind (toI_all h hb) (Ev.now _)
theorem eqSha_same (h : List Int) (r : ByteArray) (n : Int) (hb : h.length ≤ 140737488355328) : Ev (fun k => laws_eqSha.f k h r n h r n) true := by
  unfold laws_eqSha.f
  exact Ev.bind (eqI_same h hb) (Ev.pos rfl (Ev.pos rfl (Ev.pos rfl (Ev.now _))))
theorem szSha_cases (h : List Int) (r : ByteArray) (n : Int) (hh : h.length ≤ maxLen) (hr : r.size ≤ maxLen) :
    (∃ t, laws_szSha.f h r n 1048576 = some t ∧ t < 0) ∨ (∃ t, laws_szSha.f h r n 1048576 = some t ∧ ¬ t < 0) ∧ h.length + r.size ≤ 1048576 := by
  unfold maxLen at hh hr
  unfold laws_szSha.f laws_szIntS.f
  have e1 : wrap64 (1048576 - (h.length : Int)) = 1048576 - (h.length : Int) := w64 (by omega) (by omega)
  rw [e1]
  by_cases c1 : 1048576 - (h.length : Int) < 0
  · exact .inl ⟨-1, by rw [if_pos c1]; rfl, by omega⟩
  · rw [if_neg c1]
    simp only [Option.bind_some]
    rw [if_neg c1]
    have e2 : wrap64 (1048576 - (h.length : Int) - (r.size : Int)) = 1048576 - (h.length : Int) - (r.size : Int) := w64 (by omega) (by omega)
    rw [e2]
    by_cases c2 : 1048576 - (h.length : Int) - (r.size : Int) < 0
    · exact .inl ⟨-1, by rw [if_pos c2], by omega⟩
    · exact .inr ⟨⟨_, by rw [if_neg c2], c2⟩, by omega⟩

theorem FnExactShaOk (h : List Int) (r : ByteArray) (n : Int) (hm : h.length ≤ maxLen) (hw : ∀ x ∈ h, (Lit.int .i64 x).wf = true) (wr : r.size ≤ maxLen) (wn : (Lit.int .i64 n).wf = true) : ∃ k, laws_FnExactShaOk.f k h r n = some true := by
  apply Ev.rounds
  unfold laws_FnExactShaOk.f
  rcases szSha_cases h r n hm wr with ⟨t, e, c⟩ | ⟨⟨t, e, c⟩, hb⟩
  · exact Ev.told e (Ev.pos c (Ev.now _))
  · have ht := toSha_all h r n (by omega)
    exact Ev.told e (Ev.neg c (Ev.bind ht (Ev.bind (spec_shaOk h r n) (Ev.bind ht (Ev.bind (impl_shaOk h r n) (Ev.neg (by simp) (Ev.bind ht (Ev.bind (eqSha_same h r n (by omega)) (Ev.pos rfl (Ev.now _))))))))))

end Go.Proofs.Ytmplhlimccgcdaa.Pure
