/- The law FnExactLoose answers true for every store: both say the same, and the store is left as it was. No condition. -/
import Derived.Test.YtmplhlimccgcdaaQFnExactLoosex
import Derived.Test.YtmplhlimccgcdaaBase
namespace Go.Proofs.Ytmplhlimccgcdaa.Pure
open Go.RowKit Go.Proofs.Ytmplhlimccgcdaa.PFnExactLoose Go.Proofs.YtmplhlimccgcdaaW.PrintWords Go.Proofs.YtmplhlimccgcdaaW.PrintLast Go.Proofs.YtmplhlimccgcdaaW.PrintMore Go.Proofs.Ytmplhlimccgcdaa.Base
set_option linter.unusedVariables false
set_option linter.unusedSimpArgs false

/-! Segments -/
def conv (x : S94) : S80 := ⟨x.f0, x.f1⟩
def tot : List S80 → Nat
  | [] => 0
  | s :: l => s.f0.size + tot l
def segGood (n i : Nat) (s : S80) : Bool := (decide (0 ≤ s.f1) && decide (s.f1 ≤ (s.f0.size : Int))) && (!decide (i + 1 < n) || (!decide (s.f0.size = 0) && decide (s.f1 = (s.f0.size : Int))))
def segsGood (n : Nat) : Nat → List S80 → Bool
  | _, [] => true
  | i, s :: l => segGood n i s && segsGood n (i + 1) l
theorem dropS {α : Type} (z : α) {xs : List α} {i : Nat} (h : i < xs.length) : xs.drop i = xs.getD i z :: xs.drop (i + 1) := by
  rw [List.getD_eq_getElem?_getD, List.getElem?_eq_getElem h, Option.getD_some]
  exact List.drop_eq_getElem_cons h
theorem takeS {α : Type} (z : α) {xs : List α} {i : Nat} (h : i < xs.length) : xs.take (i + 1) = xs.take i ++ [xs.getD i z] := by
  rw [List.getD_eq_getElem?_getD, List.getElem?_eq_getElem h, Option.getD_some]
  exact List.take_succ_eq_append_getElem h
theorem rdS80 (xs : List S80) (i : Nat) : rd_T80 xs (i : Int) = xs.getD i z80 := rfl
theorem rdS94 (xs : List S94) (i : Nat) : rd_T94 xs (i : Int) = xs.getD i z94 := rfl
theorem tot_drop (xs : List S80) (i : Nat) : tot (xs.drop i) ≤ tot xs := by
  induction xs generalizing i with
  | nil => simp [tot]
  | cons s l ih =>
    cases i with
    | zero => exact Nat.le_refl _
    | succ i => simp only [List.drop_succ_cons, tot]; have := ih i; omega
theorem spec_store_l0 (xs : List S80) (cap : Int) (hn : xs.length ≤ 1048576) (ht : tot xs ≤ 1048576) : ∀ (d i : Nat) (left : Int), i + d = xs.length → -1048576 ≤ left → left ≤ 60000 →
    Ev (fun k => spec_StoreOk.l0 k left (i : Int) xs cap) (segsGood xs.length i (xs.drop i) && decide ((tot (xs.drop i) : Int) ≤ left ∨ xs.drop i = [])) := by
  intro d
  induction d with
  | zero =>
    intro i left h h0 h1
    refine Ev.step (fun k => spec_StoreOk.l0.eq_2 _ _ _ _ k) (Ev.neg (by omega) ?_)
    rw [List.drop_eq_nil_of_le (by omega)]
    simp only [segsGood, Bool.true_and, or_true, decide_true]
    exact Ev.now _
  | succ d ih =>
    intro i left h h0 h1
    have hw : wrap64 ((i : Int) + 1) = ((i + 1 : Nat) : Int) := by rw [w64 (by omega) (by omega)]; omega
    have hd := dropS z80 (xs := xs) (i := i) (by omega)
    have htd := tot_drop xs i
    have ht1 : tot (xs.drop i) = (xs.getD i z80).f0.size + tot (xs.drop (i + 1)) := by rw [hd]; rfl
    have hi := fun hl => ih (i + 1) (left - ((xs.getD i z80).f0.size : Int)) (by omega) hl (by omega)
    have hw2 : wrap64 (left - ((xs.getD i z80).f0.size : Int)) = left - ((xs.getD i z80).f0.size : Int) := w64 (by omega) (by omega)
    refine Ev.step (fun k => spec_StoreOk.l0.eq_2 _ _ _ _ k) (Ev.pos (by omega) (Ev.pos (by omega) ?_))
    rw [hw, rdS80, hw2]
    have hne : xs.drop i ≠ [] := by rw [hd]; simp
    have e : ∀ v : Bool, (segsGood xs.length i (xs.drop i) && decide ((tot (xs.drop i) : Int) ≤ left ∨ xs.drop i = [])) = v ↔ ((segGood xs.length i (xs.getD i z80) && segsGood xs.length (i + 1) (xs.drop (i + 1))) && decide ((tot (xs.drop i) : Int) ≤ left)) = v := by
      intro v
      rw [show decide ((tot (xs.drop i) : Int) ≤ left ∨ xs.drop i = []) = decide ((tot (xs.drop i) : Int) ≤ left) from decide_eq_decide.2 ⟨fun h => h.resolve_right hne, Or.inl⟩]
      rw [show segsGood xs.length i (xs.drop i) = (segGood xs.length i (xs.getD i z80) && segsGood xs.length (i + 1) (xs.drop (i + 1))) by rw [hd]; rfl]
    rw [(e _).2 rfl]
    generalize xs.getD i z80 = s at *
    by_cases c1 : (s.f0.size : Int) > left
    · rw [show decide ((tot (xs.drop i) : Int) ≤ left) = false from decide_eq_false (by omega), Bool.and_false]
      exact Ev.pos c1 (Ev.now _)
    · refine Ev.neg c1 ?_
      by_cases c2 : s.f1 < 0
      · rw [show segGood xs.length i s = false by unfold segGood; rw [decide_eq_false (by omega)]; simp, Bool.false_and, Bool.false_and]
        exact Ev.pos c2 (Ev.now _)
      · refine Ev.neg c2 ?_
        by_cases c3 : s.f1 > (s.f0.size : Int)
        · rw [show segGood xs.length i s = false by unfold segGood; rw [show decide (s.f1 ≤ (s.f0.size : Int)) = false from decide_eq_false (by omega)]; simp, Bool.false_and, Bool.false_and]
          exact Ev.pos c3 (Ev.now _)
        · refine Ev.neg c3 ?_
          have rest : segGood xs.length i s = true → Ev (fun k => spec_StoreOk.l0 k (left - (s.f0.size : Int)) ((i + 1 : Nat) : Int) xs cap) ((segGood xs.length i s && segsGood xs.length (i + 1) (xs.drop (i + 1))) && decide ((tot (xs.drop i) : Int) ≤ left)) := by
            intro hg
            have h2 := hi (by omega)
            have e2 : decide ((tot (xs.drop (i + 1)) : Int) ≤ left - (s.f0.size : Int) ∨ xs.drop (i + 1) = []) = decide ((tot (xs.drop i) : Int) ≤ left) := by
              apply decide_eq_decide.2
              constructor
              · rintro (h3 | h3)
                · omega
                · rw [h3] at ht1; simp only [tot] at ht1; omega
              · intro h3; left; omega
            rw [e2] at h2
            rw [hg, Bool.true_and]
            exact h2
          by_cases c4 : ((i + 1 : Nat) : Int) < (xs.length : Int)
          · refine Ev.pos c4 ?_
            by_cases c5 : (s.f0.size : Int) = 0
            · rw [show segGood xs.length i s = false by unfold segGood; rw [show decide (s.f0.size = 0) = true from decide_eq_true (by omega), show decide (i + 1 < xs.length) = true from decide_eq_true (by omega)]; simp, Bool.false_and, Bool.false_and]
              exact Ev.pos c5 (Ev.now _)
            · refine Ev.neg c5 ?_
              by_cases c6 : s.f1 = (s.f0.size : Int)
              · refine Ev.pos c6 (rest ?_)
                unfold segGood
                rw [decide_eq_true (show 0 ≤ s.f1 by omega), decide_eq_true (show s.f1 ≤ (s.f0.size : Int) by omega), decide_eq_true (show i + 1 < xs.length by omega), decide_eq_false (show ¬ s.f0.size = 0 by omega), decide_eq_true c6]
                rfl
              · rw [show segGood xs.length i s = false by unfold segGood; rw [show decide (s.f1 = (s.f0.size : Int)) = false from decide_eq_false c6, show decide (i + 1 < xs.length) = true from decide_eq_true (by omega)]; simp, Bool.false_and, Bool.false_and]
                exact Ev.neg c6 (Ev.now _)
          · refine Ev.neg c4 (rest ?_)
            unfold segGood
            rw [decide_eq_true (show 0 ≤ s.f1 by omega), decide_eq_true (show s.f1 ≤ (s.f0.size : Int) by omega), decide_eq_false (show ¬ i + 1 < xs.length by omega)]
            rfl
def storeOk (xs : List S80) (cap : Int) : Bool := (decide (0 ≤ cap) && decide (cap ≤ 60000)) && ((decide (1 ≤ xs.length) && decide (xs.length ≤ 40)) && (segsGood xs.length 0 xs && decide ((tot xs : Int) ≤ cap)))
theorem spec_store (xs : List S80) (cap : Int) (hn : xs.length ≤ 1048576) (ht : tot xs ≤ 1048576) : Ev (fun k => spec_StoreOk.f k xs cap) (storeOk xs cap) := by
  have bad : Ev (fun k => spec_StoreOk.j0 k true xs cap) false := Ev.step (fun k => spec_StoreOk.j0.eq_2 _ _ _ k) (Ev.pos rfl (Ev.now _))
  unfold spec_StoreOk.f storeOk
  by_cases c1 : cap < 0
  · rw [decide_eq_false (show ¬ 0 ≤ cap by omega), Bool.false_and, Bool.false_and]; exact Ev.pos c1 bad
  · refine Ev.neg c1 ?_
    by_cases c2 : cap > 60000
    · rw [decide_eq_false (show ¬ cap ≤ 60000 by omega), Bool.and_false, Bool.false_and]; exact Ev.pos c2 bad
    · refine Ev.neg c2 ?_
      rw [decide_eq_true (show 0 ≤ cap by omega), decide_eq_true (show cap ≤ 60000 by omega), Bool.and_self, Bool.true_and]
      by_cases c3 : (xs.length : Int) < 1
      · rw [decide_eq_false (show ¬ 1 ≤ xs.length by omega), Bool.false_and, Bool.false_and]; exact Ev.pos c3 bad
      · refine Ev.neg c3 ?_
        rw [decide_eq_true (show 1 ≤ xs.length by omega), Bool.true_and]
        by_cases c4 : xs.length ≤ 40
        · rw [decide_eq_true c4, Bool.true_and, decide_eq_false (by omega)]
          refine Ev.step (fun k => spec_StoreOk.j0.eq_2 _ _ _ k) (Ev.neg (by simp) ?_)
          have h := spec_store_l0 xs cap hn ht xs.length 0 cap (by omega) (by omega) (by omega)
          rw [List.drop_zero] at h
          rw [show decide ((tot xs : Int) ≤ cap) = decide ((tot xs : Int) ≤ cap ∨ xs = []) from decide_eq_decide.2 ⟨Or.inl, fun h => h.resolve_right (by rintro rfl; simp at c3)⟩]
          exact h
        · rw [decide_eq_false c4, Bool.false_and, decide_eq_true (by omega)]; exact bad
theorem impl_used_l0 (xs : List S80) (hn : xs.length ≤ 1048576) : ∀ (d i : Nat) (acc : Int), i + d = xs.length → 0 ≤ acc → acc + (tot (xs.drop i) : Int) ≤ 1048576 →
    Ev (fun k => impl_Store_used.l0 k acc xs (xs.length : Int) (i : Int)) (acc + (tot (xs.drop i) : Int)) := by
  intro d
  induction d with
  | zero =>
    intro i acc h h0 h1
    refine Ev.step (fun k => impl_Store_used.l0.eq_2 _ _ _ _ k) (Ev.neg (by omega) ?_)
    rw [List.drop_eq_nil_of_le (by omega)]
    rw [show acc + ((tot [] : Nat) : Int) = acc by simp [tot]]
    exact Ev.now _
  | succ d ih =>
    intro i acc h h0 h1
    have hw : wrap64 ((i : Int) + 1) = ((i + 1 : Nat) : Int) := by rw [w64 (by omega) (by omega)]; omega
    have hd := dropS z80 (xs := xs) (i := i) (by omega)
    have ht1 : tot (xs.drop i) = (xs.getD i z80).f0.size + tot (xs.drop (i + 1)) := by rw [hd]; rfl
    refine Ev.step (fun k => impl_Store_used.l0.eq_2 _ _ _ _ k) (Ev.pos (by omega) (Ev.pos (by omega) (Ev.pos (by omega) ?_)))
    rw [hw, rdS80, w64 (n := acc + _) (by omega) (by omega)]
    have h2 := ih (i + 1) (acc + ((xs.getD i z80).f0.size : Int)) (by omega) (by omega) (by omega)
    rw [show acc + (tot (xs.drop i) : Int) = acc + ((xs.getD i z80).f0.size : Int) + (tot (xs.drop (i + 1)) : Int) by omega]
    exact h2
theorem impl_store_l0 (xs : List S80) (cap : Int) (hn : xs.length ≤ 1048576) (ht : tot xs ≤ 1048576) : ∀ (d i : Nat), i + d = xs.length →
    Ev (fun k => impl_StoreOk.l0 k xs (xs.length : Int) (i : Int) xs cap) (segsGood xs.length i (xs.drop i) && decide ((tot xs : Int) ≤ cap)) := by
  intro d
  induction d with
  | zero =>
    intro i h
    refine Ev.step (fun k => impl_StoreOk.l0.eq_2 _ _ _ _ _ k) (Ev.neg (by omega) ?_)
    rw [List.drop_eq_nil_of_le (by omega)]
    simp only [segsGood, Bool.true_and]
    have h2 := impl_used_l0 xs hn xs.length 0 0 (by omega) (by omega) (by simp; omega)
    refine Ev.bind (a := (tot xs : Int)) ?_ (Ev.now _)
    unfold impl_Store_used.f
    simpa using h2
  | succ d ih =>
    intro i h
    have hw : wrap64 ((i : Int) + 1) = ((i + 1 : Nat) : Int) := by rw [w64 (by omega) (by omega)]; omega
    have hw2 : wrap64 ((xs.length : Int) - 1) = (xs.length : Int) - 1 := w64 (by omega) (by omega)
    have hd := dropS z80 (xs := xs) (i := i) (by omega)
    have hi := ih (i + 1) (by omega)
    refine Ev.step (fun k => impl_StoreOk.l0.eq_2 _ _ _ _ _ k) (Ev.pos (by omega) (Ev.pos (by omega) (Ev.pos (by omega) ?_)))
    rw [hw, hw2, rdS80]
    rw [show segsGood xs.length i (xs.drop i) = (segGood xs.length i (xs.getD i z80) && segsGood xs.length (i + 1) (xs.drop (i + 1))) by rw [hd]; rfl]
    generalize xs.getD i z80 = s at *
    have rest : segGood xs.length i s = true → Ev (fun k => impl_StoreOk.l0 k xs (xs.length : Int) ((i + 1 : Nat) : Int) xs cap) ((segGood xs.length i s && segsGood xs.length (i + 1) (xs.drop (i + 1))) && decide ((tot xs : Int) ≤ cap)) := by
      intro hg
      rw [hg, Bool.true_and]; exact hi
    have bad : segGood xs.length i s = false → Ev (fun _ : Nat => some false) ((segGood xs.length i s && segsGood xs.length (i + 1) (xs.drop (i + 1))) && decide ((tot xs : Int) ≤ cap)) := by
      intro hg
      rw [hg, Bool.false_and, Bool.false_and]; exact Ev.now _
    unfold impl_within.f
    by_cases c2 : 0 ≤ s.f1
    · rw [if_pos c2]
      by_cases c3 : s.f1 ≤ (s.f0.size : Int)
      · rw [decide_eq_true c3]
        refine Ev.told rfl (Ev.pos rfl ?_)
        by_cases c4 : (i : Int) < (xs.length : Int) - 1
        · refine Ev.pos c4 ?_
          by_cases c5 : s.f0.size = 0
          · refine Ev.pos (toList_nil_size.mpr c5) (bad ?_)
            unfold segGood; rw [show decide (s.f0.size = 0) = true from decide_eq_true c5, show decide (i + 1 < xs.length) = true from decide_eq_true (by omega)]; simp
          · refine Ev.neg (fun hh => c5 (toList_nil_size.mp hh)) ?_
            by_cases c6 : s.f1 = (s.f0.size : Int)
            · refine Ev.pos c6 (rest ?_)
              unfold segGood
              rw [decide_eq_true c2, decide_eq_true c3, decide_eq_true (show i + 1 < xs.length by omega), decide_eq_false c5, decide_eq_true c6]
              rfl
            · refine Ev.neg c6 (bad ?_)
              unfold segGood; rw [show decide (s.f1 = (s.f0.size : Int)) = false from decide_eq_false c6, show decide (i + 1 < xs.length) = true from decide_eq_true (by omega)]; simp
        · refine Ev.neg c4 (rest ?_)
          unfold segGood
          rw [decide_eq_true c2, decide_eq_true c3, decide_eq_false (show ¬ i + 1 < xs.length by omega)]
          rfl
      · rw [decide_eq_false c3]
        refine Ev.told rfl (Ev.neg (by simp) (bad ?_))
        unfold segGood; rw [show decide (s.f1 ≤ (s.f0.size : Int)) = false from decide_eq_false c3]; simp
    · rw [if_neg c2]
      refine Ev.told rfl (Ev.neg (by simp) (bad ?_))
      unfold segGood; rw [decide_eq_false c2]; simp
theorem impl_store (xs : List S80) (cap : Int) (hn : xs.length ≤ 1048576) (ht : tot xs ≤ 1048576) : Ev (fun k => impl_StoreOk.f k xs cap) (storeOk xs cap) := by
  have bad : Ev (fun k => impl_StoreOk.j0 k true xs cap) false := Ev.step (fun k => impl_StoreOk.j0.eq_2 _ _ _ k) (Ev.pos rfl (Ev.now _))
  unfold impl_StoreOk.f storeOk impl_within.f
  by_cases c1 : 0 ≤ cap
  · rw [if_pos c1, decide_eq_true c1]
    by_cases c2 : cap ≤ 60000
    · rw [decide_eq_true c2, Bool.and_self, Bool.true_and]
      refine Ev.told rfl (Ev.pos rfl ?_)
      by_cases c3 : 1 ≤ xs.length
      · rw [if_pos (show (1 : Int) ≤ (xs.length : Int) by omega), decide_eq_true c3, Bool.true_and]
        by_cases c4 : xs.length ≤ 40
        · rw [decide_eq_true c4, decide_eq_true (show (xs.length : Int) ≤ 40 by omega), Bool.true_and]
          refine Ev.told rfl (Ev.step (fun k => impl_StoreOk.j0.eq_2 _ _ _ k) (Ev.neg (by simp) ?_))
          have h := impl_store_l0 xs cap hn ht xs.length 0 (by omega)
          rw [List.drop_zero] at h
          exact h
        · rw [decide_eq_false c4, decide_eq_false (show ¬ (xs.length : Int) ≤ 40 by omega), Bool.false_and]
          exact Ev.told rfl bad
      · rw [if_neg (show ¬ (1 : Int) ≤ (xs.length : Int) by omega), decide_eq_false c3, Bool.false_and, Bool.false_and]
        exact Ev.told rfl bad
    · rw [decide_eq_false c2, Bool.and_false, Bool.false_and]
      exact Ev.told rfl (Ev.neg (by simp) bad)
  · rw [if_neg c1, decide_eq_false c1, Bool.false_and, Bool.false_and]
    exact Ev.told rfl (Ev.neg (by simp) bad)
theorem toSegS_loop (xs : List S94) (hb : xs.length ≤ 1048576) : ∀ (d i : Nat) (ys : List S80), i + d = xs.length → ys.length = xs.length → ys.take i = (xs.map conv).take i →
    Ev (fun k => laws_toSegS.l0 k xs ys (i : Int)) (xs.map conv) := by
  intro d
  induction d with
  | zero =>
    intro i ys h hl ht
    refine Ev.step (fun k => laws_toSegS.l0.eq_2 _ _ _ k) (Ev.neg (by omega) ?_)
    rw [List.take_of_length_le (by omega), List.take_of_length_le (by simp; omega)] at ht
    rw [ht]; exact Ev.now _
  | succ d ih =>
    intro i ys h hl ht
    have hw : wrap64 ((i : Int) + 1) = ((i + 1 : Nat) : Int) := by rw [w64 (by omega) (by omega)]; omega
    refine Ev.step (fun k => laws_toSegS.l0.eq_2 _ _ _ k) (Ev.pos (by omega) (Ev.pos (by omega) (Ev.told rfl (Ev.pos (by omega) ?_))))
    rw [hw, Int.toNat_natCast]
    refine ih (i + 1) _ (by omega) (by simpa using hl) ?_
    rw [takeS z80 (by simp; omega), takeS z80 (by simp; omega), List.take_set_of_le (by omega), ht]
    congr 2
    rw [List.getD_eq_getElem?_getD, List.getElem?_set_self (by omega), List.getD_eq_getElem?_getD, List.getElem?_map, List.getElem?_eq_getElem (show i < xs.length by omega), rdS94, List.getD_eq_getElem?_getD, List.getElem?_eq_getElem (show i < xs.length by omega)]
    rfl
theorem toStore_all (xs : List S94) (cap : Int) (hb : xs.length ≤ 1048576) : Ev (fun k => laws_toStore.f k xs cap) (xs.map conv, cap) := by
  unfold laws_toStore.f
  refine Ev.bind (a := xs.map conv) ?_ (Ev.now _)
  unfold laws_toSegS.f
  refine Ev.pos (by omega) (Ev.pos (by omega) ?_)
  exact toSegS_loop xs hb xs.length 0 _ (by omega) (by simp) (by simp)
theorem eqSegS_loop (xs : List S80) (hb : xs.length ≤ 1048576) : ∀ (d i : Nat), i + d = xs.length → Ev (fun k => laws_eqSegS.l0 k xs xs (i : Int)) true := by
  intro d
  induction d with
  | zero => intro i h; exact Ev.step (fun k => laws_eqSegS.l0.eq_2 _ _ _ k) (Ev.neg (by omega) (Ev.now _))
  | succ d ih =>
    intro i h
    have hw : wrap64 ((i : Int) + 1) = ((i + 1 : Nat) : Int) := by rw [w64 (by omega) (by omega)]; omega
    have he : ∀ (a : ByteArray) (n : Int), laws_eqSeg.f a n a n = some true := by intro a n; unfold laws_eqSeg.f; rw [if_pos rfl, if_pos rfl]
    refine Ev.step (fun k => laws_eqSegS.l0.eq_2 _ _ _ k) (Ev.pos (by omega) (Ev.pos (by omega) (Ev.pos (by omega) (Ev.told (he _ _) (Ev.pos rfl ?_)))))
    rw [hw]
    exact ih (i + 1) (by omega)
theorem eqStore_same (xs : List S80) (cap : Int) (hb : xs.length ≤ 1048576) : Ev (fun k => laws_eqStore.f k xs cap xs cap) true := by
  unfold laws_eqStore.f
  refine Ev.bind (a := true) ?_ (Ev.pos rfl (Ev.pos rfl (Ev.now _)))
  unfold laws_eqSegS.f
  exact Ev.pos rfl (eqSegS_loop xs hb xs.length 0 (by omega))
theorem szSegS_loop (xs : List S94) (hn : xs.length ≤ 1048576) (hx : ∀ p ∈ xs, p.f0.size ≤ maxLen ∧ (Lit.int .i64 p.f1).wf = true) : ∀ (d i : Nat) (left : Int), i + d = xs.length → 0 ≤ left → left ≤ 1048576 →
    ∃ t, Ev (fun k => laws_szSegS.l0 k xs left (i : Int)) t ∧ (0 ≤ t → (tot ((xs.map conv).drop i) : Int) ≤ left) := by
  intro d
  induction d with
  | zero =>
    intro i left h h0 h1
    refine ⟨left, Ev.step (fun k => laws_szSegS.l0.eq_2 _ _ _ k) (Ev.neg (by omega) (Ev.now _)), fun _ => ?_⟩
    rw [List.drop_eq_nil_of_le (by simp; omega)]
    simpa [tot] using h0
  | succ d ih =>
    intro i left h h0 h1
    have hw : wrap64 ((i : Int) + 1) = ((i + 1 : Nat) : Int) := by rw [w64 (by omega) (by omega)]; omega
    have hd := dropS z94 (xs := xs) (i := i) (by omega)
    have hm : (xs.map conv).drop i = conv (xs.getD i z94) :: (xs.map conv).drop (i + 1) := by rw [← List.map_drop, ← List.map_drop, hd]; rfl
    have hp : xs.getD i z94 ∈ xs := by
      rw [List.getD_eq_getElem?_getD, List.getElem?_eq_getElem (show i < xs.length by omega), Option.getD_some]; exact List.getElem_mem _
    have hs := (hx _ hp).1
    unfold maxLen at hs
    have ht1 : tot ((xs.map conv).drop i) = (xs.getD i z94).f0.size + tot ((xs.map conv).drop (i + 1)) := by rw [hm]; rfl
    have hw2 : wrap64 (left - ((xs.getD i z94).f0.size : Int)) = left - ((xs.getD i z94).f0.size : Int) := w64 (by omega) (by omega)
    by_cases c : left - ((xs.getD i z94).f0.size : Int) < 0
    · have e : laws_szSeg.f (rd_T94 xs (i : Int)).f0 (rd_T94 xs (i : Int)).f1 left = some (-1) := by
        unfold laws_szSeg.f; rw [rdS94, hw2, if_pos c]
      exact ⟨-1, Ev.step (fun k => laws_szSegS.l0.eq_2 _ _ _ k) (Ev.pos (by omega) (Ev.pos (by omega) (Ev.told e (Ev.pos (by omega) (Ev.now _))))), fun h => by omega⟩
    · have e : laws_szSeg.f (rd_T94 xs (i : Int)).f0 (rd_T94 xs (i : Int)).f1 left = some (left - ((xs.getD i z94).f0.size : Int)) := by
        unfold laws_szSeg.f; rw [rdS94, hw2, if_neg c]
      obtain ⟨t, h2, h3⟩ := ih (i + 1) (left - ((xs.getD i z94).f0.size : Int)) (by omega) (by omega) (by omega)
      refine ⟨t, Ev.step (fun k => laws_szSegS.l0.eq_2 _ _ _ k) (Ev.pos (by omega) (Ev.pos (by omega) (Ev.told e (Ev.neg c ?_)))), fun h => by have := h3 h; omega⟩
      rw [hw]; exact h2
theorem szStore_cases (xs : List S94) (cap : Int) (hl : xs.length ≤ maxLen) (hx : ∀ p ∈ xs, p.f0.size ≤ maxLen ∧ (Lit.int .i64 p.f1).wf = true) :
    ∃ t, Ev (fun k => laws_szStore.f k xs cap 1048576) t ∧ (0 ≤ t → xs.length ≤ 1048576 ∧ tot (xs.map conv) ≤ 1048576) := by
  unfold maxLen at hl
  have e1 : wrap64 (1048576 - (xs.length : Int)) = 1048576 - (xs.length : Int) := w64 (by omega) (by omega)
  unfold laws_szStore.f laws_szSegS.f
  rw [e1]
  by_cases c : 1048576 - (xs.length : Int) < 0
  · exact ⟨-1, Ev.bind (Ev.pos c (Ev.now _)) (Ev.pos (by omega) (Ev.now _)), fun h => by omega⟩
  · obtain ⟨t, h1, h2⟩ := szSegS_loop xs (by omega) hx xs.length 0 (1048576 - (xs.length : Int)) (by omega) (by omega) (by omega)
    rw [List.drop_zero] at h2
    by_cases ct : t < 0
    · exact ⟨-1, Ev.bind (Ev.neg c h1) (Ev.pos ct (Ev.now _)), fun h => by omega⟩
    · exact ⟨t, Ev.bind (Ev.neg c h1) (Ev.neg ct (Ev.now _)), fun h => ⟨by omega, by have := h2 h; omega⟩⟩

theorem storeOk_len {xs : List S80} {cap : Int} (h : storeOk xs cap = true) : 1 ≤ xs.length := by
  unfold storeOk at h
  simp only [Bool.and_eq_true, decide_eq_true_eq] at h
  exact h.2.1.1
theorem loose_same (xs : List S80) (cap : Int) (hn : xs.length ≤ 1048576) (ht : tot xs ≤ 1048576) : ∃ r : Int, Ev (fun k => spec_Loose.f k xs cap) r ∧ Ev (fun k => impl_Loose.f k xs cap) r := by
  unfold spec_Loose.f impl_Loose.f
  cases ho : storeOk xs cap with
  | false =>
    have h1 := spec_store xs cap hn ht
    have h2 := impl_store xs cap hn ht
    rw [ho] at h1 h2
    exact ⟨-1, Ev.bind h1 (Ev.neg (by simp) (Ev.now _)), Ev.bind h2 (Ev.neg (by simp) (Ev.now _))⟩
  | true =>
    have h1 := spec_store xs cap hn ht
    have h2 := impl_store xs cap hn ht
    rw [ho] at h1 h2
    have hl := storeOk_len ho
    have hw : wrap64 ((xs.length : Int) - 1) = (xs.length : Int) - 1 := w64 (by omega) (by omega)
    have e : impl_Store_last.f xs cap = some ((rd_T80 xs ((xs.length : Int) - 1)).f0, (rd_T80 xs ((xs.length : Int) - 1)).f1) := by
      unfold impl_Store_last.f
      rw [hw, if_pos (by omega), if_pos (by omega)]
    rw [hw]
    exact ⟨_, Ev.bind h1 (Ev.pos rfl (Ev.pos (by omega) (Ev.pos (by omega) (Ev.now _)))), Ev.bind h2 (Ev.pos rfl (Ev.told e (Ev.told e (Ev.now _))))⟩
theorem FnExactLoose (xs : List S94) (cap : Int) (hl : xs.length ≤ maxLen) (hx : ∀ p ∈ xs, p.f0.size ≤ maxLen ∧ (Lit.int .i64 p.f1).wf = true) (wc : (Lit.int .i64 cap).wf = true) : ∃ k, laws_FnExactLoose.f k xs cap = some true := by
  apply Ev.rounds
  unfold laws_FnExactLoose.f
  obtain ⟨t, e, h⟩ := szStore_cases xs cap hl hx
  refine Ev.bind e ?_
  by_cases c : t < 0
  · exact Ev.pos c (Ev.now _)
  · obtain ⟨hn, ht⟩ := h (by omega)
    have hs := toStore_all xs cap hn
    have hm : (xs.map conv).length ≤ 1048576 := by simpa using hn
    obtain ⟨r, h1, h2⟩ := loose_same _ cap hm ht
    exact Ev.neg c (Ev.bind hs (Ev.bind h1 (Ev.bind hs (Ev.bind h2 (Ev.pos rfl (Ev.bind hs (Ev.bind (eqStore_same _ cap hm) (Ev.pos rfl (Ev.now _)))))))))

end Go.Proofs.Ytmplhlimccgcdaa.Pure
