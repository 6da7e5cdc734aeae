/- The law FnLines answers true for every code: lines are taken as they were put, one after the other, and what stands behind them. No condition. -/
import Derived.Test.YtikeagkcekkioaaDoorQFnLinesx2
import Derived.Test.YtikeagkcekkioaaDoorBase
namespace Go.Proofs.YtikeagkcekkioaaDoor.Pure
open Go.RowKit Go.Proofs.YtikeagkcekkioaaDoor.PFnLines Go.Proofs.YtikeagkcekkioaaDoorW.PrintWords Go.Proofs.YtikeagkcekkioaaDoorW.PrintLast Go.Proofs.YtikeagkcekkioaaDoorW.PrintMore Go.Proofs.YtikeagkcekkioaaDoor.Base
set_option linter.unusedVariables false
set_option linter.unusedSimpArgs false

/-! Numbers in decimal: the reference's DecText and the library's numeral -/
def decT (u : Nat) : ByteArray := ⟨(Lib.decDigits u).toArray⟩
theorem decT_small {u : Nat} (h : u < 10) : decT u = strOfNums [48 + (u : Int)] := by
  apply bytes_inj
  rw [bytes_strOf (by intro x hx; simp only [List.mem_singleton] at hx; omega)]
  unfold decT; rw [Lib.decDigits, dif_pos h]
  show [((UInt8.ofNat (48 + u)).toNat : Int)] = _
  rw [UInt8.toNat_ofNat']
  congr 1; omega
theorem decT_big {u : Nat} (h : ¬ u < 10) : decT u = decT (u / 10) ++ strOfNums [48 + ((u % 10 : Nat) : Int)] := by
  apply bytes_inj
  rw [bytes_append, bytes_strOf (by intro x hx; simp only [List.mem_singleton] at hx; omega)]
  have e : Lib.decDigits u = Lib.decDigits (u / 10) ++ [UInt8.ofNat (48 + u % 10)] := by rw [Lib.decDigits, dif_neg h]
  unfold decT; rw [e]
  show ((Lib.decDigits (u / 10) ++ [UInt8.ofNat (48 + u % 10)]).map fun b => (b.toNat : Int)) = (Lib.decDigits (u / 10)).map (fun b => (b.toNat : Int)) ++ _
  rw [List.map_append]
  congr 1
  show [((UInt8.ofNat (48 + u % 10)).toNat : Int)] = _
  rw [UInt8.toNat_ofNat']
  congr 1; omega
theorem decT_size : ∀ (f u : Nat), u < 10 ^ (f + 1) → (decT u).size ≤ f + 1
  | 0, u, h => by rw [decT_small (by simpa using h), size_strOf]; simp
  | f + 1, u, h => by
    by_cases c : u < 10
    · rw [decT_small c, size_strOf]; simp
    · have p : 10 ^ (f + 1 + 1) = 10 ^ (f + 1) * 10 := Nat.pow_succ ..
      have := decT_size f (u / 10) (by omega)
      rw [decT_big c, ByteArray.size_append, size_strOf]; simp only [List.length_cons, List.length_nil]; omega
theorem spec_decT : ∀ (f : Nat) (n : Int), 0 ≤ n → n ≤ 999999999999999 → n < 10 ^ (f + 1) → f ≤ 20 → Ev (fun k => spec_DecText.f k n) (decT n.toNat)
  | f, n, h0, h1, hf, hq => by
    refine Ev.step (fun k => spec_DecText.f.eq_2 n k) (Ev.neg (by omega) ?_)
    rw [show decide (n > 999999999999999) = false from decide_eq_false (by omega)]
    refine Ev.step (fun k => spec_DecText.j0.eq_2 n false k) (Ev.neg (by simp) ?_)
    by_cases c : n < 10
    · refine Ev.pos c ?_
      rw [w64 (by omega) (by omega), show (48 + n) % 256 = 48 + n by omega]
      rw [decT_small (by omega), show ((n.toNat : Nat) : Int) = n by omega]; exact Ev.now _
    · refine Ev.neg c ?_
      match f, hf, hq with
      | 0, hf, _ => have hf : n < 10 := by simpa using hf
                    exact absurd hf c
      | f + 1, hf, hq =>
        have p : (10 : Int) ^ (f + 1 + 1) = 10 ^ (f + 1) * 10 := Int.pow_succ ..
        have h2 : n / 10 < 10 ^ (f + 1) := by omega
        have ih := spec_decT f (n / 10) (by omega) (by omega) h2 (by omega)
        have e1 : wrap64 (Int.tdiv n 10) = n / 10 := by rw [Int.tdiv_eq_ediv_of_nonneg h0, w64 (by omega) (by omega)]
        have e2 : (wrap64 (48 + Int.tmod n 10)) % 256 = 48 + n % 10 := by rw [Int.tmod_eq_emod_of_nonneg h0, w64 (by omega) (by omega)]; omega
        have hz := decT_size f (n / 10).toNat (by
          have : (((n / 10).toNat : Nat) : Int) < ((10 ^ (f + 1) : Nat) : Int) := by
            rw [show (((n / 10).toNat : Nat) : Int) = n / 10 by omega]; push_cast; exact h2
          exact_mod_cast this)
        have eb := decT_big (u := n.toNat) (by omega)
        rw [show n.toNat / 10 = (n / 10).toNat by omega, show ((n.toNat % 10 : Nat) : Int) = n % 10 by omega] at eb
        rw [e1, e2]
        refine Ev.bind ih (Ev.told rfl (Ev.pos ?_ ?_))
        · rw [size_strOf]; simp only [List.length_cons, List.length_nil]; omega
        · rw [eb]; exact Ev.now _
theorem spec_decT_out {n : Int} (h : ¬ (0 ≤ n ∧ n ≤ 999999999999999)) : Ev (fun k => spec_DecText.f k n) (⟨#[]⟩ : ByteArray) := by
  refine Ev.step (fun k => spec_DecText.f.eq_2 n k) ?_
  by_cases c : n < 0
  · exact Ev.pos c (Ev.step (fun k => spec_DecText.j0.eq_2 n true k) (Ev.pos rfl (Ev.now _)))
  · refine Ev.neg c ?_
    rw [decide_eq_true (show n > 999999999999999 by omega)]
    exact Ev.step (fun k => spec_DecText.j0.eq_2 n true k) (Ev.pos rfl (Ev.now _))

open Foreign (anyL)
theorem anyL_skip : ∀ (w : List Int) (r : List Int), (∀ x ∈ w, 48 ≤ x ∧ x ≤ 57) → anyL (w ++ 13 :: r) = (w.length : Int)
  | [], r, _ => by show anyL (13 :: r) = _; rw [anyL, if_pos (Or.inl rfl)]; rfl
  | x :: w, r, h => by
    have hx := h x (by simp)
    have ih := anyL_skip w r fun y hy => h y (by simp [hy])
    rw [List.cons_append, anyL, if_neg (by omega), ih, if_neg (by omega), List.length_cons]
    omega
theorem getD_mid (w r : List Int) (x : Int) : (w ++ x :: r).getD w.length 0 = x := by
  rw [List.getD_eq_getElem?_getD, List.getElem?_append_right (Nat.le_refl _), Nat.sub_self]; rfl
theorem getD_mid1 (w r : List Int) (x y : Int) : (w ++ x :: y :: r).getD (w.length + 1) 0 = y := by
  rw [List.getD_eq_getElem?_getD, List.getElem?_append_right (by omega), show w.length + 1 - w.length = 1 by omega]; rfl
theorem cur_ok {T : ByteArray} {at_ : Nat} (h : at_ ≤ T.size) : impl_CurOk.f T (at_ : Int) = some true := by
  unfold impl_CurOk.f impl_within.f
  rw [if_pos (by omega), Option.bind_some, decide_eq_true (by omega)]
theorem take_line {T : ByteArray} {at_ : Nat} {w r : List Int} (hT : T.size ≤ 100000) (h128 : ∀ x ∈ bytesOf T, x < 128) (hat : at_ ≤ T.size) (hw : ∀ x ∈ w, 48 ≤ x ∧ x ≤ 57) (he : (bytesOf T).drop at_ = w ++ 13 :: 10 :: r) :
    Ev (fun k => impl_TakeLine.f k T (at_ : Int)) (strOfNums w, T, ((at_ + w.length + 2 : Nat) : Int), 0) := by
  obtain ⟨E, hE⟩ : ∃ E, T.extract at_ T.size = E := ⟨_, rfl⟩
  have eb : bytesOf E = w ++ 13 :: 10 :: r := by rw [← hE, bytes_to_end]; exact he
  have ez : E.size = w.length + 2 + r.length := by rw [← bytesOf_length, eb]; simp only [List.length_append, List.length_cons]; omega
  have ezT : E.size ≤ T.size := by rw [← bytesOf_length, ← hE, bytes_to_end, List.length_drop, bytesOf_length]; omega
  have hany : Foreign.strings_IndexAny.f E (⟨#[13, 10]⟩ : ByteArray) = some (w.length : Int) := by
    unfold Foreign.strings_IndexAny.f
    rw [if_pos ⟨rfl, by omega, by
      intro x hx
      rw [← hE, bytes_to_end] at hx
      exact h128 x (List.mem_of_mem_drop hx)⟩, eb, anyL_skip w _ hw]
  have b0 : bt E (w.length : Int) = 13 := by rw [bt_nat, eb, getD_mid]
  have b1 : bt E ((w.length + 1 : Nat) : Int) = 10 := by rw [bt_nat, eb, getD_mid1]
  have w1 : wrap64 ((w.length : Int) + 1) = ((w.length + 1 : Nat) : Int) := by rw [w64 (by omega) (by omega)]; omega
  have w2 : wrap64 ((wrap64 ((at_ : Int) + (w.length : Int))) + 2) = ((at_ + w.length + 2 : Nat) : Int) := by
    rw [w64 (n := (at_ : Int) + (w.length : Int)) (by omega) (by omega), w64 (by omega) (by omega)]; omega
  have w3 : ((w.length : Int) == wrap64 ((E.size : Int) - 1)) = false := by
    rw [w64 (by omega) (by omega)]; exact beq_eq_false_iff_ne.mpr (by omega)
  have hx : E.extract 0 w.length = strOfNums w := by
    apply bytes_inj
    rw [bytes_head, eb, bytes_strOf (fun x hx => by have := hw x hx; omega), List.take_left']
    rfl
  unfold impl_TakeLine.f
  refine Ev.told (cur_ok hat) (Ev.pos rfl (Ev.pos (Int.natCast_nonneg _) (Ev.pos (by omega) ?_)))
  rw [show ((at_ : Int)).toNat = at_ from rfl, hE]
  refine Ev.told hany (Ev.neg (by omega) (Ev.pos (Int.natCast_nonneg _) (Ev.pos (by omega) (Ev.pos b0 ?_))))
  rw [w3]
  refine Ev.step (fun k => impl_TakeLine.j0.eq_2 _ _ _ _ _ k) ?_
  rw [w1, w2]
  refine Ev.neg (by simp) (Ev.pos (Int.natCast_nonneg _) (Ev.pos (by omega) (Ev.pos b0 (Ev.pos (Int.natCast_nonneg _) (Ev.pos (by omega) (Ev.pos b1 (Ev.pos (by omega) ?_)))))))
  rw [show ((w.length : Int)).toNat = w.length from rfl, hx]
  exact Ev.now _
theorem take_short {T : ByteArray} {at_ : Nat} (hT : T.size ≤ 100000) (h128 : ∀ x ∈ bytesOf T, x < 128) (hat : at_ ≤ T.size) (he : (bytesOf T).drop at_ = [101, 110, 100]) :
    Ev (fun k => impl_TakeLine.f k T (at_ : Int)) ((⟨#[]⟩ : ByteArray), (⟨#[]⟩ : ByteArray), 0, 1) := by
  obtain ⟨E, hE⟩ : ∃ E, T.extract at_ T.size = E := ⟨_, rfl⟩
  have eb : bytesOf E = [101, 110, 100] := by rw [← hE, bytes_to_end]; exact he
  have ezT : E.size ≤ T.size := by rw [← bytesOf_length, ← hE, bytes_to_end, List.length_drop, bytesOf_length]; omega
  have hany : Foreign.strings_IndexAny.f E (⟨#[13, 10]⟩ : ByteArray) = some (-1) := by
    unfold Foreign.strings_IndexAny.f
    rw [if_pos ⟨rfl, by omega, by
      intro x hx
      rw [← hE, bytes_to_end] at hx
      exact h128 x (List.mem_of_mem_drop hx)⟩, eb]
    rfl
  unfold impl_TakeLine.f
  refine Ev.told (cur_ok hat) (Ev.pos rfl (Ev.pos (Int.natCast_nonneg _) (Ev.pos (by omega) ?_)))
  rw [show ((at_ : Int)).toNat = at_ from rfl, hE]
  exact Ev.told hany (Ev.pos (by decide) (Ev.step (fun k => impl_TakeLine.j0.eq_2 _ _ _ _ _ k) (Ev.pos rfl (Ev.now _))))
def joinL (l : List ByteArray) : List Int := l.flatMap fun w => bytesOf w ++ [13, 10]
theorem joinL_append (l m : List ByteArray) : joinL (l ++ m) = joinL l ++ joinL m := by simp [joinL]
theorem joinL_cons (w : ByteArray) (m : List ByteArray) : joinL (w :: m) = bytesOf w ++ 13 :: 10 :: joinL m := by simp [joinL]
def Gd (w : ByteArray) : Prop := ∀ x ∈ bytesOf w, 48 ≤ x ∧ x ≤ 57
theorem lines_l1 {T : ByteArray} {l : List ByteArray} (hT : T.size ≤ 100000) (h128 : ∀ x ∈ bytesOf T, x < 128) (eT : bytesOf T = joinL l ++ [101, 110, 100]) (hl : l.length ≤ 100) : ∀ (suf pre : List ByteArray), l = pre ++ suf → (∀ w ∈ suf, Gd w) →
    Ev (fun k => laws_FnLines.l1 k l (pre.length : Int) T (((joinL pre).length : Nat) : Int)) true
  | [], pre, e, _ => by
    have hat : (joinL pre).length ≤ T.size := by rw [← bytesOf_length, eT, e, List.append_nil, List.length_append]; omega
    have hz : T.size = (joinL pre).length + 3 := by rw [← bytesOf_length, eT, e, List.append_nil, List.length_append]; rfl
    have he : (bytesOf T).drop (joinL pre).length = [101, 110, 100] := by rw [eT, e, List.append_nil, List.drop_left']; rfl
    have hs := take_short hT h128 hat he
    have hwd : Foreign.laws_words.f = some true := rfl
    generalize (joinL pre).length = n at *
    have w3 : wrap64 ((n : Int) + 3) = ((n + 3 : Nat) : Int) := by rw [w64 (by omega) (by omega)]; omega
    have w4 : wrap64 ((T.size : Int) - (n : Int)) = 3 := by rw [w64 (by omega) (by omega)]; omega
    have hx : T.extract n (n + 3) = (⟨#[101, 110, 100]⟩ : ByteArray) := by
      apply bytes_inj
      rw [bytes_extract, he, show n + 3 - n = 3 by omega]
      rfl
    have hn : impl_TakeN.f T (n : Int) 3 = some ((⟨#[101, 110, 100]⟩ : ByteArray), T, ((n + 3 : Nat) : Int), true) := by
      unfold impl_TakeN.f impl_within.f
      rw [cur_ok hat, Option.bind_some, if_pos rfl, w4, w3, if_pos (by decide), Option.bind_some, if_pos (by decide), if_pos (Int.natCast_nonneg _), if_pos (by omega), if_pos (by omega), show ((n : Int)).toNat = n from rfl, show (((n + 3 : Nat) : Int)).toNat = n + 3 from rfl, hx]
    refine Ev.step (fun k => laws_FnLines.l1.eq_2 _ _ _ _ k) (Ev.neg (by rw [e, List.append_nil]; omega) ?_)
    exact Ev.bind hs (Ev.told hn (Ev.pos rfl (Ev.pos rfl (Ev.pos (by rw [Lib.toList_data]) (Ev.told (cur_ok hat) (Ev.pos rfl (Ev.told hwd (Ev.now _))))))))
  | w :: suf, pre, e, hg => by
    have hw : Gd w := hg w (by simp)
    have hlen : pre.length < l.length := by rw [e]; simp
    have hat : (joinL pre).length ≤ T.size := by rw [← bytesOf_length, eT, e, joinL_append, List.length_append, List.length_append]; omega
    have he : (bytesOf T).drop (joinL pre).length = bytesOf w ++ 13 :: 10 :: (joinL suf ++ [101, 110, 100]) := by
      rw [eT, e, joinL_append, joinL_cons, List.append_assoc, List.drop_left' rfl]
      simp
    have ht := take_line hT h128 hat hw he
    rw [strOf_bytes] at ht
    have ih := lines_l1 hT h128 eT hl suf (pre ++ [w]) (by rw [e]; simp) (fun v hv => hg v (by simp [hv]))
    have en : (joinL (pre ++ [w])).length = (joinL pre).length + (bytesOf w).length + 2 := by
      rw [joinL_append, joinL_cons, List.length_append, List.length_append]
      simp only [List.length_cons]
      show _ + (_ + (0 + 1 + 1)) = _
      omega
    rw [en, show (pre ++ [w]).length = pre.length + 1 by simp] at ih
    have hr : rdOf ByteArray.empty l (pre.length : Int) = w := by
      show l.getD _ _ = w
      rw [e, show ((pre.length : Int)).toNat = pre.length from rfl, List.getD_eq_getElem?_getD, List.getElem?_append_right (Nat.le_refl _), Nat.sub_self]
      rfl
    have w1 : wrap64 ((pre.length : Int) + 1) = ((pre.length + 1 : Nat) : Int) := by rw [w64 (by omega) (by omega)]; omega
    refine Ev.step (fun k => laws_FnLines.l1.eq_2 _ _ _ _ k) (Ev.pos (by omega) ?_)
    refine Ev.bind ht (Ev.pos rfl (Ev.pos (Int.natCast_nonneg _) (Ev.pos (by rw [hr]) (Ev.pos rfl ?_))))
    rw [w1]
    exact ih
theorem decT_digs : ∀ (f u : Nat), u < 10 ^ (f + 1) → ∀ x ∈ bytesOf (decT u), 48 ≤ x ∧ x ≤ 57
  | 0, u, h => by
    have h : u < 10 := by simpa using h
    rw [decT_small h, bytes_strOf (by intro x hx; simp only [List.mem_singleton] at hx; omega)]
    intro x hx; simp only [List.mem_singleton] at hx; omega
  | f + 1, u, h => by
    by_cases c : u < 10
    · rw [decT_small c, bytes_strOf (by intro x hx; simp only [List.mem_singleton] at hx; omega)]
      intro x hx; simp only [List.mem_singleton] at hx; omega
    · have p : 10 ^ (f + 1 + 1) = 10 ^ (f + 1) * 10 := Nat.pow_succ ..
      rw [decT_big c, bytes_append, bytes_strOf (by intro x hx; simp only [List.mem_singleton] at hx; omega)]
      intro x hx
      rcases List.mem_append.mp hx with h1 | h1
      · exact decT_digs f (u / 10) (by omega) x h1
      · simp only [List.mem_singleton] at h1; omega
theorem join_small : ∀ (l : List ByteArray), (∀ w ∈ l, Gd w) → ∀ x ∈ joinL l, x < 128
  | [], _, x, hx => by simp [joinL] at hx
  | w :: l, h, x, hx => by
    rw [joinL_cons] at hx
    rcases List.mem_append.mp hx with h1 | h1
    · have := h w (by simp) x h1; omega
    · rcases List.mem_cons.mp h1 with rfl | h1
      · decide
      · rcases List.mem_cons.mp h1 with rfl | h1
        · decide
        · exact join_small l (fun v hv => h v (by simp [hv])) x h1
theorem lines_l0 {b : List Int} (hlb : b.length ≤ 140737488351232) (hw : ∀ x ∈ b, 0 ≤ x ∧ x < 256) : ∀ (d i : Nat) (s : ByteArray) (l : List ByteArray), i + d = min b.length 12 → l.length = i → s.size ≤ 6 * i → bytesOf s = joinL l → (∀ w ∈ l, Gd w) → Ev (fun k => laws_FnLines.l0 k b s l (i : Int)) true := by
  intro d
  induction d with
  | zero =>
    intro i s l hi hl hz hj hg
    have hend : bytesOf (s ++ (⟨#[101, 110, 100]⟩ : ByteArray)) = joinL l ++ [101, 110, 100] := by rw [bytes_append, hj]; rfl
    have hsz : (s ++ (⟨#[101, 110, 100]⟩ : ByteArray)).size ≤ 100000 := by
      have h3 : (⟨#[101, 110, 100]⟩ : ByteArray).size = 3 := rfl
      rw [ByteArray.size_append, h3]; omega
    have h1 := lines_l1 (T := s ++ (⟨#[101, 110, 100]⟩ : ByteArray)) (l := l) hsz (by
      intro x hx
      rw [hend] at hx
      rcases List.mem_append.mp hx with h | h
      · exact join_small l hg x h
      · simp only [List.mem_cons, List.not_mem_nil, or_false] at h; omega) hend (by omega) l [] rfl hg
    have hlast : Ev (fun k => laws_FnLines.j1 k b s l (i : Int) false) true :=
      Ev.step (fun k => laws_FnLines.j1.eq_2 _ _ _ _ _ k) (Ev.neg (by simp) (Ev.pos (by omega) h1))
    refine Ev.step (fun k => laws_FnLines.l0.eq_2 _ _ _ _ k) ?_
    by_cases c : (i : Int) < (b.length : Int)
    · refine Ev.pos c ?_
      rw [decide_eq_false (by omega)]; exact hlast
    · exact Ev.neg c hlast
  | succ d ih =>
    intro i s l hi hl hz hj hg
    have hil : i < b.length := by omega
    obtain ⟨y0, y1⟩ := hw _ (getD_mem hil)
    obtain ⟨y, hy⟩ : ∃ y, rd b (i : Int) = y := ⟨_, rfl⟩
    have hyd : y = b.getD i 0 := by rw [← hy]; rfl
    rw [← hyd] at y0 y1
    have hwi : wrap64 ((i : Int) + 1) = ((i + 1 : Nat) : Int) := by rw [w64 (by omega) (by omega)]; omega
    have hwy : wrap64 y = y := w64 (by omega) (by omega)
    have e3 : (10 : Int) ^ (2 + 1) = 1000 := by decide
    have e3' : (10 : Nat) ^ (2 + 1) = 1000 := by decide
    have hd := spec_decT 2 y y0 (by omega) (by omega) (by decide)
    have hds := decT_size 2 y.toNat (by omega)
    have hdg := decT_digs 2 y.toNat (by omega)
    have two : (⟨#[13, 10]⟩ : ByteArray).size = 2 := rfl
    have nil : (⟨#[]⟩ : ByteArray).size = 0 := rfl
    have more := fun (w : ByteArray) (hws : w.size ≤ 3) (hwg : Gd w) => ih (i + 1) ((s ++ w) ++ (⟨#[13, 10]⟩ : ByteArray)) (l ++ [w]) (by omega) (by simp [hl]) (by rw [ByteArray.size_append, ByteArray.size_append, two]; omega) (by
      rw [bytes_append, bytes_append, hj, joinL_append, joinL_cons]
      show _ = _ ++ (_ ++ 13 :: 10 :: [])
      rw [List.append_assoc]; rfl) (by
      intro v hv
      rcases List.mem_append.mp hv with h | h
      · exact hg v h
      · rw [List.mem_singleton.mp h]; exact hwg)
    refine Ev.step (fun k => laws_FnLines.l0.eq_2 _ _ _ _ k) (Ev.pos (by omega) ?_)
    rw [decide_eq_true (show (i : Int) < 12 by omega)]
    refine Ev.step (fun k => laws_FnLines.j1.eq_2 _ _ _ _ _ k) (Ev.pos rfl (Ev.pos (Int.natCast_nonneg _) (Ev.pos (by omega) ?_)))
    rw [hy, hwy, hwi]
    refine Ev.bind hd ?_
    by_cases c : Int.tmod y 5 = 0
    · exact Ev.pos c (Ev.pos (by omega) (Ev.pos (by omega) (Ev.pos (by rw [ByteArray.size_append, nil]; omega) (more ⟨#[]⟩ (by decide) (by intro x hx; cases hx)))))
    · exact Ev.neg c (Ev.pos (by omega) (Ev.pos (by omega) (Ev.pos (by rw [ByteArray.size_append]; omega) (more (decT y.toNat) hds hdg))))
theorem FnLines : laws_FnLines.Pure := by
  intro b hl hb hw
  apply Ev.rounds
  unfold laws_FnLines.f
  have hw' : ∀ x ∈ b, 0 ≤ x ∧ x < 256 := by
    intro x hx
    have := hw x hx
    simp only [Lit.wf, IntKind.min, IntKind.max, IntKind.signed, IntKind.bits, Bool.and_eq_true, decide_eq_true_eq] at this
    obtain ⟨p, q⟩ := this
    simp at p q
    omega
  exact lines_l0 (by omega) hw' (min b.length 12) 0 ⟨#[]⟩ [] (by omega) rfl (by decide) rfl (by intro w hw; cases hw)

end Go.Proofs.YtikeagkcekkioaaDoor.Pure
