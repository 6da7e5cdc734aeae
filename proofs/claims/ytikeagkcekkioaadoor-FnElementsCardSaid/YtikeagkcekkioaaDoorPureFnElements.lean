/- The law FnElements answers true for every code: words come back from a list of them, whatever blanks and commas stand between. No condition. -/
import Derived.Test.YtikeagkcekkioaaDoorQFnElementsx2
import Derived.Test.YtikeagkcekkioaaDoorBase
namespace Go.Proofs.YtikeagkcekkioaaDoor.Pure
open Go.RowKit Go.Proofs.YtikeagkcekkioaaDoor.PFnElements Go.Proofs.YtikeagkcekkioaaDoorW.PrintWords Go.Proofs.YtikeagkcekkioaaDoorW.PrintLast Go.Proofs.YtikeagkcekkioaaDoorW.PrintMore Go.Proofs.YtikeagkcekkioaaDoor.Base
set_option linter.unusedVariables false
set_option linter.unusedSimpArgs false

/-! A list's elements, over bytes alone -/
open Foreign (ws trim trimL trimR el addE el_end)
def addL (out : List ByteArray) (cur : List Int) : List ByteArray := if trim cur = [] then out else out ++ [strOfNums (trim cur)]
def spq : Nat → List Int → Bool → List Int → List ByteArray → List ByteArray
  | 0, l, _, cur, out => addL out (cur ++ l)
  | _ + 1, [], _, cur, out => addL out cur
  | d + 1, b :: r, q, cur, out =>
    if b = 34 then spq d r (!q) (cur ++ [b]) out
    else if q = true ∧ b = 92 then spq d (r.drop 1) q (cur ++ [b] ++ r.take 1) out
    else if q = false ∧ b = 44 then spq d r q [] (addL out cur)
    else spq d r q (cur ++ [b]) out
theorem spq_nil (d : Nat) (q : Bool) (cur : List Int) (out : List ByteArray) : spq d [] q cur out = addL out cur := by
  cases d with
  | zero => rw [spq, List.append_nil]
  | succ d => rw [spq]
theorem addE_L (out : List ByteArray) (s : ByteArray) (f : Nat) : addE out (s.extract f s.size) = addL out ((bytesOf s).drop f) := by
  unfold addE addL
  rw [bytes_to_end]
theorem cut_more {l : List Int} {f i : Nat} (hf : f ≤ i) (hi : i < l.length) : (l.drop f).take (i + 1 - f) = (l.drop f).take (i - f) ++ [l.getD i 0] := by
  have h : i - f < (l.drop f).length := by rw [List.length_drop]; omega
  rw [show i + 1 - f = (i - f) + 1 by omega, take_snoc h]
  congr 2
  rw [List.getD_eq_getElem?_getD, List.getD_eq_getElem?_getD, List.getElem?_drop, show f + (i - f) = i by omega]
theorem cut_all {l : List Int} {f i : Nat} (h : l.length ≤ i) : (l.drop f).take (i - f) = l.drop f := by
  apply List.take_of_length_le
  rw [List.length_drop]; omega
theorem el_spq (s : ByteArray) : ∀ (d i f : Nat) (q : Bool) (out : List ByteArray), f ≤ i → el s d i f q out = spq d ((bytesOf s).drop i) q (((bytesOf s).drop f).take (i - f)) out
  | 0, i, f, q, out, h => by
    show addE out (s.extract f s.size) = addL out (((bytesOf s).drop f).take (i - f) ++ (bytesOf s).drop i)
    rw [addE_L]
    congr 1
    rw [show (bytesOf s).drop i = ((bytesOf s).drop f).drop (i - f) by rw [List.drop_drop, show f + (i - f) = i by omega], List.take_append_drop]
  | d + 1, i, f, q, out, h => by
    by_cases hi : i < s.size
    · have hil : i < (bytesOf s).length := by rw [bytesOf_length]; exact hi
      rw [el, if_pos hi, drop_cons hil, spq]
      generalize hb : (bytesOf s).getD i 0 = b
      by_cases c34 : b = 34
      · rw [if_pos c34, if_pos c34, el_spq s d (i + 1) f (!q) out (by omega), cut_more h hil, hb]
      · rw [if_neg c34, if_neg c34]
        by_cases c92 : q = true ∧ b = 92
        · rw [if_pos c92, if_pos c92, el_spq s d (i + 2) f q out (by omega), List.drop_drop]
          congr 1
          by_cases h2 : i + 1 < (bytesOf s).length
          · rw [show i + 2 - f = (i + 1) + 1 - f by omega, cut_more (by omega) h2, cut_more h hil, hb, drop_cons h2]
            rfl
          · rw [cut_all (by omega), List.drop_eq_nil_of_le (by omega : (bytesOf s).length ≤ i + 1), List.take_nil, List.append_nil, ← hb, ← cut_more h hil, cut_all (by omega)]
        · rw [if_neg c92, if_neg c92]
          by_cases c44 : q = false ∧ b = 44
          · rw [if_pos c44, if_pos c44, el_spq s d (i + 1) (i + 1) q _ (by omega), Nat.sub_self, List.take_zero]
            congr 1
            unfold addE addL
            rw [bytes_extract]
          · rw [if_neg c44, if_neg c44, el_spq s d (i + 1) f q out (by omega), cut_more h hil, hb]
    · rw [el_end hi, List.drop_eq_nil_of_le (by rw [bytesOf_length]; omega), spq_nil, addE_L, cut_all (by rw [bytesOf_length]; omega)]
/-- blanks and tabs alone -/
def Bl (l : List Int) : Prop := ∀ x ∈ l, ws x = true
theorem ws_ne {x : Int} (h : ws x = true) : x ≠ 34 ∧ x ≠ 44 := by
  unfold ws at h
  simp only [Bool.or_eq_true, beq_iff_eq] at h
  omega
theorem dropW_bl : ∀ (l m : List Int), Bl l → (l ++ m).dropWhile ws = m.dropWhile ws
  | [], m, _ => rfl
  | x :: l, m, h => by
    rw [List.cons_append, List.dropWhile_cons, if_pos (h x (by simp))]
    exact dropW_bl l m fun y hy => h y (by simp [hy])
theorem trim_bl {l : List Int} (h : Bl l) : trim l = [] := by
  have : l.dropWhile ws = [] := by have := dropW_bl l [] h; rwa [List.append_nil] at this
  unfold trim trimL
  rw [this]; rfl
theorem Bl.rev {l : List Int} (h : Bl l) : Bl l.reverse := fun x hx => h x (List.mem_reverse.mp hx)
/-- what stands between blanks, where both its ends are no blank -/
theorem trim_mid {p m t : List Int} {a z : Int} (hp : Bl p) (ht : Bl t) (ha : ws a = false) (hz : ws z = false) (n : List Int) (e1 : ∃ m', n = a :: m') (e2 : ∃ m', n = m' ++ [z]) : trim (p ++ n ++ t) = n := by
  obtain ⟨m1, h1⟩ := e1
  obtain ⟨m2, h2⟩ := e2
  have hL : trimL (p ++ n ++ t) = n ++ t := by
    unfold trimL
    rw [List.append_assoc, dropW_bl p _ hp, h1, List.cons_append, List.dropWhile_cons, if_neg (by rw [ha]; simp)]
  unfold trim
  rw [hL]
  unfold trimR
  rw [List.reverse_append, dropW_bl _ _ ht.rev, h2, List.reverse_append, List.reverse_singleton, List.singleton_append, List.dropWhile_cons, if_neg (by rw [hz]; simp), List.reverse_cons, List.reverse_reverse]
theorem sp_plain {b : Int} (h34 : b ≠ 34) (h44 : b ≠ 44) (d : Nat) (r cur : List Int) (out : List ByteArray) : spq (d + 1) (b :: r) false cur out = spq d r false (cur ++ [b]) out := by
  rw [spq, if_neg h34, if_neg (fun h => Bool.noConfusion h.1), if_neg (fun h => h44 h.2)]
theorem sp_comma (d : Nat) (r cur : List Int) (out : List ByteArray) : spq (d + 1) (44 :: r) false cur out = spq d r false [] (addL out cur) := by
  rw [spq, if_neg (by decide), if_neg (fun h => Bool.noConfusion h.1), if_pos ⟨rfl, rfl⟩]
theorem sp_quote (d : Nat) (r cur : List Int) (q : Bool) (out : List ByteArray) : spq (d + 1) (34 :: r) q cur out = spq d r (!q) (cur ++ [34]) out := by
  rw [spq, if_pos rfl]
theorem sp_in {b : Int} (h34 : b ≠ 34) (h92 : b ≠ 92) (d : Nat) (r cur : List Int) (out : List ByteArray) : spq (d + 1) (b :: r) true cur out = spq d r true (cur ++ [b]) out := by
  rw [spq, if_neg h34, if_neg (fun h => h92 h.2), if_neg (fun h => Bool.noConfusion h.1)]
theorem sp_esc (b : Int) (d : Nat) (r cur : List Int) (out : List ByteArray) : spq (d + 1) (92 :: b :: r) true cur out = spq d r true (cur ++ [92, b]) out := by
  rw [spq, if_neg (by decide), if_pos ⟨rfl, rfl⟩]
  simp
theorem bl_run : ∀ (p : List Int) (_ : Bl p) (d : Nat) (r cur : List Int) (out : List ByteArray), spq (p.length + d) (p ++ r) false cur out = spq d r false (cur ++ p) out
  | [], _, d, r, cur, out => by simp
  | x :: p, h, d, r, cur, out => by
    have hx := ws_ne (h x (by simp))
    rw [show (x :: p).length + d = (p.length + d) + 1 by simp only [List.length_cons]; omega, List.cons_append, sp_plain hx.1 hx.2, bl_run p (fun y hy => h y (by simp [hy])), List.append_assoc]
    rfl
theorem sep_run : ∀ (p : List Int) (_ : ∀ x ∈ p, ws x = true ∨ x = 44) (d : Nat) (r cur : List Int) (out : List ByteArray) (_ : Bl cur), ∃ cur', Bl cur' ∧ spq (p.length + d) (p ++ r) false cur out = spq d r false cur' out
  | [], _, d, r, cur, out, hc => ⟨cur, hc, by simp⟩
  | x :: p, h, d, r, cur, out, hc => by
    have hp : ∀ y ∈ p, ws y = true ∨ y = 44 := fun y hy => h y (by simp [hy])
    have e : (x :: p).length + d = (p.length + d) + 1 := by simp only [List.length_cons]; omega
    rcases h x (by simp) with hx | rfl
    · have hn := ws_ne hx
      obtain ⟨c', hc', e'⟩ := sep_run p hp d r (cur ++ [x]) out (by
        intro y hy
        rcases List.mem_append.mp hy with h1 | h1
        · exact hc y h1
        · rw [List.mem_singleton.mp h1]; exact hx)
      exact ⟨c', hc', by rw [e, List.cons_append, sp_plain hn.1 hn.2, e']⟩
    · obtain ⟨c', hc', e'⟩ := sep_run p hp d r [] out (by intro y hy; cases hy)
      refine ⟨c', hc', ?_⟩
      rw [e, List.cons_append, sp_comma, ← e']
      congr 1
      unfold addL
      rw [if_pos (trim_bl hc)]
theorem word_run {a b : Int} (ha : ws a = false) (ha3 : a ≠ 34) (ha4 : a ≠ 44) (hb : ws b = false) (hb3 : b ≠ 34) (hb4 : b ≠ 44) (cur tail : List Int) (hc : Bl cur) (ht : Bl tail) (d : Nat) (r : List Int) (out : List ByteArray) :
    spq (tail.length + d + 3) (a :: b :: (tail ++ 44 :: r)) false cur out = spq d r false [] (out ++ [strOfNums [a, b]]) := by
  rw [sp_plain ha3 ha4, sp_plain hb3 hb4, show tail.length + d + 1 = tail.length + (d + 1) by omega, bl_run tail ht, sp_comma]
  congr 1
  have e : trim (cur ++ [a] ++ [b] ++ tail) = [a, b] := by
    rw [show cur ++ [a] ++ [b] ++ tail = cur ++ [a, b] ++ tail by simp]
    exact trim_mid (m := []) hc ht ha hb [a, b] ⟨[b], rfl⟩ ⟨[a], rfl⟩
  unfold addL
  rw [e, if_neg (by simp)]
theorem same_self (l : List ByteArray) (hl : l.length ≤ 9223372036854775807) : Ev (fun k => laws_sameTexts.f k l l) true := by
  unfold laws_sameTexts.f
  refine Ev.pos rfl ?_
  have : ∀ (d i : Nat), i + d = l.length → Ev (fun k => laws_sameTexts.l0 k l l (i : Int)) true := by
    intro d
    induction d with
    | zero => intro i h; exact Ev.step (fun k => laws_sameTexts.l0.eq_2 _ _ _ k) (Ev.neg (by omega) (Ev.now _))
    | succ d ih =>
      intro i h
      have hw : wrap64 ((i : Int) + 1) = ((i + 1 : Nat) : Int) := by rw [w64 (by omega) (by omega)]; omega
      refine Ev.step (fun k => laws_sameTexts.l0.eq_2 _ _ _ k) (Ev.pos (by omega) (Ev.pos (by omega) (Ev.pos (by omega) (Ev.pos rfl ?_))))
      rw [hw]; exact ih (i + 1) (by omega)
  exact this l.length 0 (by omega)

def Came (l : List ByteArray) (s : ByteArray) : Prop := ∀ (d : Nat) (r : List Int), ∃ cur, Bl cur ∧ spq ((bytesOf s).length + d) (bytesOf s ++ r) false [] [] = spq d r false cur l
theorem came_end {l : List ByteArray} {s : ByteArray} (h : Came l s) (hs : s.size ≤ 4000) : Foreign.impl_Elements.f s = some l := by
  obtain ⟨cur, hc, e⟩ := h 0 []
  have : el s s.size 0 0 false [] = l := by
    rw [el_spq s s.size 0 0 false [] (Nat.le_refl _), List.drop_zero, Nat.sub_self, List.take_zero]
    rw [List.append_nil, Nat.add_zero, bytesOf_length, spq_nil] at e
    rw [e]
    unfold addL
    rw [if_pos (trim_bl hc)]
  unfold Foreign.impl_Elements.f
  rw [if_pos hs, this]
theorem pre_ok (j : Int) (h0 : 0 ≤ j) (h1 : j < 4) : (∀ x ∈ bytesOf (rdOf ByteArray.empty [(⟨#[]⟩ : ByteArray), (⟨#[32]⟩ : ByteArray), (⟨#[44]⟩ : ByteArray), (⟨#[44, 32, 9, 44]⟩ : ByteArray)] j), ws x = true ∨ x = 44) ∧ (rdOf ByteArray.empty [(⟨#[]⟩ : ByteArray), (⟨#[32]⟩ : ByteArray), (⟨#[44]⟩ : ByteArray), (⟨#[44, 32, 9, 44]⟩ : ByteArray)] j).size ≤ 4 := by
  rcases (by omega : j = 0 ∨ j = 1 ∨ j = 2 ∨ j = 3) with rfl | rfl | rfl | rfl
  · exact ⟨by show ∀ x ∈ ([] : List Int), _; simp, by decide⟩
  · exact ⟨by show ∀ x ∈ ([32] : List Int), _; simp [ws], by decide⟩
  · exact ⟨by show ∀ x ∈ ([44] : List Int), _; simp [ws], by decide⟩
  · exact ⟨by show ∀ x ∈ ([44, 32, 9, 44] : List Int), _; simp [ws], by decide⟩
theorem post_ok (j : Int) (h0 : 0 ≤ j) (h1 : j < 4) : ∃ tail more : List Int, bytesOf (rdOf ByteArray.empty [(⟨#[44]⟩ : ByteArray), (⟨#[32, 44]⟩ : ByteArray), (⟨#[44, 44]⟩ : ByteArray), (⟨#[44, 32]⟩ : ByteArray)] j) = tail ++ 44 :: more ∧ Bl tail ∧ (∀ x ∈ more, ws x = true ∨ x = 44) ∧ (rdOf ByteArray.empty [(⟨#[44]⟩ : ByteArray), (⟨#[32, 44]⟩ : ByteArray), (⟨#[44, 44]⟩ : ByteArray), (⟨#[44, 32]⟩ : ByteArray)] j).size ≤ 4 := by
  rcases (by omega : j = 0 ∨ j = 1 ∨ j = 2 ∨ j = 3) with rfl | rfl | rfl | rfl
  · exact ⟨[], [], rfl, by simp [Bl], by simp, by decide⟩
  · exact ⟨[32], [], rfl, by simp [Bl, ws], by simp, by decide⟩
  · exact ⟨[], [44], rfl, by simp [Bl], by simp, by decide⟩
  · exact ⟨[], [32], rfl, by simp [Bl], by simp [ws], by decide⟩
theorem came_more {l : List ByteArray} {s p t : ByteArray} {a b : Int} (h : Came l s) (hp : ∀ x ∈ bytesOf p, ws x = true ∨ x = 44) (ht : ∃ tail more : List Int, bytesOf t = tail ++ 44 :: more ∧ Bl tail ∧ ∀ x ∈ more, ws x = true ∨ x = 44)
    (ha : 97 ≤ a ∧ a ≤ 122) (hb : 48 ≤ b ∧ b ≤ 57) : Came (l ++ [strOfNums [a, b]]) (((s ++ p) ++ strOfNums [a, b]) ++ t) := by
  intro d r
  obtain ⟨tail, more, e, htl, hm⟩ := ht
  have wa : ws a = false := by unfold ws; simp; omega
  have wb : ws b = false := by unfold ws; simp; omega
  have eb : bytesOf (((s ++ p) ++ strOfNums [a, b]) ++ t) ++ r = bytesOf s ++ (bytesOf p ++ (a :: b :: (tail ++ 44 :: (more ++ r)))) := by
    rw [bytes_append, bytes_append, bytes_append, bytes_strOf (by intro x hx; simp only [List.mem_cons, List.not_mem_nil, or_false] at hx; omega), e]
    simp
  have en : (bytesOf (((s ++ p) ++ strOfNums [a, b]) ++ t)).length + d = (bytesOf s).length + ((bytesOf p).length + (tail.length + (more.length + d) + 3)) := by
    rw [bytes_append, bytes_append, bytes_append, bytes_strOf (by intro x hx; simp only [List.mem_cons, List.not_mem_nil, or_false] at hx; omega), e]
    simp only [List.length_append, List.length_cons, List.length_nil]
    omega
  rw [eb, en]
  obtain ⟨c1, h1, e1⟩ := h ((bytesOf p).length + (tail.length + (more.length + d) + 3)) (bytesOf p ++ (a :: b :: (tail ++ 44 :: (more ++ r))))
  obtain ⟨c2, h2, e2⟩ := sep_run (bytesOf p) hp (tail.length + (more.length + d) + 3) (a :: b :: (tail ++ 44 :: (more ++ r))) c1 l h1
  have e3 := word_run wa (by omega) (by omega) wb (by omega) (by omega) c2 tail h2 htl (more.length + d) (more ++ r) l
  obtain ⟨c4, h4, e4⟩ := sep_run more hm d r [] (l ++ [strOfNums [a, b]]) (by intro y hy; cases hy)
  exact ⟨c4, h4, by rw [e1, e2, e3, e4]⟩
theorem elements_l0 {b : List Int} (hlb : b.length ≤ 140737488351232) (hw : ∀ x ∈ b, 0 ≤ x ∧ x < 256) : ∀ (d i : Nat) (l : List ByteArray) (s : ByteArray), i + d = min b.length 9 → l.length = i → s.size ≤ 20 * i → Came l s → Ev (fun k => laws_FnElements.l0 k b l s (i : Int)) true := by
  intro d
  have hwd : Foreign.laws_words.f = some true := rfl
  induction d with
  | zero =>
    intro i l s hi hl hz hc
    have he := came_end hc (by omega)
    have hs := same_self l (by omega)
    refine Ev.step (fun k => laws_FnElements.l0.eq_2 _ _ _ _ k) ?_
    by_cases c : (i : Int) < (b.length : Int)
    · exact Ev.pos c (Ev.neg (by omega) (Ev.told he (Ev.bind hs (Ev.pos rfl (Ev.told hwd (Ev.now _))))))
    · exact Ev.neg c (Ev.told he (Ev.bind hs (Ev.pos rfl (Ev.told hwd (Ev.now _)))))
  | succ d ih =>
    intro i l s hi hl hz hc
    have hil : i < b.length := by omega
    obtain ⟨y0, y1⟩ := hw _ (getD_mem hil)
    obtain ⟨y, hy⟩ : ∃ y, rd b (i : Int) = y := ⟨_, rfl⟩
    have hyd : y = b.getD i 0 := by rw [← hy]; rfl
    rw [← hyd] at y0 y1
    have hwi : wrap64 ((i : Int) + 1) = ((i + 1 : Nat) : Int) := by rw [w64 (by omega) (by omega)]; omega
    have ea : (97 + Int.tmod y 26) % 256 = 97 + y % 26 := by rw [Int.tmod_eq_emod_of_nonneg y0]; omega
    have eb : (48 + Int.tmod y 10) % 256 = 48 + y % 10 := by rw [Int.tmod_eq_emod_of_nonneg y0]; omega
    have ep : (Int.tdiv y 64) % 256 = y / 64 := by rw [Int.tdiv_eq_ediv_of_nonneg y0]; omega
    have eq : ((Int.tdiv y 16) % 256) % 4 = y / 16 % 4 := by rw [Int.tdiv_eq_ediv_of_nonneg y0]; omega
    obtain ⟨hp, hpz⟩ := pre_ok (y / 64) (by omega) (by omega)
    obtain ⟨tail, more, ht, htl, hm, htz⟩ := post_ok (y / 16 % 4) (by omega) (by omega)
    have hc2 := came_more (a := 97 + y % 26) (b := 48 + y % 10) hc hp ⟨tail, more, ht, htl, hm⟩ (by omega) (by omega)
    have hw2 : (strOfNums [97 + y % 26, 48 + y % 10]).size = 2 := by rw [size_strOf]; rfl
    refine Ev.step (fun k => laws_FnElements.l0.eq_2 _ _ _ _ k) (Ev.pos (by omega) (Ev.pos (by omega) (Ev.pos (by omega) ?_)))
    rw [hy, ea, eb, ep, eq, hwi]
    refine Ev.told rfl (Ev.pos (by omega) (Ev.told rfl (Ev.pos (by omega) (Ev.pos (by show y / 64 < 4; omega) (Ev.pos (by omega) (Ev.pos (by rw [ByteArray.size_append, hw2]; omega) (Ev.told rfl (Ev.pos (by omega) (Ev.pos (by show y / 16 % 4 < 4; omega) (Ev.pos (by rw [ByteArray.size_append, ByteArray.size_append, hw2]; omega) ?_))))))))))
    exact ih (i + 1) _ _ (by omega) (by simp [hl]) (by rw [ByteArray.size_append, ByteArray.size_append, ByteArray.size_append, hw2]; omega) hc2
theorem FnElements : laws_FnElements.Pure := by
  intro b hl hb hw
  apply Ev.rounds
  unfold laws_FnElements.f
  have hw' : ∀ x ∈ b, 0 ≤ x ∧ x < 256 := by
    intro x hx
    have := hw x hx
    simp only [Lit.wf, IntKind.min, IntKind.max, IntKind.signed, IntKind.bits, Bool.and_eq_true, decide_eq_true_eq] at this
    obtain ⟨p, q⟩ := this
    simp at p q
    omega
  exact elements_l0 (by omega) hw' (min b.length 9) 0 [] ⟨#[]⟩ (by omega) rfl (by decide) (fun d r => ⟨[], (by intro y hy; cases hy), (by show spq (0 + d) ([] ++ r) false [] [] = _; rw [Nat.zero_add]; rfl)⟩)

end Go.Proofs.YtikeagkcekkioaaDoor.Pure
