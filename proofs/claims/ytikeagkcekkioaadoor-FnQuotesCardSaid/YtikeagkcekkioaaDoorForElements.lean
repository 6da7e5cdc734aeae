/- What the program's Elements tells: the list's elements, one after the other, as a function that the printed walks may call. Condition: a text that has room. -/
import Derived.Test.YtikeagkcekkioaaDoorQwordsx2
import Derived.Test.YtikeagkcekkioaaDoorBase
import Derived.Outline
import Derived.Deep.LoopGhost
import Derived.WalkKit
import Derived.KernelRfl
namespace Go.Proofs.YtikeagkcekkioaaDoor.Foreign
set_option linter.unusedVariables false
set_option linter.unusedSimpArgs false
open Go.RowKit Go.Proofs.YtikeagkcekkioaaDoor.Pwords Go.Proofs.YtikeagkcekkioaaDoorW.PrintWords Go.Proofs.YtikeagkcekkioaaDoorW.PrintLast Go.Proofs.YtikeagkcekkioaaDoorW.PrintMore Go.Proofs.YtikeagkcekkioaaDoor.Base
/-! A text without blanks and tabs around it -/
def ws (x : Int) : Bool := x == 32 || x == 9
def trimL (l : List Int) : List Int := l.dropWhile ws
def trimR (l : List Int) : List Int := (l.reverse.dropWhile ws).reverse
def trim (l : List Int) : List Int := trimR (trimL l)
theorem trimR_nil : trimR [] = [] := rfl
theorem trimR_ws {l : List Int} {x : Int} (h : ws x = true) : trimR (l ++ [x]) = trimR l := by simp [trimR, List.dropWhile, h]
theorem trimR_other {l : List Int} {x : Int} (h : ws x = false) : trimR (l ++ [x]) = l ++ [x] := by simp [trimR, List.dropWhile, h]
theorem trimL_ws {l : List Int} {x : Int} (h : ws x = true) : trimL (x :: l) = trimL l := by simp [trimL, List.dropWhile, h]
theorem trimL_other {l : List Int} {x : Int} (h : ws x = false) : trimL (x :: l) = x :: l := by simp [trimL, List.dropWhile, h]
theorem impl_space (x : Int) : impl_isSpace.f x = some (ws x) := by
  unfold impl_isSpace.f ws
  by_cases h : x = 32 <;> simp [h]
theorem impl_trim_l1 : ∀ (n : Nat) (s : ByteArray), s.size = n → s.size ≤ 140737488351232 → Ev (fun k => impl_Trim.l1 k s) (strOfNums (trimR (bytesOf s))) := by
  intro n
  induction n with
  | zero =>
    intro s hs hb
    refine Ev.step (fun k => impl_Trim.l1.eq_2 s k) ?_
    have hz : bytesOf s = [] := List.eq_nil_of_length_eq_zero (by rw [bytesOf_length, hs])
    refine Ev.pos (toList_nil.mpr hz) ?_
    have e : s = strOfNums (trimR (bytesOf s)) := by
      conv => lhs; rw [← strOf_bytes s]
      rw [hz]; rfl
    rw [← e]
    exact Ev.now s
  | succ n ih =>
    intro s hs hb
    have hsz : (s.size : Int) = (n : Int) + 1 := by omega
    have hw : wrap64 ((s.size : Int) - 1) = (n : Int) := by rw [w64 (by omega) (by omega)]; omega
    have hl : bytesOf s = (bytesOf s).take n ++ [(bytesOf s).getD n 0] := by
      have h1 := take_snoc (xs := bytesOf s) (i := n) (by rw [bytesOf_length]; omega)
      rw [← h1, List.take_of_length_le (by rw [bytesOf_length]; omega)]
    refine Ev.step (fun k => impl_Trim.l1.eq_2 s k) ?_
    refine Ev.neg (fun h => by have := toList_nil_size.mp h; omega) ?_
    rw [hw]
    refine Ev.pos (by omega) (Ev.pos (by omega) ?_)
    refine Ev.told (impl_space _) ?_
    rw [bt_nat]
    cases hx : ws ((bytesOf s).getD n 0) with
    | true =>
      refine Ev.pos rfl (Ev.pos (by omega) ?_)
      have h2 := ih (s.extract 0 n) (by rw [size_extract _ _ _ (by omega)]; omega) (by rw [size_extract _ _ _ (by omega)]; omega)
      rw [bytes_head] at h2
      rw [hl, trimR_ws hx]
      exact h2
    | false =>
      refine Ev.neg (by simp) ?_
      have e : s = strOfNums (trimR (bytesOf s)) := by
        conv => lhs; rw [← strOf_bytes s]
        rw [hl, trimR_other hx]
      rw [← e]
      exact Ev.now s
theorem impl_trim_l0 : ∀ (n : Nat) (s : ByteArray), s.size = n → s.size ≤ 140737488351232 → Ev (fun k => impl_Trim.l0 k s) (strOfNums (trim (bytesOf s))) := by
  intro n
  induction n with
  | zero =>
    intro s hs hb
    refine Ev.step (fun k => impl_Trim.l0.eq_2 s k) ?_
    have hz : bytesOf s = [] := List.eq_nil_of_length_eq_zero (by rw [bytesOf_length, hs])
    refine Ev.pos (toList_nil.mpr hz) ?_
    refine Ev.step (fun k => impl_Trim.j1.eq_2 s k) ?_
    have := impl_trim_l1 0 s hs hb
    rw [hz] at this ⊢
    exact this
  | succ n ih =>
    intro s hs hb
    have hl : bytesOf s = (bytesOf s).getD 0 0 :: (bytesOf s).drop 1 := by
      have h1 := drop_cons (xs := bytesOf s) (i := 0) (by rw [bytesOf_length]; omega)
      simpa using h1
    refine Ev.step (fun k => impl_Trim.l0.eq_2 s k) ?_
    refine Ev.neg (fun h => by have := toList_nil_size.mp h; omega) ?_
    refine Ev.pos (by omega) ?_
    refine Ev.told (impl_space _) ?_
    rw [show bt s 0 = (bytesOf s).getD 0 0 from bt_nat s 0]
    cases hx : ws ((bytesOf s).getD 0 0) with
    | true =>
      refine Ev.pos rfl (Ev.pos (by omega) ?_)
      have h2 := ih (s.extract 1 s.size) (by rw [size_extract _ _ _ (by omega)]; omega) (by rw [size_extract _ _ _ (by omega)]; omega)
      rw [bytes_to_end] at h2
      rw [hl]
      unfold trim
      rw [trimL_ws hx]
      exact h2
    | false =>
      refine Ev.neg (by simp) ?_
      refine Ev.step (fun k => impl_Trim.j1.eq_2 s k) ?_
      have h2 := impl_trim_l1 _ s rfl hb
      have e : trim (bytesOf s) = trimR (bytesOf s) := by
        unfold trim; rw [hl, trimL_other hx]
      rw [e]
      exact h2
theorem impl_trim (s : ByteArray) (hb : s.size ≤ 140737488351232) : Ev (fun k => impl_Trim.f k s) (strOfNums (trim (bytesOf s))) := impl_trim_l0 _ s rfl hb

def addE (out : List ByteArray) (e : ByteArray) : List ByteArray := if trim (bytesOf e) = [] then out else out ++ [strOfNums (trim (bytesOf e))]
def el (s : ByteArray) : Nat → Nat → Nat → Bool → List ByteArray → List ByteArray
  | 0, _, f, _, out => addE out (s.extract f s.size)
  | d + 1, i, f, q, out =>
    if i < s.size then
      if (bytesOf s).getD i 0 = 34 then el s d (i + 1) f (!q) out
      else if q = true ∧ (bytesOf s).getD i 0 = 92 then el s d (i + 2) f q out
      else if q = false ∧ (bytesOf s).getD i 0 = 44 then el s d (i + 1) (i + 1) q (addE out (s.extract f i))
      else el s d (i + 1) f q out
    else addE out (s.extract f s.size)
theorem trim_c (e : ByteArray) (he : e.size ≤ 140737488351232) (w : World) : Calls Tryd.prog 45 #[.string e] w fun r w' => r = .returned (.string (strOfNums (trim (bytesOf e)))) ∧ Drawn0 w w' := by
  obtain ⟨k, hk⟩ := Ev.rounds (impl_trim e he)
  exact Pwords.impl_Trim.calls k e _ w hk
theorem info9' : (Tryd.prog.info? 9).map (fun i => (i.zero, i.size, i.bytes)) = some (some (.string ⟨#[]⟩), 1, 16) := by kernel_rfl
theorem addE_length (xs : List ByteArray) (e : ByteArray) : (addE xs e).length ≤ xs.length + 1 := by unfold addE; split <;> simp
set_option maxHeartbeats 2000000 in
set_option maxRecDepth 100000 in
theorem add_c (e : ByteArray) (he : e.size ≤ 140737488351232) (v : Value) (xs : List ByteArray) (hx : xs.length ≤ 10000) (w W : World) (B : Nat) (hb : W.heap[B]? = some (.cells #[v] 27 (0, 0))) (hB : w.heap.size ≤ B)
    (HO : Kd.R Kd.string 9 W w.heap.size (fun _ => True) v xs) (HB : Below w.heap.size w W) :
    Calls Tryd.prog 47 #[.string e, .pointer (some ⟨B, 0, none⟩)] W fun r W' => r = .returned (.tuple #[]) ∧ ∃ v', W'.heap[B]? = some (.cells #[v'] 27 (0, 0)) ∧ Kd.R Kd.string 9 W' w.heap.size (fun _ => True) v' (addE xs e) ∧ Below w.heap.size w W' := by
  have ht := fun W' => trim_c e he W'
  by_cases c : trim (bytesOf e) = []
  · have ha : addE xs e = xs := if_pos c
    rw [ha]
    rw [c] at ht
    have HBK : Aside (W.heap[B]? = some (.cells #[v] 27 (0, 0))) := hb
    have HOK : Aside (Kd.R Kd.string 9 W w.heap.size (fun _ => True) v xs) := HO
    have HBB : Aside (Below w.heap.size w W) := HB
    have hq : (strOfNums []).toList.isEmpty = true := by rw [Lib.toList_data]; rfl
    clear HO HB hb ha c
    go_enter Tryd.func47, Tryd.ntmps47
    go_wp2_with (go_at_call 45; refine (ht _).mono ?_; rintro e w1 ⟨rfl, hd⟩; have HD : Aside (Drawn0 W w1) := hd; clear hd)
    go_end0
    exact ⟨rfl, v, blk_below HBK.out HD.out.below, Kd.R_below HOK.out HD.out.below, HBB.out.trans (HD.out.below.mono HBB.out.size)⟩
  · have ha : addE xs e = xs ++ [strOfNums (trim (bytesOf e))] := if_neg c
    rw [ha]
    have hq : (strOfNums (trim (bytesOf e))).toList.isEmpty = false := by
      rw [Lib.toList_data]
      cases h : (strOfNums (trim (bytesOf e))).data.toList with
      | nil =>
        have hz : (strOfNums (trim (bytesOf e))).size = 0 := by have := congrArg List.length h; exact this
        rw [strOfNums_size] at hz
        exact absurd (List.length_eq_zero_iff.mp hz) c
      | cons _ _ => rfl
    obtain ⟨t, het⟩ : ∃ t, strOfNums (trim (bytesOf e)) = t := ⟨_, rfl⟩
    rw [het] at hq ht ⊢
    have HBK : Aside (W.heap[B]? = some (.cells #[v] 27 (0, 0))) := hb
    have HOK : Aside (Kd.R Kd.string 9 W w.heap.size (fun _ => True) v xs) := HO
    have HBB : Aside (Below w.heap.size w W) := HB
    clear HO HB hb ha c het
    go_enter Tryd.func47, Tryd.ntmps47
    go_wp2_with (first
      | ((with_reducible refine gate_builtin (b := .append) (xs := #[.tmp 7, .tmp 9]) rfl ?_); at_builtin; refine Kd.R_append Kd.string (w0 := w) w.heap.size rfl (.tmp 7) (.tmp 9) 27 9 (.string ⟨#[]⟩) 16 rfl Tryd.underlying27 info9' rfl (by decide) (by omega) v xs t [.string t] (fun _ => True) (fun _ => False) rfl rfl ?aP (fun _ hk => hk.elim) ?aF ?aO ?aB ?aS ?aL ?_; (case aP => exact rfl); (case aF => exact (fun _ _ => trivial)); (case aO => exact Kd.R_drewN HOK.out nd); (case aB => exact pw_below_drewN HBB.out nd); (case aS => exact HBB.out.size); (case aL => omega); intro v1 w2 ho hb2 hg hat; obtain ⟨A1, c1, rfl⟩ := Kd.R_slice ho; have HO1 : Aside (Kd.R Kd.string 9 w2 w.heap.size (fun _ => True) (.slice A1 (xs.length + 1) c1) (xs ++ [t])) := (by rw [List.length_append] at ho; exact ho); have HB1 : Aside (Below w.heap.size w w2) := hb2; have HK1 : Aside (w2.heap[B]? = some (.cells #[v] 27 (0, 0))) := blk_grown (blk_drewN HBK.out nd) hg (Kd.R_ne (Kd.R_drewN HOK.out nd) (blk_drewN HBK.out nd) (by decide)); have hcell2 : w2.cell? ⟨B, 0, none⟩ = some v := (blk_cell HK1.out 0).trans rfl; have hfree2 : w2.frozen? ⟨B, 0, none⟩ = false := blk_frozen HK1.out 0; clear ho hb2 hg hat)
      | (go_at_call 45; refine (ht _).mono ?_; rintro e w1 ⟨rfl, ⟨nd, rfl⟩⟩; have hcell : (W.drewN nd).cell? ⟨B, 0, none⟩ = some v := (blk_cell (blk_drewN HBK.out nd) 0).trans rfl; have hfree : (W.drewN nd).frozen? ⟨B, 0, none⟩ = false := blk_frozen (blk_drewN HBK.out nd) 0))
    go_end0
    exact ⟨rfl, _, blk_put HK1.out 0 _ rfl, Kd.R_set HO1.out HK1.out (by decide) 0 _, HB1.out.setCell hB _⟩
theorem el_zero (s : ByteArray) (i f : Nat) (q : Bool) (out : List ByteArray) : el s 0 i f q out = addE out (s.extract f s.size) := rfl
theorem el_end {s : ByteArray} {d i f : Nat} {q : Bool} {out : List ByteArray} (h : ¬ i < s.size) : el s d i f q out = addE out (s.extract f s.size) := by
  cases d with
  | zero => rfl
  | succ d => rw [el, if_neg h]
set_option maxHeartbeats 4000000 in
set_option maxRecDepth 100000 in
theorem elements_c (s : ByteArray) (hs : s.size ≤ 4000) (w : World) : Calls Tryd.prog 15 #[.string s] w fun e w' => ∃ v : Value, e = .returned v ∧ Kd.R Kd.string 9 w' w.heap.size (fun _ => True) v (el s s.size 0 0 false []) ∧ Below w.heap.size w w' := by
  have hs4 : ¬ (s.size : Int) > 4000 := by omega
  obtain ⟨R, hR⟩ : ∃ R, el s s.size 0 0 false [] = R := ⟨_, rfl⟩
  have HR : Aside (el s s.size 0 0 false [] = R) := hR
  rw [hR]; clear hR
  go_enter Tryd.func15, Tryd.ntmps15
  go_wp2
  go_loopg [5, 6, 7] s.size (fun k s5 s6 s7 wr => ∃ (f i : Nat) (q : Bool) (v : Value) (xs : List ByteArray), s5 = .int .i64 (f : Int) ∧ s6 = .bool q ∧ s7 = .int .i64 (i : Int) ∧ f ≤ i ∧ f ≤ s.size ∧ s.size ≤ i + k ∧ i ≤ s.size + 1 ∧ xs.length ≤ f ∧ Aside (el s k i f q xs = R) ∧ Aside (wr.heap[w.heap.size]? = some (.cells #[v] 27 (0, 0))) ∧ Aside (Kd.R Kd.string 9 wr w.heap.size (fun _ => True) v xs) ∧ Aside (Below w.heap.size w wr))
  case atStart => exact ⟨0, 0, false, .slice none 0 0, [], rfl, rfl, rfl, by omega, by omega, by omega, by omega, by simp, HR, blk_new w _, Kd.R_nil _ _ _ _ _, (Below.refl _ _).alloc (Nat.le_refl _) _⟩
  case round =>
    obtain ⟨f, i, q, v, xs, rfl, rfl, rfl, hfi, hfs, hik, his, hxs, HE, HK, HO, HB⟩ := hrel
    by_cases hi : i < s.size
    · cases gk with
      | zero => omega
      | succ g =>
        obtain ⟨c, hc⟩ : ∃ c, s[i]'hi = c := ⟨_, rfl⟩
        have HX : Aside ((bytesOf s).getD i 0 = (c.toNat : Int)) := by
          show _ = _
          have hil : i < (bytesOf s).length := by rw [bytesOf_length]; exact hi
          rw [List.getD_eq_getElem?_getD, List.getElem?_eq_getElem hil, Option.getD_some]
          simp only [bytesOf, List.getElem_map]
          congr 1; rw [← hc]; rfl
        have hin : (i : Int) < (s.size : Int) := by omega
        by_cases c34 : (c.toNat : Int) = 34
        · have HE2 : Aside (el s g (i + 1) f (!q) xs = R) := by
            show _ = _
            rw [← HE.out, el, if_pos hi, HX.out, if_pos c34]
          have b34 : ((c.toNat : Int) == 34) = true := beq_iff_eq.mpr c34
          clear c34
          go_wp2
          go_roundg g
          case measure => omega
          case rel => exact ⟨f, i + 1, !q, v, xs, rfl, rfl, by go_num, by omega, hfs, by omega, by omega, hxs, HE2, HK, HO, HB⟩
        · have b34 : ((c.toNat : Int) == 34) = false := beq_eq_false_iff_ne.mpr c34
          cases q with
          | true =>
            by_cases c92 : (c.toNat : Int) = 92
            · have HE2 : Aside (el s g (i + 2) f true xs = R) := by
                show _ = _
                rw [← HE.out, el, if_pos hi, HX.out, if_neg c34, if_pos ⟨rfl, c92⟩]
              have b92 : ((c.toNat : Int) == 92) = true := beq_iff_eq.mpr c92
              clear c34 c92
              go_wp2
              go_roundg g
              case measure => omega
              case rel => exact ⟨f, i + 2, true, v, xs, rfl, rfl, by go_num, by omega, hfs, by omega, by omega, hxs, HE2, HK, HO, HB⟩
            · have HE2 : Aside (el s g (i + 1) f true xs = R) := by
                show _ = _
                rw [← HE.out, el, if_pos hi, HX.out, if_neg c34, if_neg (fun h => c92 h.2), if_neg (fun h => Bool.noConfusion h.1)]
              have b92 : ((c.toNat : Int) == 92) = false := beq_eq_false_iff_ne.mpr c92
              clear c34 c92
              go_wp2
              go_roundg g
              case measure => omega
              case rel => exact ⟨f, i + 1, true, v, xs, rfl, rfl, by go_num, by omega, hfs, by omega, by omega, hxs, HE2, HK, HO, HB⟩
          | false =>
            by_cases c44 : (c.toNat : Int) = 44
            · have HE2 : Aside (el s g (i + 1) (i + 1) false (addE xs (s.extract f i)) = R) := by
                show _ = _
                rw [← HE.out, el, if_pos hi, HX.out, if_neg c34, if_neg (fun h => Bool.noConfusion h.1), if_pos ⟨rfl, c44⟩]
              have b44 : ((c.toNat : Int) == 44) = true := beq_iff_eq.mpr c44
              have fi0 : (f : Int) ≤ (i : Int) := by omega
              have is0 : (i : Int) ≤ (s.size : Int) := by omega
              clear c34 c44
              go_wp2_with fail
              refine (add_c (s.extract f i) (by rw [ByteArray.size_extract]; omega) v xs (by omega) w wr w.heap.size HK.out (Nat.le_refl _) HO.out HB.out).mono ?_
              rintro e W2 ⟨rfl, v2, HK2, HO2, HB2⟩
              go_wp2_with fail
              go_roundg g
              case measure => omega
              case rel => exact ⟨i + 1, i + 1, false, v2, addE xs (s.extract f i), by go_num, rfl, by go_num, by omega, by omega, by omega, by omega, Nat.le_trans (addE_length _ _) (by omega), HE2, HK2, HO2, HB2⟩
            · have HE2 : Aside (el s g (i + 1) f false xs = R) := by
                show _ = _
                rw [← HE.out, el, if_pos hi, HX.out, if_neg c34, if_neg (fun h => Bool.noConfusion h.1), if_neg (fun h => c44 h.2)]
              have b44 : ((c.toNat : Int) == 44) = false := beq_eq_false_iff_ne.mpr c44
              clear c34 c44
              go_wp2
              go_roundg g
              case measure => omega
              case rel => exact ⟨f, i + 1, false, v, xs, rfl, rfl, by go_num, by omega, hfs, by omega, by omega, hxs, HE2, HK, HO, HB⟩
    · have HE2 : Aside (addE xs (s.extract f s.size) = R) := by
        show _ = _
        rw [← HE.out, el_end hi]
      have hin : ¬ (i : Int) < (s.size : Int) := by omega
      have fs0 : (f : Int) ≤ (s.size : Int) := by omega
      clear hi
      go_wp2_with fail
      refine (add_c (s.extract f s.size) (by rw [ByteArray.size_extract]; omega) v xs (by omega) w wr w.heap.size HK.out (Nat.le_refl _) HO.out HB.out).mono ?_
      rintro e W2 ⟨rfl, v2, HK2, HO2, HB2⟩
      have hcell : W2.cell? ⟨w.heap.size, 0, none⟩ = some v2 := (blk_cell HK2 0).trans rfl
      have HO3 : Aside (Kd.R Kd.string 9 W2 w.heap.size (fun _ => True) v2 (addE xs (s.extract f s.size))) := HO2
      have HB3 : Aside (Below w.heap.size w W2) := HB2
      clear HK2 HO2 HB2
      go_wp2_with fail
      go_ret
      exact ⟨v2, rfl, by rw [← HE2.out]; exact HO3.out, HB3.out⟩
def impl_Elements.f (s : ByteArray) : Option (List ByteArray) := if s.size ≤ 4000 then some (el s s.size 0 0 false []) else none
theorem impl_Elements.calls (s : ByteArray) (r : List ByteArray) (w : World) (h : impl_Elements.f s = some r) : Calls Tryd.prog 15 #[.string s] w fun e w' => ∃ v0_ : Value, e = .returned (v0_) ∧ Kd.R Kd.string 9 w' w.heap.size (fun _ => True) v0_ r ∧ Below w.heap.size w w' := by
  unfold impl_Elements.f at h
  split at h
  · rename_i hs
    obtain rfl := Option.some.inj h
    exact elements_c s hs w
  · cases h
end Go.Proofs.YtikeagkcekkioaaDoor.Foreign
