/- What the library's Itoa and the program's ReadDec tell, as functions that the printed walks may call; they want the library's table of powers of ten and its two errors. Condition: a whole number of 64 bits; a text that has room. -/
import Derived.Test.YtikeagkcekkioaaDoorProg
import Derived.Test.YtikeagkcekkioaaDoorShelf
import Derived.Test.YtikeagkcekkioaaDoorWMore
import Derived.Below
import Derived.Lib.AppendIntMem
import Derived.Lib.AtoiErrMem
import Derived.Lib.AtoiAllCases
namespace Go.Proofs.YtikeagkcekkioaaDoor.Foreign
set_option linter.unusedVariables false
set_option linter.unusedSimpArgs false
open Go.RowKit Go.Proofs.YtikeagkcekkioaaDoorW.PrintWords Go.Proofs.YtikeagkcekkioaaDoorW.PrintLast Go.Proofs.YtikeagkcekkioaaDoorW.PrintMore
def bruTab : List Int := [0, 1, 56, 2, 57, 49, 28, 3, 61, 58, 42, 50, 38, 29, 17, 4, 62, 47, 59, 36, 45, 43, 51, 22, 53, 39, 33, 30, 24, 18, 12, 5, 63, 55, 48, 27, 60, 41, 37, 16, 46, 35, 44, 21, 52, 32, 23, 11, 54, 26, 40, 15, 34, 20, 31, 10, 25, 14, 19, 9, 13, 8, 7, 6]
structure Tab (w : World) : Prop where
  bru : Lib.TabIs Tryd.prog w "math/bits.deBruijn64tab" .u8 bruTab
  pow : Lib.TabIs Tryd.prog w "internal/strconv.uint64pow10" .u64 Lib.pow10Tab
  syn : ∃ tp p, w.var? Tryd.prog "strconv.ErrSyntax" = some #[.iface tp p]
  ran : ∃ tp p, w.var? Tryd.prog "strconv.ErrRange" = some #[.iface tp p]
theorem var_kept {P : Program} {w w' : World} {n : String} {cs : Array Value} (h : w.var? P n = some cs) (b : Below w.heap.size w w') : w'.var? P n = some cs := by
  unfold World.var? at *
  cases hg : P.globalNamed n with
  | none => simp [hg] at h
  | some g =>
    simp only [hg, Option.bind_some] at h ⊢
    have hlt : g < w.heap.size := by
      rcases Nat.lt_or_ge g w.heap.size with h' | h'
      · exact h'
      · rw [Array.getElem?_eq_none h'] at h; simp at h
    rw [b.block g hlt]
    exact h
theorem Tab.below {w w' : World} (h : Tab w) (b : Below w.heap.size w w') : Tab w' where
  bru := Lib.tabBelow_of_tabIs h.bru w' b
  pow := Lib.tabBelow_of_tabIs h.pow w' b
  syn := by obtain ⟨tp, p, e⟩ := h.syn; exact ⟨tp, p, var_kept e b⟩
  ran := by obtain ⟨tp, p, e⟩ := h.ran; exact ⟨tp, p, var_kept e b⟩
def strconv_Itoa.f (n : Int) : Option ByteArray := if -9223372036854775808 ≤ n ∧ n ≤ 9223372036854775807 then some ⟨(Lib.itoa n).toArray⟩ else none
theorem strconv_Itoa.calls (n : Int) (r : ByteArray) (w : World) (ht : Tab w) (h : strconv_Itoa.f n = some r) :
    Calls Tryd.prog 51 #[.int .i64 n] w fun e w' => e = .returned (.string r) ∧ Below w.heap.size w w' := by
  unfold strconv_Itoa.f at h
  split at h
  · rename_i hn
    obtain rfl := Option.some.inj h
    refine (Tryd.strconv_Itoa n hn.1 hn.2 w ht.pow).mono ?_
    rintro e w' ⟨rfl, k, os, rfl⟩
    exact ⟨rfl, Lib.below_grow _ w (Nat.le_refl _) k os⟩
  · cases h
def decS (u : Nat) : ByteArray := ⟨(Lib.decDigits u).toArray⟩
theorem within_in (n : Int) (h0 : 0 ≤ n) (h1 : n ≤ 999999999999999) (w : World) : Calls Tryd.prog 49 #[.int .i64 n, .int .i64 0, .int .i64 999999999999999] w fun e w' => e = .returned (.bool true) ∧ w = w' := by
  go_enter Tryd.func49, Tryd.ntmps49
  go_wp2
  go_ret
  exact ⟨rfl, rfl⟩
theorem within_out (n : Int) (h : ¬ (0 ≤ n ∧ n ≤ 999999999999999)) (w : World) : Calls Tryd.prog 49 #[.int .i64 n, .int .i64 0, .int .i64 999999999999999] w fun e w' => e = .returned (.bool false) ∧ w = w' := by
  by_cases h0 : 0 ≤ n
  · have h1 : ¬ n ≤ 999999999999999 := fun h' => h ⟨h0, h'⟩
    clear h
    go_enter Tryd.func49, Tryd.ntmps49
    go_wp2
    go_ret
    exact ⟨rfl, rfl⟩
  · clear h
    go_enter Tryd.func49, Tryd.ntmps49
    go_wp2
    go_ret
    exact ⟨rfl, rfl⟩
theorem itoa_dec {n : Int} (h0 : 0 ≤ n) : (⟨(Lib.itoa n).toArray⟩ : ByteArray) = decS n.toNat := by
  unfold decS Lib.itoa
  rw [if_neg (by omega)]
theorem decText_in (n : Int) (h0 : 0 ≤ n) (h1 : n ≤ 999999999999999) (w : World) (ht : Tab w) : Calls Tryd.prog 22 #[.int .i64 n] w fun e w' => e = .returned (.string (decS n.toNat)) ∧ Below w.heap.size w w' := by
  have hc := strconv_Itoa.calls n (decS n.toNat) w ht (by unfold strconv_Itoa.f; rw [if_pos (by omega), itoa_dec h0])
  clear ht
  go_enter Tryd.func22, Tryd.ntmps22
  go_wp2_with (first
    | (go_at_call 49; refine (within_in n h0 h1 _).mono ?_; rintro e w' ⟨rfl, rfl⟩)
    | (go_at_call 51; refine hc.mono ?_; rintro e w1 ⟨rfl, hb⟩))
  go_ret
  exact ⟨rfl, hb⟩
def readDec (s : ByteArray) : Int × Bool :=
  match Lib.atoiAll s.data.toList with
  | .ok v => if (0 ≤ v ∧ v ≤ 999999999999999) ∧ decS v.toNat = s then (v, true) else (0, false)
  | _ => (0, false)
theorem two2' {a : Int} {k : Bool} {x : Int × Bool} (h : x = (a, k)) : Ending.returned (.tuple #[.int .i64 a, .bool k]) = Ending.returned (.tuple #[.int .i64 x.1, .bool x.2]) := by rw [h]
theorem toList_eq (a b : ByteArray) : (a.toList == b.toList) = decide (a = b) := by
  rw [Lib.toList_data, Lib.toList_data]
  by_cases h : a = b
  · subst h; simp
  · rw [decide_eq_false h]
    apply beq_eq_false_iff_ne.mpr
    intro e
    apply h
    exact ByteArray.ext (Array.toList_inj.mp e)
theorem readDec_same (s : ByteArray) (v : Int) (h0 : 0 ≤ v) (h1 : v ≤ 999999999999999) (hk : decS v.toNat = s) (w : World) (ht : Tab w)
    (hA : Calls Tryd.prog 52 #[.string s] w fun e w' => e = .returned (.tuple #[.int .i64 v, .nilIface]) ∧ Below w.heap.size w w') :
    Calls Tryd.prog 23 #[.string s] w fun e w' => e = .returned (.tuple #[.int .i64 v, .bool true]) ∧ Below w.heap.size w w' := by
  have HT : Aside (Tab w) := ht
  obtain ⟨d, hd⟩ : ∃ d, decS v.toNat = d := ⟨_, rfl⟩
  have HD : Aside (decS v.toNat = d) := hd
  have hq : (d.toList == s.toList) = true := by rw [toList_eq]; exact decide_eq_true (hd.symm.trans hk)
  clear ht hk hd
  go_enter Tryd.func23, Tryd.ntmps23
  go_wp2_with (first
    | (go_at_call 52; refine hA.mono ?_; rintro e w1 ⟨rfl, hb⟩; have HB : Aside (Below w.heap.size w w1) := hb; clear hb)
    | (go_at_call 49; refine (within_in v h0 h1 _).mono ?_; rintro e w' ⟨rfl, rfl⟩)
    | (go_at_call 22; refine (decText_in v h0 h1 _ (HT.out.below HB.out)).mono ?_; rintro e w2 ⟨rfl, hb2⟩; rw [HD.out]; have HB2 : Aside (Below w.heap.size w w2) := HB.out.trans (hb2.mono HB.out.size); clear hb2))
  go_ret2
  exact ⟨rfl, HB2.out⟩
theorem readDec_diff (s : ByteArray) (v : Int) (h0 : 0 ≤ v) (h1 : v ≤ 999999999999999) (hk : ¬ decS v.toNat = s) (w : World) (ht : Tab w)
    (hA : Calls Tryd.prog 52 #[.string s] w fun e w' => e = .returned (.tuple #[.int .i64 v, .nilIface]) ∧ Below w.heap.size w w') :
    Calls Tryd.prog 23 #[.string s] w fun e w' => e = .returned (.tuple #[.int .i64 0, .bool false]) ∧ Below w.heap.size w w' := by
  have HT : Aside (Tab w) := ht
  obtain ⟨d, hd⟩ : ∃ d, decS v.toNat = d := ⟨_, rfl⟩
  have HD : Aside (decS v.toNat = d) := hd
  have hq : (d.toList == s.toList) = false := by rw [toList_eq]; exact decide_eq_false (by rw [← hd]; exact hk)
  clear ht hk hd
  go_enter Tryd.func23, Tryd.ntmps23
  go_wp2_with (first
    | (go_at_call 52; refine hA.mono ?_; rintro e w1 ⟨rfl, hb⟩; have HB : Aside (Below w.heap.size w w1) := hb; clear hb)
    | (go_at_call 49; refine (within_in v h0 h1 _).mono ?_; rintro e w' ⟨rfl, rfl⟩)
    | (go_at_call 22; refine (decText_in v h0 h1 _ (HT.out.below HB.out)).mono ?_; rintro e w2 ⟨rfl, hb2⟩; rw [HD.out]; have HB2 : Aside (Below w.heap.size w w2) := HB.out.trans (hb2.mono HB.out.size); clear hb2))
  go_ret2
  exact ⟨rfl, HB2.out⟩
theorem readDec_big (s : ByteArray) (v : Int) (h : ¬ (0 ≤ v ∧ v ≤ 999999999999999)) (w : World)
    (hA : Calls Tryd.prog 52 #[.string s] w fun e w' => e = .returned (.tuple #[.int .i64 v, .nilIface]) ∧ Below w.heap.size w w') :
    Calls Tryd.prog 23 #[.string s] w fun e w' => e = .returned (.tuple #[.int .i64 0, .bool false]) ∧ Below w.heap.size w w' := by
  have HV : Aside (¬ (0 ≤ v ∧ v ≤ 999999999999999)) := h
  clear h
  go_enter Tryd.func23, Tryd.ntmps23
  go_wp2_with (first
    | (go_at_call 52; refine hA.mono ?_; rintro e w1 ⟨rfl, hb⟩; have HB : Aside (Below w.heap.size w w1) := hb; clear hb)
    | (go_at_call 49; refine (within_out v HV.out _).mono ?_; rintro e w' ⟨rfl, rfl⟩))
  go_ret2
  exact ⟨rfl, HB.out⟩
theorem readDec_err (s : ByteArray) (v : Int) (w : World)
    (hA : Calls Tryd.prog 52 #[.string s] w fun e w' => ∃ N t, e = .returned (.tuple #[.int .i64 v, .iface t (.pointer (some ⟨N, 0, none⟩))]) ∧ Below w.heap.size w w') :
    Calls Tryd.prog 23 #[.string s] w fun e w' => e = .returned (.tuple #[.int .i64 0, .bool false]) ∧ Below w.heap.size w w' := by
  go_enter Tryd.func23, Tryd.ntmps23
  go_wp2_with (go_at_call 52; refine hA.mono ?_; rintro e w1 ⟨N, t, rfl, hb⟩; have HB : Aside (Below w.heap.size w w1) := hb; clear hb)
  go_ret2
  exact ⟨rfl, HB.out⟩
def impl_ReadDec.f (s : ByteArray) : Option (Int × Bool) := if s.size ≤ 140737488351232 then some (readDec s) else none
theorem impl_ReadDec.calls (s : ByteArray) (r1 : Int) (r2 : Bool) (w : World) (ht : Tab w) (h : impl_ReadDec.f s = some (r1, r2)) : Calls Tryd.prog 23 #[.string s] w fun e w' => e = .returned (.tuple #[.int .i64 r1, .bool r2]) ∧ Below w.heap.size w w' := by
  unfold impl_ReadDec.f at h
  split at h
  · rename_i hs
    have h := Option.some.inj h
    unfold readDec at h
    cases ha : Lib.atoiAll s.data.toList with
    | ok v =>
      rw [ha] at h
      have hA : Calls Tryd.prog 52 #[.string s] w fun e w' => e = .returned (.tuple #[.int .i64 v, .nilIface]) ∧ Below w.heap.size w w' := by
        refine (Tryd.strconv_Atoi_ok s (by omega) v ha w).mono ?_
        rintro e w' ⟨rfl, hw⟩
        refine ⟨rfl, ?_⟩
        rcases hw with rfl | ⟨t, rfl⟩
        · exact Below.refl _ _
        · exact Lib.bytesWorld_below _ _ _
      by_cases hv : 0 ≤ v ∧ v ≤ 999999999999999
      · by_cases hd : decS v.toNat = s
        · have h : (v, true) = (r1, r2) := by rw [← h]; exact (if_pos ⟨hv, hd⟩).symm
          obtain ⟨rfl, rfl⟩ := Prod.mk.inj h
          exact readDec_same s v hv.1 hv.2 hd w ht hA
        · have h : ((0 : Int), false) = (r1, r2) := by rw [← h]; exact (if_neg (fun c => hd c.2)).symm
          obtain ⟨rfl, rfl⟩ := Prod.mk.inj h
          exact readDec_diff s v hv.1 hv.2 hd w ht hA
      · have h : ((0 : Int), false) = (r1, r2) := by rw [← h]; exact (if_neg (fun c => hv c.1)).symm
        obtain ⟨rfl, rfl⟩ := Prod.mk.inj h
        exact readDec_big s v hv w hA
    | range =>
      rw [ha] at h
      obtain ⟨rfl, rfl⟩ := Prod.mk.inj h
      obtain ⟨tp, p, hvar⟩ := ht.ran
      refine readDec_err s (Lib.atoiSat s.data.toList) w ((Tryd.strconv_Atoi_range_var s (by omega) ha tp p w hvar).mono ?_)
      rintro e w' ⟨N, h1, _, _, h2⟩
      exact ⟨N, _, h1, h2⟩
    | _ =>
      rw [ha] at h
      obtain ⟨rfl, rfl⟩ := Prod.mk.inj h
      obtain ⟨tp, p, hvar⟩ := ht.syn
      refine readDec_err s 0 w ((Tryd.strconv_Atoi_syntax_var s (by omega) ⟨(by rw [ha]; exact fun e => by cases e), (fun v => by rw [ha]; exact fun e => by cases e)⟩ tp p w hvar).mono ?_)
      rintro e w' ⟨N, h1, _, _, h2⟩
      exact ⟨N, _, h1, h2⟩
  · cases h
theorem iface_of_trod {H : Type} {enc : TypeId × Value → H} {P : Program} {w : World} {base : Nat} {sp : Nat → Bool} {fuel : Nat} {t : TypeId} {cs : List Value} {n : String} {d : DataW H} {p : List MemPlace} {m : _}
    (ht : P.underlying t = some (.interface m)) (h : DataW.trod enc P w base sp false fuel t cs = some (.iface n d, p)) : ∃ a b, cs = [.iface a b] := by
  cases fuel with
  | zero => simp [DataW.trod] at h
  | succ fuel =>
    simp only [DataW.trod, ht] at h
    split at h <;> simp_all
/-- What the row lists says that the table and the two errors are there: they stand third to fifth on the list. -/
theorem Tab.of_laid {W : World} {a : String × DataW Unit} {n1 n2 : String} {d1 d2 : DataW Unit} {rest : List (String × DataW Unit)} (h : laidMet Tryd.prog (a :: ("math/bits.deBruijn64tab", Lib.tabData .u8 bruTab) :: ("internal/strconv.uint64pow10", Lib.tabData .u64 Lib.pow10Tab) :: ("strconv.ErrRange", .iface n1 d1) :: ("strconv.ErrSyntax", .iface n2 d2) :: rest) W) : Tab W := by
  obtain ⟨ps, ⟨g1, t1, cs1, fuel1, p1, q1, _, _, _, _, h1, _⟩, _⟩ := h
  obtain ⟨g2, t2, cs2, fuel2, p2, q2, hg2, ht2, hvar2, hd2, h2, _⟩ := h1
  have hgb : Tryd.prog.globalNamed "math/bits.deBruijn64tab" = some 5 := by kernel_rfl
  obtain rfl := Option.some.inj (hgb.symm.trans hg2)
  have htb : (Tryd.prog.globals[5]?).map (·.type) = some 113 := by kernel_rfl
  obtain rfl := Option.some.inj (htb.symm.trans ht2)
  obtain ⟨g', t', cs, fuel, p, q, hg', ht', hvar, hd, h3, _⟩ := h2
  obtain ⟨g4, t4, cs4, fuel4, p4, q4, hg4, ht4, hvar4, hd4, h5, _⟩ := h3
  obtain ⟨g5, t5, cs5, fuel5, p5, q5, hg5, ht5, hvar5, hd5, _, _⟩ := h5
  have hg : Tryd.prog.globalNamed "internal/strconv.uint64pow10" = some 3 := by kernel_rfl
  obtain rfl := Option.some.inj (hg.symm.trans hg')
  have hty : (Tryd.prog.globals[3]?).map (·.type) = some 103 := by kernel_rfl
  obtain rfl := Option.some.inj (hty.symm.trans ht')
  have hgr : Tryd.prog.globalNamed "strconv.ErrRange" = some 2 := by kernel_rfl
  obtain rfl := Option.some.inj (hgr.symm.trans hg4)
  have htr : (Tryd.prog.globals[2]?).map (·.type) = some 60 := by kernel_rfl
  obtain rfl := Option.some.inj (htr.symm.trans ht4)
  have hgs : Tryd.prog.globalNamed "strconv.ErrSyntax" = some 1 := by kernel_rfl
  obtain rfl := Option.some.inj (hgs.symm.trans hg5)
  have hts : (Tryd.prog.globals[1]?).map (·.type) = some 60 := by kernel_rfl
  obtain rfl := Option.some.inj (hts.symm.trans ht5)
  refine ⟨?_, ?_, ?_, ?_⟩
  · unfold Lib.TabIs
    rw [hvar2, ← Lib.cells_of_tab Tryd.underlying113 Tryd.underlying5 (by kernel_rfl) (by kernel_rfl) hd2]
  · unfold Lib.TabIs
    rw [hvar, ← Lib.cells_of_tab Tryd.underlying103 Tryd.underlying92 (by kernel_rfl) (by kernel_rfl) hd]
  · obtain ⟨u, v, e⟩ := iface_of_trod Tryd.underlying60 hd5
    exact ⟨u, v, by rw [hvar5, ← e]⟩
  · obtain ⟨u, v, e⟩ := iface_of_trod Tryd.underlying60 hd4
    exact ⟨u, v, by rw [hvar4, ← e]⟩
end Go.Proofs.YtikeagkcekkioaaDoor.Foreign
