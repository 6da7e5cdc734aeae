/- The law FnQuotes answers true for every code: what is quoted comes back, and is one element of a list, whatever commas are in it. No condition. -/
import Derived.Test.YtikeagkcekkioaaDoorQFnQuotesx3
import Derived.Test.YtikeagkcekkioaaDoorBase
namespace Go.Proofs.YtikeagkcekkioaaDoor.Pure
open Go.RowKit Go.Proofs.YtikeagkcekkioaaDoor.PFnQuotes Go.Proofs.YtikeagkcekkioaaDoorW.PrintWords Go.Proofs.YtikeagkcekkioaaDoorW.PrintLast Go.Proofs.YtikeagkcekkioaaDoorW.PrintMore Go.Proofs.YtikeagkcekkioaaDoor.Base
set_option linter.unusedVariables false
set_option linter.unusedSimpArgs false

/-! Texts in quotes -/
def plain (b : Int) : Bool := if b = 9 then true else if b ≥ 32 then b != 127 else false
theorem impl_plain (b : Int) : impl_isPlain.f b = some (plain b) := by
  unfold impl_isPlain.f plain
  split
  · rfl
  · split <;> rfl
theorem spec_plain (b : Int) : spec_l1plain.f b = some (plain b) := by
  unfold spec_l1plain.f plain
  split
  · rfl
  · split <;> rfl
def plains (s : ByteArray) (i d : Nat) : Bool := (List.range' i d).all fun j => plain (bt s (j : Int))
theorem plains_succ (s : ByteArray) (i d : Nat) : plains s i (d + 1) = (plain (bt s (i : Int)) && plains s (i + 1) d) := by simp [plains, List.range'_succ]
def q1 (b : Int) : List Int := if b = 34 then [92, b] else if b = 92 then [92, b] else [b]
def qs (s : ByteArray) (i d : Nat) : List Int := (List.range' i d).flatMap fun (j : Nat) => q1 (bt s (j : Int))
theorem qs_succ (s : ByteArray) (i d : Nat) : qs s i (d + 1) = q1 (bt s (i : Int)) ++ qs s (i + 1) d := by simp [qs, List.range'_succ]
theorem impl_all_l0 (s : ByteArray) (hb : s.size ≤ 1048576) : ∀ (d i : Nat), i + d = s.size → Ev (fun k => impl_all.l0 k s (i : Int)) (plains s i d) := by
  intro d
  induction d with
  | zero => intro i h; exact Ev.step (fun k => impl_all.l0.eq_2 _ _ k) (Ev.neg (by omega) (Ev.now _))
  | succ d ih =>
    intro i h
    have hw : wrap64 ((i : Int) + 1) = ((i + 1 : Nat) : Int) := by rw [w64 (by omega) (by omega)]; omega
    have h1 := ih (i + 1) (by omega)
    refine Ev.step (fun k => impl_all.l0.eq_2 _ _ k) (Ev.pos (by omega) (Ev.pos (by omega) (Ev.told (impl_plain _) ?_)))
    rw [hw, plains_succ]
    cases ht : plain (bt s (i : Int)) with
    | true => exact Ev.pos rfl (by simpa using h1)
    | false => exact Ev.neg (by simp) (Ev.now _)
theorem impl_q_l0 (s : ByteArray) (hb : s.size ≤ 1048576) : ∀ (d i : Nat) (out : List Int), i + d = s.size → out.length + 2 * d < 1000000000 →
    Ev (fun k => impl_Quote.l0 k s out (i : Int)) (strOfNums (out ++ qs s i d ++ [34]), true) := by
  intro d
  induction d with
  | zero =>
    intro i out h hl
    refine Ev.step (fun k => impl_Quote.l0.eq_2 _ _ _ k) (Ev.neg (by omega) (Ev.pos (by omega) ?_))
    simp only [qs, List.range'_zero, List.flatMap_nil, List.append_nil]; exact Ev.now _
  | succ d ih =>
    intro i out h hl
    have hw : wrap64 ((i : Int) + 1) = ((i + 1 : Nat) : Int) := by rw [w64 (by omega) (by omega)]; omega
    refine Ev.step (fun k => impl_Quote.l0.eq_2 _ _ _ k) (Ev.pos (by omega) (Ev.pos (by omega) ?_))
    rw [hw, qs_succ, ← List.append_assoc]
    have h1 := fun o ho => ih (i + 1) (out ++ o) (by omega) ho
    unfold q1
    by_cases a1 : bt s (i : Int) = 34
    · rw [if_pos a1]
      refine Ev.pos a1 (Ev.pos (by omega) (Ev.told rfl (Ev.pos (by rw [List.length_append, List.length_singleton]; omega) ?_)))
      rw [List.append_assoc]
      exact h1 [92, bt s (i : Int)] (by simp; omega)
    · rw [if_neg a1]
      refine Ev.neg a1 ?_
      by_cases a2 : bt s (i : Int) = 92
      · rw [if_pos a2]
        refine Ev.pos a2 (Ev.pos (by omega) (Ev.told rfl (Ev.pos (by rw [List.length_append, List.length_singleton]; omega) ?_)))
        rw [List.append_assoc]
        exact h1 [92, bt s (i : Int)] (by simp; omega)
      · rw [if_neg a2]
        exact Ev.neg a2 (Ev.pos (by omega) (h1 [bt s (i : Int)] (by simp; omega)))
theorem spec_q_l0 (s : ByteArray) (hb : s.size ≤ 1048576) : ∀ (d i : Nat) (out : List Int), i + d = s.size → out.length + 2 * d < 1000000000 →
    Ev (fun k => spec_Quote.l0 k s out (i : Int)) (if plains s i d = true then (strOfNums (out ++ qs s i d ++ [34]), true) else (⟨#[]⟩, false)) := by
  intro d
  induction d with
  | zero =>
    intro i out h hl
    refine Ev.step (fun k => spec_Quote.l0.eq_2 _ _ _ k) (Ev.neg (by omega) (Ev.pos (by omega) ?_))
    simp only [plains, qs, List.range'_zero, List.flatMap_nil, List.append_nil, List.all_nil, if_true]; exact Ev.now _
  | succ d ih =>
    intro i out h hl
    have hw : wrap64 ((i : Int) + 1) = ((i + 1 : Nat) : Int) := by rw [w64 (by omega) (by omega)]; omega
    refine Ev.step (fun k => spec_Quote.l0.eq_2 _ _ _ k) (Ev.pos (by omega) (Ev.pos (by omega) (Ev.told (spec_plain _) ?_)))
    rw [hw, qs_succ, ← List.append_assoc, plains_succ]
    have h1 := fun o ho => ih (i + 1) (out ++ o) (by omega) ho
    cases ht : plain (bt s (i : Int)) with
    | false => exact Ev.neg (by simp) (Ev.now _)
    | true =>
      refine Ev.pos rfl ?_
      rw [Bool.true_and]
      unfold q1
      by_cases a1 : bt s (i : Int) = 34
      · rw [if_pos a1]
        refine Ev.pos a1 (Ev.pos (by omega) (Ev.told rfl (Ev.pos (by rw [List.length_append, List.length_singleton]; omega) ?_)))
        rw [List.append_assoc]
        exact h1 [92, bt s (i : Int)] (by simp; omega)
      · rw [if_neg a1]
        refine Ev.neg a1 ?_
        by_cases a2 : bt s (i : Int) = 92
        · rw [if_pos a2]
          refine Ev.pos a2 (Ev.pos (by omega) (Ev.told rfl (Ev.pos (by rw [List.length_append, List.length_singleton]; omega) ?_)))
          rw [List.append_assoc]
          exact h1 [92, bt s (i : Int)] (by simp; omega)
        · rw [if_neg a2]
          exact Ev.neg a2 (Ev.pos (by omega) (h1 [bt s (i : Int)] (by simp; omega)))
def quote (s : ByteArray) : ByteArray × Bool := if s.size ≤ 4000 ∧ plains s 0 s.size = true then (strOfNums ([34] ++ qs s 0 s.size ++ [34]), true) else (⟨#[]⟩, false)
theorem quote_long {s : ByteArray} (h : (s.size : Int) > 4000) : quote s = (⟨#[]⟩, false) := by
  unfold quote; exact if_neg (fun x => by omega)
theorem quote_bad {s : ByteArray} (h : plains s 0 s.size = false) : quote s = (⟨#[]⟩, false) := by
  unfold quote; exact if_neg (fun x => by rw [h] at x; exact absurd x.2 (by decide))
theorem quote_good {s : ByteArray} (h4 : ¬ (s.size : Int) > 4000) (h : plains s 0 s.size = true) : quote s = (strOfNums ([34] ++ qs s 0 s.size ++ [34]), true) := by
  unfold quote; exact if_pos ⟨by omega, h⟩
theorem spec_quote (s : ByteArray) (hb : s.size ≤ 1048576) : Ev (fun k => spec_Quote.f k s) (quote s) := by
  unfold spec_Quote.f
  by_cases h4 : (s.size : Int) > 4000
  · rw [quote_long h4]; exact Ev.pos h4 (Ev.now _)
  · refine Ev.neg h4 ?_
    have h1 := spec_q_l0 s hb s.size 0 [34] (by omega) (by simp; omega)
    cases hp : plains s 0 s.size with
    | true => rw [hp, if_pos rfl] at h1; rw [quote_good h4 hp]; exact h1
    | false => rw [hp, if_neg (by decide)] at h1; rw [quote_bad hp]; exact h1
theorem impl_quote (s : ByteArray) (hb : s.size ≤ 1048576) : Ev (fun k => impl_Quote.f k s) (quote s) := by
  unfold impl_Quote.f
  by_cases h4 : (s.size : Int) > 4000
  · rw [quote_long h4]; exact Ev.pos h4 (Ev.step (fun k => impl_Quote.j0.eq_2 _ _ k) (Ev.pos rfl (Ev.now _)))
  · refine Ev.neg h4 (Ev.bind (show Ev (fun k => impl_all.f k s) (plains s 0 s.size) from impl_all_l0 s hb s.size 0 (by omega)) (Ev.step (fun k => impl_Quote.j0.eq_2 _ _ k) ?_))
    cases hp : plains s 0 s.size with
    | true => rw [quote_good h4 hp]; exact Ev.neg (by simp) (impl_q_l0 s hb s.size 0 [34] (by omega) (by simp; omega))
    | false => rw [quote_bad hp]; exact Ev.pos rfl (Ev.now _)

/-! The reader of draws -/
def Bs (b : List Int) : Prop := b.length ≤ 140737488351240
theorem and255 (y : Int) : 0 ≤ Go.bits .and .i64 y 255 ∧ Go.bits .and .i64 y 255 ≤ 255 := by
  have h : (BitVec.ofInt 64 y &&& BitVec.ofInt 64 255).toNat ≤ 255 := by
    rw [BitVec.toNat_and]
    exact Nat.and_le_right
  show 0 ≤ IntKind.i64.wrap ((BitVec.ofInt 64 y &&& BitVec.ofInt 64 255).toNat : Int) ∧ IntKind.i64.wrap ((BitVec.ofInt 64 y &&& BitVec.ofInt 64 255).toNat : Int) ≤ 255
  rw [wraps_i64 _ (Int.natCast_nonneg _) (by omega)]
  omega
theorem draw_byte {b : List Int} (hb : Bs b) (i h : Int) (hi : 0 ≤ i) : ∃ x i' h' : Int, spec_l1Byte.f b i h = some (x, i', h') ∧ 0 ≤ x ∧ x ≤ 255 ∧ 0 ≤ i' := by
  unfold Bs at hb
  unfold spec_l1Byte.f
  by_cases c : i < (b.length : Int)
  · rw [if_pos c, if_pos hi]
    exact ⟨_, _, _, rfl, (and255 _).1, (and255 _).2, by rw [w64 (by omega) (by omega)]; omega⟩
  · rw [if_neg c]
    exact ⟨_, _, _, rfl, (and255 _).1, (and255 _).2, hi⟩
theorem tmod_in {x n : Int} (hx : 0 ≤ x) (hn : 0 < n) : 0 ≤ Int.tmod x n ∧ Int.tmod x n < n := by
  rw [Int.tmod_eq_emod_of_nonneg hx]
  exact ⟨Int.emod_nonneg _ (by omega), Int.emod_lt_of_pos _ hn⟩
theorem draw_below {b : List Int} (hb : Bs b) (i h n : Int) (hi : 0 ≤ i) : ∃ x i' h' : Int, spec_l1Below.f b i h n = some (x, i', h') ∧ 0 ≤ x ∧ (0 < n → x < n) ∧ (n ≤ 0 → x = 0) ∧ 0 ≤ i' := by
  unfold spec_l1Below.f
  by_cases c0 : n ≤ 0
  · rw [if_pos c0]
    exact ⟨_, _, _, rfl, by omega, fun h => by omega, fun _ => rfl, hi⟩
  · rw [if_neg c0]
    obtain ⟨x, i1, h1, e1, x0, x1, j1⟩ := draw_byte hb i h hi
    by_cases c1 : n ≤ 256
    · rw [if_pos c1, e1]
      simp only [Option.bind_some]
      rw [if_neg (by omega)]
      have := tmod_in x0 (show 0 < n by omega)
      exact ⟨_, _, _, rfl, this.1, fun _ => this.2, fun h => by omega, j1⟩
    · obtain ⟨y, i2, h2, e2, y0, y1, j2⟩ := draw_byte hb i1 h1 j1
      obtain ⟨z, i3, h3, e3, z0, z1, j3⟩ := draw_byte hb i2 h2 j2
      obtain ⟨w, i4, h4, e4, v0, v1, j4⟩ := draw_byte hb i3 h3 j3
      rw [if_neg c1, e1]
      simp only [Option.bind_some]
      rw [e2]
      simp only [Option.bind_some]
      rw [e3]
      simp only [Option.bind_some]
      rw [e4]
      simp only [Option.bind_some]
      rw [if_neg (by omega)]
      have hs : 0 ≤ wrap64 ((wrap64 ((wrap64 ((wrap64 (x * 16777216)) + (wrap64 (y * 65536)))) + (wrap64 (z * 256)))) + w) := by
        rw [w64 (n := x * 16777216) (by omega) (by omega), w64 (n := y * 65536) (by omega) (by omega), w64 (n := z * 256) (by omega) (by omega), w64 (n := x * 16777216 + y * 65536) (by omega) (by omega), w64 (n := x * 16777216 + y * 65536 + z * 256) (by omega) (by omega), w64 (by omega) (by omega)]
        omega
      have := tmod_in hs (show 0 < n by omega)
      exact ⟨_, _, _, rfl, this.1, fun _ => this.2, fun h => by omega, j4⟩
theorem draw_new {b : List Int} (hb : Bs b) : ∃ h : Int, Ev (fun k => spec_l1New.f k b) (b, 0, h) := by
  unfold Bs at hb
  have loop : ∀ (d i : Nat) (x : Int), i + d = b.length → ∃ h : Int, Ev (fun k => spec_l1New.l0 k b x (i : Int)) (b, 0, h) := by
    intro d
    induction d with
    | zero => intro i x hi; exact ⟨_, Ev.step (fun k => spec_l1New.l0.eq_2 _ _ _ k) (Ev.neg (by omega) (Ev.now _))⟩
    | succ d ih =>
      intro i x hi
      by_cases c : (i : Int) < 4000
      · have hw : wrap64 ((i : Int) + 1) = ((i + 1 : Nat) : Int) := by rw [w64 (by omega) (by omega)]; omega
        obtain ⟨h, e⟩ := ih (i + 1) (Go.bits .and .i64 (wrap64 ((wrap64 ((wrap64 (x * 131)) + (wrap64 (rd b (i : Int))))) + 7)) 1073741823) (by omega)
        refine ⟨h, Ev.step (fun k => spec_l1New.l0.eq_2 _ _ _ k) (Ev.pos (by omega) (Ev.pos c (Ev.pos (by omega) ?_)))⟩
        rw [hw]; exact e
      · exact ⟨_, Ev.step (fun k => spec_l1New.l0.eq_2 _ _ _ k) (Ev.pos (by omega) (Ev.neg c (Ev.now _)))⟩
  exact loop b.length 0 _ (by omega)

theorem draw_once {b : List Int} (hb : Bs b) (i h n : Int) (hi : 0 ≤ i) : ∃ (x : Bool) (i' h' : Int), spec_l1Once.f b i h n = some (x, i', h') ∧ 0 ≤ i' := by
  obtain ⟨x, i1, h1, e, _, _, _, j⟩ := draw_below hb i h n hi
  exact ⟨_, _, _, by unfold spec_l1Once.f; rw [e]; rfl, j⟩

theorem draw_bend {b : List Int} (hb : Bs b) (i h : Int) (s : ByteArray) (hs : s.size ≤ 140737488351232) (hi : 0 ≤ i) : ∃ (r : ByteArray) (i' h' : Int), spec_l1bend.f b i h s = some (r, i', h') ∧ r.size ≤ s.size + 1 ∧ 0 ≤ i' := by
  obtain ⟨p, i1, h1, e1, p0, p1, _, j1⟩ := draw_below hb i h ((s.size : Int) + 1) hi
  have p1 := p1 (by omega)
  obtain ⟨q, i2, h2, e2, q0, q1, _, j2⟩ := draw_below hb i1 h1 4 j1
  unfold spec_l1bend.f
  rw [if_pos hs, e1, Option.bind_some]
  show ∃ (r : ByteArray) (i' h' : Int), (if 0 ≤ p ∧ p ≤ s.size then _ else _) = some (r, i', h') ∧ _
  rw [if_pos ⟨p0, by omega⟩, e2, Option.bind_some]
  obtain ⟨n, rfl⟩ := Int.eq_ofNat_of_zero_le p0
  show ∃ (r : ByteArray) (i' h' : Int), (if q = 0 then _ else _) = some (r, i', h') ∧ _
  have z1 : (s.extract 0 n).size ≤ n := by rw [ByteArray.size_extract]; omega
  have z2 : (s.extract n s.size).size ≤ s.size - n := by rw [ByteArray.size_extract]; omega
  have z3 : (s.extract (n + 1) s.size).size ≤ s.size - (n + 1) := by rw [ByteArray.size_extract]; omega
  by_cases c0 : q = 0
  · rw [if_pos c0]
    obtain ⟨x, i3, h3, e3, x0, x1, j3⟩ := draw_byte hb i2 h2 j2
    rw [e3, Option.bind_some]
    refine ⟨_, _, _, rfl, ?_, j3⟩
    rw [ByteArray.size_append, ByteArray.size_append, size_strOf]
    simp only [List.length_cons, List.length_nil, Int.toNat_natCast]
    omega
  · rw [if_neg c0]
    by_cases c1 : q = 1
    · rw [if_pos c1]
      exact ⟨_, _, _, rfl, by simp only [Int.toNat_natCast]; omega, j2⟩
    · rw [if_neg c1]
      by_cases c2 : q = 2 ∧ (n : Int) < s.size
      · rw [if_pos c2]
        exact ⟨_, _, _, rfl, by rw [ByteArray.size_append]; simp only [Int.toNat_natCast]; omega, j2⟩
      · rw [if_neg c2]
        by_cases c3 : (n : Int) < s.size
        · rw [if_pos c3]
          obtain ⟨x, i3, h3, e3, x0, x1, _, j3⟩ := draw_below hb i2 h2 8 j2
          have x1 := x1 (by decide)
          rw [e3, Option.bind_some]
          show ∃ (r : ByteArray) (i' h' : Int), (if 0 ≤ x ∧ x < 8 then _ else _) = some (r, i', h') ∧ _
          rw [if_pos ⟨x0, x1⟩]
          refine ⟨_, _, _, rfl, ?_, j3⟩
          rw [size_strOf, List.length_set, bytesOf_length]; omega
        · rw [if_neg c3]
          refine ⟨_, _, _, rfl, ?_, j2⟩
          rw [ByteArray.size_append]; exact Nat.le_refl _

theorem draw_of_l0 {b : List Int} (hb : Bs b) (set : ByteArray) (hs0 : 0 < set.size) (hs1 : set.size ≤ 200) : ∀ (d j : Nat) (out : List Int) (i h : Int), 0 ≤ i → out.length = j → j + d ≤ 1000 → ∃ (r : ByteArray) (i' h' : Int), Ev (fun k => spec_l1of.l0 k ((j + d : Nat) : Int) set out (j : Int) b i h) (r, i', h') ∧ r.size = j + d ∧ 0 ≤ i' := by
  intro d
  induction d with
  | zero =>
    intro j out i h hi hl hd
    exact ⟨strOfNums out, i, h, Ev.step (fun k => spec_l1of.l0.eq_2 _ _ _ _ _ _ _ k) (Ev.neg (by omega) (Ev.now _)), by rw [size_strOf]; omega, hi⟩
  | succ d ih =>
    intro j out i h hi hl hd
    obtain ⟨x, i1, h1, e1, x0, x1, _, j1⟩ := draw_below hb i h (set.size : Int) hi
    have x1 := x1 (by omega)
    have hw : wrap64 ((j : Int) + 1) = ((j + 1 : Nat) : Int) := by rw [w64 (by omega) (by omega)]; omega
    obtain ⟨r, i2, h2, e2, z, j2⟩ := ih (j + 1) (out ++ [bt set x]) i1 h1 j1 (by simp [hl]) (by omega)
    rw [show j + 1 + d = j + (d + 1) by omega] at e2 z
    refine ⟨r, i2, h2, Ev.step (fun k => spec_l1of.l0.eq_2 _ _ _ _ _ _ _ k) (Ev.pos (by omega) (Ev.told e1 (Ev.pos x0 (Ev.pos x1 (Ev.pos (by omega) ?_))))), z, j2⟩
    rw [hw]; exact e2
theorem draw_of {b : List Int} (hb : Bs b) (set : ByteArray) (hs0 : 0 < set.size) (hs1 : set.size ≤ 200) (n : Int) (h0 : 0 ≤ n) (h1 : n ≤ 1000) (i h : Int) (hi : 0 ≤ i) : ∃ (r : ByteArray) (i' h' : Int), Ev (fun k => spec_l1of.f k b i h n set) (r, i', h') ∧ r.size ≤ 1000 ∧ (r.size : Int) = n ∧ 0 ≤ i' := by
  obtain ⟨m, rfl⟩ := Int.eq_ofNat_of_zero_le h0
  obtain ⟨r, i2, h2, e2, z, j2⟩ := draw_of_l0 hb set hs0 hs1 m 0 [] i h hi rfl (by omega)
  rw [Nat.zero_add] at e2 z
  exact ⟨r, i2, h2, e2, by omega, by omega, j2⟩

/-! A list's elements, over bytes alone -/
open Foreign (ws trim trimL trimR el addE el_end)
def addL (out : List ByteArray) (cur : List Int) : List ByteArray := if trim cur = [] then out else out ++ [strOfNums (trim cur)]
def spq : Nat → List Int → Bool → List Int → List ByteArray → List ByteArray
  | 0, l, _, cur, out => addL out (cur ++ l)
  | _ + 1, [], _, cur, out => addL out cur
  | d + 1, b :: r, q, cur, out =>
    if b = 34 then spq d r (!q) (cur ++ [b]) out
    else if q = true ∧ b = 92 then spq d (r.drop 1) q (cur ++ [b] ++ r.take 1) out
    else if q = false ∧ b = 44 then spq d r q [] (addL out cur)
    else spq d r q (cur ++ [b]) out
theorem spq_nil (d : Nat) (q : Bool) (cur : List Int) (out : List ByteArray) : spq d [] q cur out = addL out cur := by
  cases d with
  | zero => rw [spq, List.append_nil]
  | succ d => rw [spq]
theorem addE_L (out : List ByteArray) (s : ByteArray) (f : Nat) : addE out (s.extract f s.size) = addL out ((bytesOf s).drop f) := by
  unfold addE addL
  rw [bytes_to_end]
theorem cut_more {l : List Int} {f i : Nat} (hf : f ≤ i) (hi : i < l.length) : (l.drop f).take (i + 1 - f) = (l.drop f).take (i - f) ++ [l.getD i 0] := by
  have h : i - f < (l.drop f).length := by rw [List.length_drop]; omega
  rw [show i + 1 - f = (i - f) + 1 by omega, take_snoc h]
  congr 2
  rw [List.getD_eq_getElem?_getD, List.getD_eq_getElem?_getD, List.getElem?_drop, show f + (i - f) = i by omega]
theorem cut_all {l : List Int} {f i : Nat} (h : l.length ≤ i) : (l.drop f).take (i - f) = l.drop f := by
  apply List.take_of_length_le
  rw [List.length_drop]; omega
theorem el_spq (s : ByteArray) : ∀ (d i f : Nat) (q : Bool) (out : List ByteArray), f ≤ i → el s d i f q out = spq d ((bytesOf s).drop i) q (((bytesOf s).drop f).take (i - f)) out
  | 0, i, f, q, out, h => by
    show addE out (s.extract f s.size) = addL out (((bytesOf s).drop f).take (i - f) ++ (bytesOf s).drop i)
    rw [addE_L]
    congr 1
    rw [show (bytesOf s).drop i = ((bytesOf s).drop f).drop (i - f) by rw [List.drop_drop, show f + (i - f) = i by omega], List.take_append_drop]
  | d + 1, i, f, q, out, h => by
    by_cases hi : i < s.size
    · have hil : i < (bytesOf s).length := by rw [bytesOf_length]; exact hi
      rw [el, if_pos hi, drop_cons hil, spq]
      generalize hb : (bytesOf s).getD i 0 = b
      by_cases c34 : b = 34
      · rw [if_pos c34, if_pos c34, el_spq s d (i + 1) f (!q) out (by omega), cut_more h hil, hb]
      · rw [if_neg c34, if_neg c34]
        by_cases c92 : q = true ∧ b = 92
        · rw [if_pos c92, if_pos c92, el_spq s d (i + 2) f q out (by omega), List.drop_drop]
          congr 1
          by_cases h2 : i + 1 < (bytesOf s).length
          · rw [show i + 2 - f = (i + 1) + 1 - f by omega, cut_more (by omega) h2, cut_more h hil, hb, drop_cons h2]
            rfl
          · rw [cut_all (by omega), List.drop_eq_nil_of_le (by omega : (bytesOf s).length ≤ i + 1), List.take_nil, List.append_nil, ← hb, ← cut_more h hil, cut_all (by omega)]
        · rw [if_neg c92, if_neg c92]
          by_cases c44 : q = false ∧ b = 44
          · rw [if_pos c44, if_pos c44, el_spq s d (i + 1) (i + 1) q _ (by omega), Nat.sub_self, List.take_zero]
            congr 1
            unfold addE addL
            rw [bytes_extract]
          · rw [if_neg c44, if_neg c44, el_spq s d (i + 1) f q out (by omega), cut_more h hil, hb]
    · rw [el_end hi, List.drop_eq_nil_of_le (by rw [bytesOf_length]; omega), spq_nil, addE_L, cut_all (by rw [bytesOf_length]; omega)]
/-- blanks and tabs alone -/
def Bl (l : List Int) : Prop := ∀ x ∈ l, ws x = true
theorem ws_ne {x : Int} (h : ws x = true) : x ≠ 34 ∧ x ≠ 44 := by
  unfold ws at h
  simp only [Bool.or_eq_true, beq_iff_eq] at h
  omega
theorem dropW_bl : ∀ (l m : List Int), Bl l → (l ++ m).dropWhile ws = m.dropWhile ws
  | [], m, _ => rfl
  | x :: l, m, h => by
    rw [List.cons_append, List.dropWhile_cons, if_pos (h x (by simp))]
    exact dropW_bl l m fun y hy => h y (by simp [hy])
theorem trim_bl {l : List Int} (h : Bl l) : trim l = [] := by
  have : l.dropWhile ws = [] := by have := dropW_bl l [] h; rwa [List.append_nil] at this
  unfold trim trimL
  rw [this]; rfl
theorem Bl.rev {l : List Int} (h : Bl l) : Bl l.reverse := fun x hx => h x (List.mem_reverse.mp hx)
/-- what stands between blanks, where both its ends are no blank -/
theorem trim_mid {p m t : List Int} {a z : Int} (hp : Bl p) (ht : Bl t) (ha : ws a = false) (hz : ws z = false) (n : List Int) (e1 : ∃ m', n = a :: m') (e2 : ∃ m', n = m' ++ [z]) : trim (p ++ n ++ t) = n := by
  obtain ⟨m1, h1⟩ := e1
  obtain ⟨m2, h2⟩ := e2
  have hL : trimL (p ++ n ++ t) = n ++ t := by
    unfold trimL
    rw [List.append_assoc, dropW_bl p _ hp, h1, List.cons_append, List.dropWhile_cons, if_neg (by rw [ha]; simp)]
  unfold trim
  rw [hL]
  unfold trimR
  rw [List.reverse_append, dropW_bl _ _ ht.rev, h2, List.reverse_append, List.reverse_singleton, List.singleton_append, List.dropWhile_cons, if_neg (by rw [hz]; simp), List.reverse_cons, List.reverse_reverse]
theorem sp_plain {b : Int} (h34 : b ≠ 34) (h44 : b ≠ 44) (d : Nat) (r cur : List Int) (out : List ByteArray) : spq (d + 1) (b :: r) false cur out = spq d r false (cur ++ [b]) out := by
  rw [spq, if_neg h34, if_neg (fun h => Bool.noConfusion h.1), if_neg (fun h => h44 h.2)]
theorem sp_comma (d : Nat) (r cur : List Int) (out : List ByteArray) : spq (d + 1) (44 :: r) false cur out = spq d r false [] (addL out cur) := by
  rw [spq, if_neg (by decide), if_neg (fun h => Bool.noConfusion h.1), if_pos ⟨rfl, rfl⟩]
theorem sp_quote (d : Nat) (r cur : List Int) (q : Bool) (out : List ByteArray) : spq (d + 1) (34 :: r) q cur out = spq d r (!q) (cur ++ [34]) out := by
  rw [spq, if_pos rfl]
theorem sp_in {b : Int} (h34 : b ≠ 34) (h92 : b ≠ 92) (d : Nat) (r cur : List Int) (out : List ByteArray) : spq (d + 1) (b :: r) true cur out = spq d r true (cur ++ [b]) out := by
  rw [spq, if_neg h34, if_neg (fun h => h92 h.2), if_neg (fun h => Bool.noConfusion h.1)]
theorem sp_esc (b : Int) (d : Nat) (r cur : List Int) (out : List ByteArray) : spq (d + 1) (92 :: b :: r) true cur out = spq d r true (cur ++ [92, b]) out := by
  rw [spq, if_neg (by decide), if_pos ⟨rfl, rfl⟩]
  simp
theorem bl_run : ∀ (p : List Int) (_ : Bl p) (d : Nat) (r cur : List Int) (out : List ByteArray), spq (p.length + d) (p ++ r) false cur out = spq d r false (cur ++ p) out
  | [], _, d, r, cur, out => by simp
  | x :: p, h, d, r, cur, out => by
    have hx := ws_ne (h x (by simp))
    rw [show (x :: p).length + d = (p.length + d) + 1 by simp only [List.length_cons]; omega, List.cons_append, sp_plain hx.1 hx.2, bl_run p (fun y hy => h y (by simp [hy])), List.append_assoc]
    rfl
theorem sep_run : ∀ (p : List Int) (_ : ∀ x ∈ p, ws x = true ∨ x = 44) (d : Nat) (r cur : List Int) (out : List ByteArray) (_ : Bl cur), ∃ cur', Bl cur' ∧ spq (p.length + d) (p ++ r) false cur out = spq d r false cur' out
  | [], _, d, r, cur, out, hc => ⟨cur, hc, by simp⟩
  | x :: p, h, d, r, cur, out, hc => by
    have hp : ∀ y ∈ p, ws y = true ∨ y = 44 := fun y hy => h y (by simp [hy])
    have e : (x :: p).length + d = (p.length + d) + 1 := by simp only [List.length_cons]; omega
    rcases h x (by simp) with hx | rfl
    · have hn := ws_ne hx
      obtain ⟨c', hc', e'⟩ := sep_run p hp d r (cur ++ [x]) out (by
        intro y hy
        rcases List.mem_append.mp hy with h1 | h1
        · exact hc y h1
        · rw [List.mem_singleton.mp h1]; exact hx)
      exact ⟨c', hc', by rw [e, List.cons_append, sp_plain hn.1 hn.2, e']⟩
    · obtain ⟨c', hc', e'⟩ := sep_run p hp d r [] out (by intro y hy; cases hy)
      refine ⟨c', hc', ?_⟩
      rw [e, List.cons_append, sp_comma, ← e']
      congr 1
      unfold addL
      rw [if_pos (trim_bl hc)]
theorem word_run {a b : Int} (ha : ws a = false) (ha3 : a ≠ 34) (ha4 : a ≠ 44) (hb : ws b = false) (hb3 : b ≠ 34) (hb4 : b ≠ 44) (cur tail : List Int) (hc : Bl cur) (ht : Bl tail) (d : Nat) (r : List Int) (out : List ByteArray) :
    spq (tail.length + d + 3) (a :: b :: (tail ++ 44 :: r)) false cur out = spq d r false [] (out ++ [strOfNums [a, b]]) := by
  rw [sp_plain ha3 ha4, sp_plain hb3 hb4, show tail.length + d + 1 = tail.length + (d + 1) by omega, bl_run tail ht, sp_comma]
  congr 1
  have e : trim (cur ++ [a] ++ [b] ++ tail) = [a, b] := by
    rw [show cur ++ [a] ++ [b] ++ tail = cur ++ [a, b] ++ tail by simp]
    exact trim_mid (m := []) hc ht ha hb [a, b] ⟨[b], rfl⟩ ⟨[a], rfl⟩
  unfold addL
  rw [e, if_neg (by simp)]
theorem same_self (l : List ByteArray) (hl : l.length ≤ 9223372036854775807) : Ev (fun k => laws_sameTexts.f k l l) true := by
  unfold laws_sameTexts.f
  refine Ev.pos rfl ?_
  have : ∀ (d i : Nat), i + d = l.length → Ev (fun k => laws_sameTexts.l0 k l l (i : Int)) true := by
    intro d
    induction d with
    | zero => intro i h; exact Ev.step (fun k => laws_sameTexts.l0.eq_2 _ _ _ k) (Ev.neg (by omega) (Ev.now _))
    | succ d ih =>
      intro i h
      have hw : wrap64 ((i : Int) + 1) = ((i + 1 : Nat) : Int) := by rw [w64 (by omega) (by omega)]; omega
      refine Ev.step (fun k => laws_sameTexts.l0.eq_2 _ _ _ k) (Ev.pos (by omega) (Ev.pos (by omega) (Ev.pos (by omega) (Ev.pos rfl ?_))))
      rw [hw]; exact ih (i + 1) (by omega)
  exact this l.length 0 (by omega)

theorem draw_quote {b : List Int} (hb : Bs b) : ∃ s : ByteArray, Ev (fun k => spec_DrawQuote.f k b) s ∧ s.size ≤ 1001 := by
  obtain ⟨h0, e0⟩ := draw_new hb
  obtain ⟨n, i1, h1, e1, n0, n1, _, j1⟩ := draw_below hb 0 h0 9 (by omega)
  have n1 := n1 (by decide)
  obtain ⟨x, i2, h2, e2, z, _, j2⟩ := draw_of hb (⟨#[97, 98, 32, 34, 92, 44, 9, 126]⟩ : ByteArray) (by decide) (by decide) n n0 (by omega) i1 h1 j1
  obtain ⟨o, i3, h3, e3, j3⟩ := draw_once hb i2 h2 5 j2
  unfold spec_DrawQuote.f
  cases o with
  | true =>
    obtain ⟨y, i4, h4, e4, zy, _⟩ := draw_bend hb i3 h3 x (by omega) j3
    exact ⟨y, Ev.bind e0 (Ev.told e1 (Ev.bind e2 (Ev.told e3 (Ev.pos rfl (Ev.told e4 (Ev.now _)))))), by omega⟩
  | false => exact ⟨x, Ev.bind e0 (Ev.told e1 (Ev.bind e2 (Ev.told e3 (Ev.neg (by simp) (Ev.now _))))), by omega⟩
/-- the bytes of a text, with marks ahead where wanted -/
def qL (l : List Int) : List Int := l.flatMap q1
theorem qs_L (s : ByteArray) : ∀ (d i : Nat), i + d = s.size → qs s i d = qL ((bytesOf s).drop i)
  | 0, i, h => by rw [List.drop_eq_nil_of_le (by rw [bytesOf_length]; omega)]; rfl
  | d + 1, i, h => by
    rw [qs_succ, drop_cons (by rw [bytesOf_length]; omega), ← bt_nat, qs_L s d (i + 1) (by omega)]
    rfl
theorem plains_L (s : ByteArray) : ∀ (d i : Nat), i + d = s.size → plains s i d = ((bytesOf s).drop i).all plain
  | 0, i, h => by rw [List.drop_eq_nil_of_le (by rw [bytesOf_length]; omega)]; rfl
  | d + 1, i, h => by
    rw [plains_succ, drop_cons (by rw [bytesOf_length]; omega), ← bt_nat, plains_L s d (i + 1) (by omega), List.all_cons]
theorem qL_cons (x : Int) (l : List Int) : qL (x :: l) = q1 x ++ qL l := rfl
theorem qL_len : ∀ (l : List Int), l.length ≤ (qL l).length ∧ (qL l).length ≤ 2 * l.length
  | [] => ⟨Nat.le_refl _, Nat.le_refl _⟩
  | x :: l => by
    have := qL_len l
    rw [qL_cons, List.length_append, List.length_cons]
    have h1 : 1 ≤ (q1 x).length ∧ (q1 x).length ≤ 2 := by
      unfold q1
      split
      · simp
      · split <;> simp
    omega
theorem qL_byte {l : List Int} (h : ∀ x ∈ l, 0 ≤ x ∧ x < 256) : ∀ x ∈ qL l, 0 ≤ x ∧ x < 256 := by
  intro x hx
  simp only [qL, List.mem_flatMap] at hx
  obtain ⟨y, hy, hx⟩ := hx
  have := h y hy
  unfold q1 at hx
  split at hx
  · simp only [List.mem_cons, List.not_mem_nil, or_false] at hx; omega
  · split at hx
    · simp only [List.mem_cons, List.not_mem_nil, or_false] at hx; omega
    · simp only [List.mem_cons, List.not_mem_nil, or_false] at hx; omega
/-- inside the quotes -/
theorem in_run : ∀ (l : List Int) (d : Nat) (r cur : List Int) (out : List ByteArray), ∃ d', d ≤ d' ∧ spq ((qL l).length + d) (qL l ++ r) true cur out = spq d' r true (cur ++ qL l) out
  | [], d, r, cur, out => ⟨d, Nat.le_refl _, by simp [qL]⟩
  | x :: l, d, r, cur, out => by
    rw [qL_cons]
    by_cases hq : x = 34 ∨ x = 92
    · have e1 : q1 x = [92, x] := by
        unfold q1
        rcases hq with rfl | rfl
        · rfl
        · rfl
      obtain ⟨d', hd', e⟩ := in_run l (d + 1) r (cur ++ [92, x]) out
      refine ⟨d', by omega, ?_⟩
      rw [e1, show ([92, x] ++ qL l).length + d = ((qL l).length + (d + 1)) + 1 by simp only [List.length_append, List.length_cons, List.length_nil]; omega]
      show spq _ (92 :: x :: (qL l ++ r)) true cur out = _
      rw [sp_esc, show (qL l).length + (d + 1) = (qL l).length + (d + 1) from rfl, e, List.append_assoc]
    · have e1 : q1 x = [x] := by
        unfold q1
        rw [if_neg (fun h => hq (.inl h)), if_neg (fun h => hq (.inr h))]
      obtain ⟨d', hd', e⟩ := in_run l d r (cur ++ [x]) out
      refine ⟨d', hd', ?_⟩
      rw [e1, show ([x] ++ qL l).length + d = ((qL l).length + d) + 1 by simp only [List.length_append, List.length_cons, List.length_nil]; omega]
      show spq _ (x :: (qL l ++ r)) true cur out = _
      rw [sp_in (fun h => hq (.inl h)) (fun h => hq (.inr h)), e, List.append_assoc]
theorem ws_120 : ws 120 = false := rfl
/-- the list with the quoted text in its middle -/
theorem el_quoted (l : List Int) (hb : ∀ x ∈ l, 0 ≤ x ∧ x < 256) (hl : l.length ≤ 1500) : Foreign.impl_Elements.f (((⟨#[120, 44, 32]⟩ : ByteArray) ++ strOfNums ([34] ++ qL l ++ [34])) ++ (⟨#[32, 44, 121]⟩ : ByteArray)) = some [(⟨#[120]⟩ : ByteArray), strOfNums ([34] ++ qL l ++ [34]), (⟨#[121]⟩ : ByteArray)] := by
  have hq := qL_len l
  have hqb : ∀ x ∈ ([34] ++ qL l ++ [34] : List Int), 0 ≤ x ∧ x < 256 := by
    intro x hx
    rcases List.mem_append.mp hx with h | h
    · rcases List.mem_append.mp h with h | h
      · simp only [List.mem_singleton] at h; omega
      · exact qL_byte hb x h
    · simp only [List.mem_singleton] at h; omega
  obtain ⟨S, hS⟩ : ∃ S, ((⟨#[120, 44, 32]⟩ : ByteArray) ++ strOfNums ([34] ++ qL l ++ [34])) ++ (⟨#[32, 44, 121]⟩ : ByteArray) = S := ⟨_, rfl⟩
  have eb : bytesOf S = 120 :: 44 :: 32 :: 34 :: (qL l ++ (34 :: 32 :: 44 :: 121 :: [])) := by
    rw [← hS, bytes_append, bytes_append, bytes_strOf hqb]
    show [120, 44, 32] ++ ([34] ++ qL l ++ [34]) ++ [32, 44, 121] = _
    simp
  have ez : S.size = ((qL l).length + 4) + 4 := by
    rw [← bytesOf_length, eb]
    simp only [List.length_cons, List.length_append, List.length_nil]
  rw [hS]
  unfold Foreign.impl_Elements.f
  rw [if_pos (by omega), el_spq S S.size 0 0 false [] (Nat.le_refl _), List.drop_zero, Nat.sub_self, List.take_zero, eb, ez]
  congr 1
  rw [sp_plain (by decide) (by decide), sp_comma, sp_plain (by decide) (by decide), sp_quote]
  obtain ⟨d', hd', e⟩ := in_run l 4 (34 :: 32 :: 44 :: 121 :: []) ([] ++ [32] ++ [34]) (addL [] ([] ++ [120]))
  obtain ⟨d, rfl⟩ : ∃ d, d' = d + 4 := ⟨d' - 4, by omega⟩
  show spq _ _ true _ _ = _
  rw [e, show d + 4 = (d + 3) + 1 from rfl, sp_quote]
  show spq (d + 3) _ false _ _ = _
  rw [show d + 3 = (d + 2) + 1 from rfl, sp_plain (by decide) (by decide), show d + 2 = (d + 1) + 1 from rfl, sp_comma, sp_plain (by decide) (by decide), spq_nil]
  have t1 : addL [] ([] ++ [120]) = [(⟨#[120]⟩ : ByteArray)] := by
    have : trim ([] ++ [120]) = [120] := rfl
    unfold addL
    rw [this, if_neg (by simp)]; rfl
  have t2 : trim ([] ++ [32] ++ [34] ++ qL l ++ [34] ++ [32]) = [34] ++ qL l ++ [34] := by
    have := trim_mid (p := [32]) (m := []) (t := [32]) (a := 34) (z := 34) (by simp [Bl, ws]) (by simp [Bl, ws]) rfl rfl ([34] ++ qL l ++ [34]) ⟨qL l ++ [34], by simp⟩ ⟨[34] ++ qL l, rfl⟩
    rw [← this]
    congr 1
    all_goals simp
  have t3 : trim ([] ++ [121]) = [121] := rfl
  rw [t1]
  unfold addL
  rw [t2, t3, if_neg (by simp), if_neg (by simp)]
  rfl
theorem unq_l0 (S : ByteArray) (hS : S.size ≤ 100000) : ∀ (m : List Int) (i : Nat) (out : List Int), (∀ x ∈ m, plain x = true) → i + (qL m).length = S.size → (bytesOf S).drop i = qL m → out.length + m.length ≤ 4000 →
    Ev (fun k => impl_Unquote.l0 k S out (i : Int)) (strOfNums (out ++ m), true)
  | [], i, out, hp, hi, he, hl => by
    refine Ev.step (fun k => impl_Unquote.l0.eq_2 _ _ _ k) (Ev.neg (by simp [qL] at hi; omega) (Ev.neg (by simp at hl; omega) ?_))
    rw [List.append_nil]; exact Ev.now _
  | x :: m, i, out, hp, hi, he, hl => by
    have hx : plain x = true := hp x (by simp)
    have hcap : out.length < 140737488355328 := by simp only [List.length_cons] at hl; omega
    have hm : ∀ y ∈ m, plain y = true := fun y hy => hp y (by simp [hy])
    rw [qL_cons] at hi he
    rw [List.length_append] at hi
    have hg := fun (j : Nat) (h1 : j + (qL m).length = S.size) (h2 : (bytesOf S).drop j = qL m) => unq_l0 S hS m j (out ++ [x]) hm h1 h2 (by simp only [List.length_append, List.length_cons, List.length_nil] at hl ⊢; omega)
    rw [List.append_assoc] at hg
    by_cases hq : x = 34 ∨ x = 92
    · have e1 : q1 x = [92, x] := by
        unfold q1
        rcases hq with rfl | rfl
        · rfl
        · rfl
      rw [e1] at hi he
      simp only [List.length_cons, List.length_nil] at hi
      have hil : i < (bytesOf S).length := by rw [bytesOf_length]; omega
      have hil1 : i + 1 < (bytesOf S).length := by rw [bytesOf_length]; omega
      rw [drop_cons hil, drop_cons hil1] at he
      have b0 : bt S (i : Int) = 92 := by rw [bt_nat]; exact (List.cons.inj he).1
      have b1 : bt S ((i + 1 : Nat) : Int) = x := by rw [bt_nat]; exact (List.cons.inj (List.cons.inj he).2).1
      have b2 : (bytesOf S).drop (i + 2) = qL m := (List.cons.inj (List.cons.inj he).2).2
      have w1 : wrap64 ((i : Int) + 1) = ((i + 1 : Nat) : Int) := by rw [w64 (by omega) (by omega)]; omega
      have w2 : wrap64 (((i + 1 : Nat) : Int) + 1) = ((i + 2 : Nat) : Int) := by rw [w64 (by omega) (by omega)]; omega
      have g0 : (i : Int) < (S.size : Int) := by omega
      have g1 : ((i + 1 : Nat) : Int) < (S.size : Int) := by omega
      have g2 : ¬ ((i + 1 : Nat) : Int) = (S.size : Int) := by omega
      refine Ev.step (fun k => impl_Unquote.l0.eq_2 _ _ _ k) ?_
      rw [b0, w1, b1, w2]
      exact Ev.pos g0 (Ev.pos (Int.natCast_nonneg _) (Ev.neg (by decide) (Ev.pos rfl (Ev.neg g2 (Ev.pos (Int.natCast_nonneg _) (Ev.pos g1 (Ev.told (impl_plain x) (Ev.pos hx (Ev.pos hcap (hg (i + 2) (by omega) b2))))))))))
    · have e1 : q1 x = [x] := by
        unfold q1
        rw [if_neg (fun h => hq (.inl h)), if_neg (fun h => hq (.inr h))]
      rw [e1] at hi he
      simp only [List.length_cons, List.length_nil] at hi
      have hil : i < (bytesOf S).length := by rw [bytesOf_length]; omega
      rw [drop_cons hil] at he
      have b0 : bt S (i : Int) = x := by rw [bt_nat]; exact (List.cons.inj he).1
      have b2 : (bytesOf S).drop (i + 1) = qL m := (List.cons.inj he).2
      have w1 : wrap64 ((i : Int) + 1) = ((i + 1 : Nat) : Int) := by rw [w64 (by omega) (by omega)]; omega
      refine Ev.step (fun k => impl_Unquote.l0.eq_2 _ _ _ k) ?_
      rw [b0, w1]
      exact Ev.pos (by omega) (Ev.pos (by omega) (Ev.neg (fun h => hq (.inl h)) (Ev.neg (fun h => hq (.inr h)) (Ev.neg (by omega) (Ev.told (impl_plain x) (Ev.pos hx (Ev.pos hcap (hg (i + 1) (by omega) b2))))))))
theorem unquote_quote (l : List Int) (hb : ∀ x ∈ l, 0 ≤ x ∧ x < 256) (hl : l.length ≤ 1500) (hp : ∀ x ∈ l, plain x = true) : Ev (fun k => impl_Unquote.f k (strOfNums ([34] ++ qL l ++ [34]))) (strOfNums l, true) := by
  have hq := qL_len l
  have hqb : ∀ x ∈ ([34] ++ qL l ++ [34] : List Int), 0 ≤ x ∧ x < 256 := by
    intro x hx
    rcases List.mem_append.mp hx with h | h
    · rcases List.mem_append.mp h with h | h
      · simp only [List.mem_singleton] at h; omega
      · exact qL_byte hb x h
    · simp only [List.mem_singleton] at h; omega
  obtain ⟨T, hT⟩ : ∃ T, strOfNums ([34] ++ qL l ++ [34]) = T := ⟨_, rfl⟩
  have eb : bytesOf T = [34] ++ qL l ++ [34] := by rw [← hT]; exact bytes_strOf hqb
  have ez : T.size = (qL l).length + 2 := by
    rw [← bytesOf_length, eb]; simp only [List.length_append, List.length_cons, List.length_nil]; omega
  have wz : wrap64 ((T.size : Int) - 1) = ((T.size - 1 : Nat) : Int) := by rw [w64 (by omega) (by omega)]; omega
  have b0 : bt T 0 = 34 := by
    rw [show (0 : Int) = ((0 : Nat) : Int) from rfl, bt_nat, eb]; rfl
  have b1 : bt T ((T.size - 1 : Nat) : Int) = 34 := by
    rw [bt_nat, eb, ez, List.getD_eq_getElem?_getD, show (qL l).length + 2 - 1 = ([34] ++ qL l : List Int).length by simp only [List.length_append, List.length_cons, List.length_nil]; omega, List.getElem?_append_right (Nat.le_refl _), Nat.sub_self]
    rfl
  have hin : bytesOf (T.extract 1 (T.size - 1)) = qL l := by
    rw [bytes_extract, eb, ez]
    show (qL l ++ [34]).take _ = _
    rw [show (qL l).length + 2 - 1 - 1 = (qL l).length by omega, List.take_left']
    rfl
  have hiz : (T.extract 1 (T.size - 1)).size = (qL l).length := by rw [← bytesOf_length, hin]
  rw [hT]
  unfold impl_Unquote.f
  refine Ev.neg (by omega) (Ev.pos (by omega) (Ev.pos b0 ?_))
  rw [wz, b1]
  refine Ev.pos (by omega) (Ev.pos (by omega) ?_)
  refine Ev.step (fun k => impl_Unquote.j0.eq_2 _ _ k) ?_
  rw [wz]
  refine Ev.neg (by simp) (Ev.pos (by omega) (Ev.pos (by omega) ?_))
  show Ev (fun k => impl_Unquote.l0 k (T.extract 1 (T.size - 1)) [] 0) _
  exact unq_l0 _ (by omega) l 0 [] hp (by omega) (by rw [List.drop_zero]; exact hin) (by simp; omega)
theorem FnQuotes : laws_FnQuotes.Pure := by
  intro b hl hb hw
  apply Ev.rounds
  have hbs : Bs b := by unfold Bs; omega
  obtain ⟨s, es, zs⟩ := draw_quote hbs
  have hwd : Foreign.laws_words.f = some true := rfl
  have i1 := impl_quote s (by omega)
  have s1 := spec_quote s (by omega)
  unfold laws_FnQuotes.f
  refine Ev.bind es (Ev.bind i1 (Ev.bind s1 (Ev.neg (by simp) ?_)))
  cases hp : plains s 0 s.size with
  | false =>
    rw [quote_bad hp]
    exact Ev.neg (by simp) (Ev.pos (by rw [Lib.toList_data]) (Ev.told hwd (Ev.now _)))
  | true =>
    rw [quote_good (by omega) hp, qs_L s s.size 0 (by omega), List.drop_zero]
    have hbb : ∀ x ∈ bytesOf s, 0 ≤ x ∧ x < 256 := fun x hx => bytes_lt hx
    have hlen : (bytesOf s).length ≤ 1500 := by rw [bytesOf_length]; omega
    have hpl : ∀ x ∈ bytesOf s, plain x = true := by
      rw [plains_L s s.size 0 (by omega), List.drop_zero, List.all_eq_true] at hp
      exact hp
    have u := unquote_quote (bytesOf s) hbb hlen hpl
    rw [strOf_bytes] at u
    have e := el_quoted (bytesOf s) hbb hlen
    have hq := qL_len (bytesOf s)
    have hz : (strOfNums ([34] ++ qL (bytesOf s) ++ [34])).size ≤ 3100 := by rw [size_strOf]; simp only [List.length_append, List.length_cons, List.length_nil]; omega
    have c1 : 3 + (strOfNums ([34] ++ qL (bytesOf s) ++ [34])).size ≤ 9223372036854775807 := by omega
    have c2 : ((⟨#[120, 44, 32]⟩ : ByteArray) ++ strOfNums ([34] ++ qL (bytesOf s) ++ [34])).size + 3 ≤ 9223372036854775807 := by
      have h3 : (⟨#[120, 44, 32]⟩ : ByteArray).size = 3 := rfl
      rw [ByteArray.size_append, h3]; omega
    refine Ev.pos rfl (Ev.bind u (Ev.pos c1 (Ev.pos c2 (Ev.told e (Ev.pos rfl (Ev.pos rfl (Ev.bind (same_self _ (by simp)) (Ev.pos rfl (Ev.told hwd (Ev.now _))))))))))

end Go.Proofs.YtikeagkcekkioaaDoor.Pure
