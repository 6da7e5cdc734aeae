/- The law FnHexes answers true for every code: a number comes back from its digits in sixteens, with a zero ahead, too. No condition. -/
import Derived.Test.YtikeagkcekkioaaDoorQFnHexesx2
import Derived.Test.YtikeagkcekkioaaDoorBase
namespace Go.Proofs.YtikeagkcekkioaaDoor.Pure
open Go.RowKit Go.Proofs.YtikeagkcekkioaaDoor.PFnHexes Go.Proofs.YtikeagkcekkioaaDoorW.PrintWords Go.Proofs.YtikeagkcekkioaaDoorW.PrintLast Go.Proofs.YtikeagkcekkioaaDoorW.PrintMore Go.Proofs.YtikeagkcekkioaaDoor.Base
set_option linter.unusedVariables false
set_option linter.unusedSimpArgs false

/-! The reader of draws -/
def Bs (b : List Int) : Prop := b.length ≤ 140737488351240
theorem and255 (y : Int) : 0 ≤ Go.bits .and .i64 y 255 ∧ Go.bits .and .i64 y 255 ≤ 255 := by
  have h : (BitVec.ofInt 64 y &&& BitVec.ofInt 64 255).toNat ≤ 255 := by
    rw [BitVec.toNat_and]
    exact Nat.and_le_right
  show 0 ≤ IntKind.i64.wrap ((BitVec.ofInt 64 y &&& BitVec.ofInt 64 255).toNat : Int) ∧ IntKind.i64.wrap ((BitVec.ofInt 64 y &&& BitVec.ofInt 64 255).toNat : Int) ≤ 255
  rw [wraps_i64 _ (Int.natCast_nonneg _) (by omega)]
  omega
theorem draw_byte {b : List Int} (hb : Bs b) (i h : Int) (hi : 0 ≤ i) : ∃ x i' h' : Int, spec_l1Byte.f b i h = some (x, i', h') ∧ 0 ≤ x ∧ x ≤ 255 ∧ 0 ≤ i' := by
  unfold Bs at hb
  unfold spec_l1Byte.f
  by_cases c : i < (b.length : Int)
  · rw [if_pos c, if_pos hi]
    exact ⟨_, _, _, rfl, (and255 _).1, (and255 _).2, by rw [w64 (by omega) (by omega)]; omega⟩
  · rw [if_neg c]
    exact ⟨_, _, _, rfl, (and255 _).1, (and255 _).2, hi⟩
theorem tmod_in {x n : Int} (hx : 0 ≤ x) (hn : 0 < n) : 0 ≤ Int.tmod x n ∧ Int.tmod x n < n := by
  rw [Int.tmod_eq_emod_of_nonneg hx]
  exact ⟨Int.emod_nonneg _ (by omega), Int.emod_lt_of_pos _ hn⟩
theorem draw_below {b : List Int} (hb : Bs b) (i h n : Int) (hi : 0 ≤ i) : ∃ x i' h' : Int, spec_l1Below.f b i h n = some (x, i', h') ∧ 0 ≤ x ∧ (0 < n → x < n) ∧ (n ≤ 0 → x = 0) ∧ 0 ≤ i' := by
  unfold spec_l1Below.f
  by_cases c0 : n ≤ 0
  · rw [if_pos c0]
    exact ⟨_, _, _, rfl, by omega, fun h => by omega, fun _ => rfl, hi⟩
  · rw [if_neg c0]
    obtain ⟨x, i1, h1, e1, x0, x1, j1⟩ := draw_byte hb i h hi
    by_cases c1 : n ≤ 256
    · rw [if_pos c1, e1]
      simp only [Option.bind_some]
      rw [if_neg (by omega)]
      have := tmod_in x0 (show 0 < n by omega)
      exact ⟨_, _, _, rfl, this.1, fun _ => this.2, fun h => by omega, j1⟩
    · obtain ⟨y, i2, h2, e2, y0, y1, j2⟩ := draw_byte hb i1 h1 j1
      obtain ⟨z, i3, h3, e3, z0, z1, j3⟩ := draw_byte hb i2 h2 j2
      obtain ⟨w, i4, h4, e4, v0, v1, j4⟩ := draw_byte hb i3 h3 j3
      rw [if_neg c1, e1]
      simp only [Option.bind_some]
      rw [e2]
      simp only [Option.bind_some]
      rw [e3]
      simp only [Option.bind_some]
      rw [e4]
      simp only [Option.bind_some]
      rw [if_neg (by omega)]
      have hs : 0 ≤ wrap64 ((wrap64 ((wrap64 ((wrap64 (x * 16777216)) + (wrap64 (y * 65536)))) + (wrap64 (z * 256)))) + w) := by
        rw [w64 (n := x * 16777216) (by omega) (by omega), w64 (n := y * 65536) (by omega) (by omega), w64 (n := z * 256) (by omega) (by omega), w64 (n := x * 16777216 + y * 65536) (by omega) (by omega), w64 (n := x * 16777216 + y * 65536 + z * 256) (by omega) (by omega), w64 (by omega) (by omega)]
        omega
      have := tmod_in hs (show 0 < n by omega)
      exact ⟨_, _, _, rfl, this.1, fun _ => this.2, fun h => by omega, j4⟩
theorem draw_new {b : List Int} (hb : Bs b) : ∃ h : Int, Ev (fun k => spec_l1New.f k b) (b, 0, h) := by
  unfold Bs at hb
  have loop : ∀ (d i : Nat) (x : Int), i + d = b.length → ∃ h : Int, Ev (fun k => spec_l1New.l0 k b x (i : Int)) (b, 0, h) := by
    intro d
    induction d with
    | zero => intro i x hi; exact ⟨_, Ev.step (fun k => spec_l1New.l0.eq_2 _ _ _ k) (Ev.neg (by omega) (Ev.now _))⟩
    | succ d ih =>
      intro i x hi
      by_cases c : (i : Int) < 4000
      · have hw : wrap64 ((i : Int) + 1) = ((i + 1 : Nat) : Int) := by rw [w64 (by omega) (by omega)]; omega
        obtain ⟨h, e⟩ := ih (i + 1) (Go.bits .and .i64 (wrap64 ((wrap64 ((wrap64 (x * 131)) + (wrap64 (rd b (i : Int))))) + 7)) 1073741823) (by omega)
        refine ⟨h, Ev.step (fun k => spec_l1New.l0.eq_2 _ _ _ k) (Ev.pos (by omega) (Ev.pos c (Ev.pos (by omega) ?_)))⟩
        rw [hw]; exact e
      · exact ⟨_, Ev.step (fun k => spec_l1New.l0.eq_2 _ _ _ k) (Ev.pos (by omega) (Ev.neg c (Ev.now _)))⟩
  exact loop b.length 0 _ (by omega)

theorem draw_once {b : List Int} (hb : Bs b) (i h n : Int) (hi : 0 ≤ i) : ∃ (x : Bool) (i' h' : Int), spec_l1Once.f b i h n = some (x, i', h') ∧ 0 ≤ i' := by
  obtain ⟨x, i1, h1, e, _, _, _, j⟩ := draw_below hb i h n hi
  exact ⟨_, _, _, by unfold spec_l1Once.f; rw [e]; rfl, j⟩
theorem draw_pick {b : List Int} (hb : Bs b) (i h : Int) (l : List Int) (hl : 0 < l.length) (hi : 0 ≤ i) : ∃ x i' h' : Int, spec_l1PickInt.f b i h l = some (x, i', h') ∧ x ∈ l ∧ 0 ≤ i' := by
  obtain ⟨x, i1, h1, e, x0, x1, _, j⟩ := draw_below hb i h (l.length : Int) hi
  have hx := x1 (by omega)
  refine ⟨rd l x, i1, h1, ?_, ?_, j⟩
  · unfold spec_l1PickInt.f
    rw [e]
    simp only [Option.bind_some]
    rw [if_pos x0, if_pos hx]
  · unfold rd
    exact getD_mem (by omega)

theorem draw_num_l0 {b : List Int} (hb : Bs b) : ∀ (d : Nat) (n i h : Int) (t : Nat), 0 ≤ i → d + t ≤ 14 → 0 ≤ n → n < 10 ^ t → ∃ r i' h' : Int, Ev (fun k => spec_l1num.l0 k n ((d : Int)) b i h) (r, i', h') ∧ 0 ≤ i' ∧ 0 ≤ r ∧ r ≤ 1000000000000000
  | d, n, i, h, t, hi, hd, h0, h1 => by
    have p : (10 : Int) ^ t ≤ 10 ^ 14 := by
      have := Nat.pow_le_pow_right (show 0 < 10 by decide) (show t ≤ 14 by omega); exact_mod_cast this
    have e : (10 : Int) ^ 14 = 100000000000000 := by decide
    obtain ⟨x, i1, h1', e1, x0, x1, _, j1⟩ := draw_below hb i h 10 hi
    have x1 := x1 (by decide)
    have ew : wrap64 (wrap64 (n * 10) + x) = n * 10 + x := by rw [w64 (n := n * 10) (by omega) (by omega), w64 (by omega) (by omega)]
    match d, hd with
    | 0, hd =>
      refine ⟨n * 10 + x, i1, h1', ?_, j1, by omega, by omega⟩
      refine Ev.step (fun k => spec_l1num.l0.eq_2 _ _ _ _ _ k) (Ev.pos (by omega) (Ev.told e1 ?_))
      rw [ew]
      refine Ev.step (fun k => spec_l1num.l0.eq_2 _ _ _ _ _ k) (Ev.neg (by rw [w64 (by omega) (by omega)]; omega) (Ev.now _))
    | d + 1, hd =>
      have q : (10 : Int) ^ (t + 1) = 10 ^ t * 10 := Int.pow_succ ..
      obtain ⟨r, i2, h2, e2, j2, r0, r1⟩ := draw_num_l0 hb d (n * 10 + x) i1 h1' (t + 1) j1 (by omega) (by omega) (by omega)
      refine ⟨r, i2, h2, ?_, j2, r0, r1⟩
      refine Ev.step (fun k => spec_l1num.l0.eq_2 _ _ _ _ _ k) (Ev.pos (by omega) (Ev.told e1 ?_))
      rw [ew, show wrap64 (((d + 1 : Nat) : Int) - 1) = (d : Int) by rw [w64 (by omega) (by omega)]; omega]
      exact e2
theorem draw_num {b : List Int} (hb : Bs b) (i h : Int) (hi : 0 ≤ i) : ∃ r i' h' : Int, Ev (fun k => spec_l1num.f k b i h) (r, i', h') ∧ 0 ≤ i' ∧ -1 ≤ r ∧ r ≤ 1000000000000000 := by
  obtain ⟨x, i1, h1, e1, x0, x1, _, j1⟩ := draw_below hb i h 6 hi
  unfold spec_l1num.f
  by_cases c : x = 0
  · obtain ⟨y, i2, h2, e2, y0, y1, _, j2⟩ := draw_below hb i1 h1 12 j1
    have := y1 (by decide)
    exact ⟨y, i2, h2, Ev.told e1 (Ev.pos c (Ev.told e2 (Ev.now _))), j2, by omega, by omega⟩
  · by_cases c1 : x = 1
    · obtain ⟨y, i2, h2, e2, hm, j2⟩ := draw_pick hb i1 h1 [0, 9, 10, 99, 100, 999999999999999, 1000000000000000, (-1), 268435455, 268435456, 15, 16, 255, 256] (by decide) j1
      have hp : -1 ≤ y ∧ y ≤ 1000000000000000 := by
        simp only [List.mem_cons, List.not_mem_nil, or_false] at hm
        omega
      exact ⟨y, i2, h2, Ev.told e1 (Ev.neg c (Ev.pos c1 (Ev.told e2 (Ev.now _)))), j2, hp.1, hp.2⟩
    · obtain ⟨y, i2, h2, e2, y0, y1, _, j2⟩ := draw_below hb i1 h1 15 j1
      have := y1 (by decide)
      obtain ⟨m, rfl⟩ := Int.eq_ofNat_of_zero_le y0
      obtain ⟨r, i3, h3, e3, j3, r0, r1⟩ := draw_num_l0 hb m 0 i2 h2 0 j2 (by omega) (by omega) (by decide)
      exact ⟨r, i3, h3, Ev.told e1 (Ev.neg c (Ev.neg c1 (Ev.told e2 e3))), j3, by omega, r1⟩

theorem draw_hex {b : List Int} (hb : Bs b) : ∃ n : Int, Ev (fun k => spec_DrawHexText.f k b) n := by
  obtain ⟨h0, e0⟩ := draw_new hb
  obtain ⟨o, i1, h1, e1, j1⟩ := draw_once hb 0 h0 2 (by omega)
  unfold spec_DrawHexText.f
  cases o with
  | true =>
    obtain ⟨r, i2, h2, e2, _⟩ := draw_num hb i1 h1 j1
    exact ⟨r, Ev.bind e0 (Ev.told e1 (Ev.pos rfl (Ev.bind e2 (Ev.now _))))⟩
  | false =>
    obtain ⟨r, i2, h2, e2, _⟩ := draw_below hb i1 h1 268435457 j1
    exact ⟨r, Ev.bind e0 (Ev.told e1 (Ev.neg (by simp) (Ev.told e2 (Ev.now _))))⟩

/-! Hexadecimal digits -/
def hexv (x : Int) : Int := if 48 ≤ x ∧ x ≤ 57 then x - 48 else if 97 ≤ x ∧ x ≤ 102 then x - 87 else if 65 ≤ x ∧ x ≤ 70 then x - 55 else -1
def hexread : List Int → Int → Option Int
  | [], n => some n
  | x :: l, n => if hexv x < 0 then none else hexread l (16 * n + hexv x)
def resI (o : Option Int) : Int × Bool := match o with | none => (0, false) | some n => (n, true)
theorem hexv_lt (x : Int) : hexv x < 16 := by unfold hexv; split <;> (try split) <;> (try split) <;> omega
theorem pow16 (i : Nat) (h : i ≤ 6) : (16 : Int) ^ (i + 1) = 16 * 16 ^ i ∧ (16 : Int) ^ i ≤ 16777216 ∧ (0 : Int) < 16 ^ i := by
  have h1 : 16 ^ i ≤ 16777216 := Nat.pow_le_pow_right (n := 16) (by decide) h
  have h2 := Nat.pow_pos (n := i) (show 0 < 16 by decide)
  have e : (16 : Int) ^ i = ((16 ^ i : Nat) : Int) := (Int.natCast_pow 16 i).symm
  rw [Int.pow_succ, e]
  generalize 16 ^ i = p at *
  omega

theorem impl_hexOf_ev (x : Int) (h0 : 0 ≤ x) (h1 : x ≤ 255) : Ev (fun k => impl_hexOf.f k x) (hexv x) := by
  unfold impl_hexOf.f impl_isDigit.f hexv
  by_cases a : 48 ≤ x ∧ x ≤ 57
  · rw [if_pos a, if_pos (by omega), decide_eq_true a.2]
    refine Ev.told rfl (Ev.pos rfl ?_)
    rw [show (x - 48) % 256 = x - 48 by omega]; exact Ev.now _
  · rw [if_neg a]
    have hd : (if x ≥ 48 then some (decide (x ≤ 57)) else some false) = some false := by
      by_cases b : x ≥ 48
      · rw [if_pos b, decide_eq_false (by omega)]
      · rw [if_neg b]
    rw [hd]
    refine Ev.told rfl (Ev.neg (by simp) ?_)
    by_cases b : 97 ≤ x ∧ x ≤ 102
    · rw [if_pos b]
      refine Ev.pos (by omega) ?_
      rw [decide_eq_true b.2]
      refine Ev.step (fun k => impl_hexOf.j0.eq_2 _ _ k) (Ev.pos rfl ?_)
      rw [show (x - 97) % 256 + 10 = x - 87 by omega]; exact Ev.now _
    · rw [if_neg b]
      have hj : Ev (fun k => impl_hexOf.j0 k x false) (if 65 ≤ x ∧ x ≤ 70 then x - 55 else -1) := by
        refine Ev.step (fun k => impl_hexOf.j0.eq_2 _ _ k) (Ev.neg (by simp) ?_)
        by_cases c : 65 ≤ x ∧ x ≤ 70
        · rw [if_pos c]
          refine Ev.pos (by omega) (Ev.pos (by omega) ?_)
          rw [show (x - 65) % 256 + 10 = x - 55 by omega]; exact Ev.now _
        · rw [if_neg c]
          by_cases e : x ≥ 65
          · exact Ev.pos e (Ev.neg (by omega) (Ev.now _))
          · exact Ev.neg e (Ev.now _)
      by_cases e : x ≥ 97
      · refine Ev.pos e ?_
        rw [decide_eq_false (by omega)]; exact hj
      · exact Ev.neg e hj
theorem impl_hex_l0 (s : ByteArray) (hs : s.size ≤ 7) : ∀ (d i : Nat) (n : Int), i + d = s.size → 0 ≤ n → n < 16 ^ i →
    Ev (fun k => impl_ReadHex.l0 k s n (i : Int)) (resI (hexread ((bytesOf s).drop i) n)) := by
  intro d
  induction d with
  | zero =>
    intro i n h h0 h1
    refine Ev.step (fun k => impl_ReadHex.l0.eq_2 _ _ _ k) (Ev.neg (by omega) ?_)
    rw [List.drop_eq_nil_of_le (by rw [bytesOf_length]; omega)]
    exact Ev.now _
  | succ d ih =>
    intro i n h h0 h1
    obtain ⟨p1, p2, p3⟩ := pow16 i (by omega)
    have hbt := bt_range s (i : Int)
    have hw : wrap64 ((i : Int) + 1) = ((i + 1 : Nat) : Int) := by rw [w64 (by omega) (by omega)]; omega
    have hv := hexv_lt (bt s (i : Int))
    refine Ev.step (fun k => impl_ReadHex.l0.eq_2 _ _ _ k) (Ev.pos (by omega) (Ev.pos (by omega) (Ev.bind (impl_hexOf_ev _ hbt.1 hbt.2) ?_)))
    rw [drop_cons (by rw [bytesOf_length]; omega), ← bt_nat]
    simp only [hexread]
    by_cases hn : hexv (bt s (i : Int)) < 0
    · rw [if_pos hn]; exact Ev.pos hn (Ev.now _)
    · rw [if_neg hn]
      refine Ev.neg hn ?_
      rw [hw, w64 (n := 16 * n) (by omega) (by omega), w64 (by omega) (by omega)]
      exact ih (i + 1) _ (by omega) (by omega) (by omega)
theorem impl_readhex (s : ByteArray) (hb : s.size ≤ 140737488351232) : Ev (fun k => impl_ReadHex.f k s) (if 1 ≤ s.size ∧ s.size ≤ 7 then resI (hexread (bytesOf s) 0) else (0, false)) := by
  unfold impl_ReadHex.f impl_within.f
  by_cases h1 : 1 ≤ s.size
  · rw [if_pos (show (1 : Int) ≤ (s.size : Int) by omega)]
    by_cases h7 : s.size ≤ 7
    · rw [if_pos ⟨h1, h7⟩, decide_eq_true (by omega)]
      refine Ev.told rfl (Ev.pos rfl ?_)
      have := impl_hex_l0 s h7 s.size 0 0 (by omega) (by omega) (by decide)
      simpa using this
    · rw [if_neg (by omega), decide_eq_false (by omega)]
      exact Ev.told rfl (Ev.neg (by simp) (Ev.now _))
  · rw [if_neg (show ¬ (1 : Int) ≤ (s.size : Int) by omega), if_neg (by omega)]
    exact Ev.told rfl (Ev.neg (by simp) (Ev.now _))

/-! A number's digits in sixteens, and the number back -/
open Foreign (hexD hexs hexD_bd hexs_small hexs_big hexT)
theorem hexs_len : ∀ (f u : Nat), u < 16 ^ (f + 1) → 1 ≤ (hexs u).length ∧ (hexs u).length ≤ f + 1
  | 0, u, h => by rw [hexs_small (by simpa using h)]; simp
  | f + 1, u, h => by
    by_cases c : u < 16
    · rw [hexs_small c]; simp
    · have p : 16 ^ (f + 1 + 1) = 16 ^ (f + 1) * 16 := Nat.pow_succ ..
      have := hexs_len f (u / 16) (by omega)
      rw [hexs_big c, List.length_append]; simp only [List.length_cons, List.length_nil]; omega
theorem hexs_bd : ∀ (f u : Nat), u < 16 ^ (f + 1) → ∀ x ∈ hexs u, 0 ≤ x ∧ x < 256
  | 0, u, h => by
    have h : u < 16 := by simpa using h
    rw [hexs_small h]
    intro x hx
    have := hexD_bd (d := (u : Int)) (by omega) (by omega)
    simp only [List.mem_singleton] at hx; omega
  | f + 1, u, h => by
    by_cases c : u < 16
    · rw [hexs_small c]
      intro x hx
      have := hexD_bd (d := (u : Int)) (by omega) (by omega)
      simp only [List.mem_singleton] at hx; omega
    · have p : 16 ^ (f + 1 + 1) = 16 ^ (f + 1) * 16 := Nat.pow_succ ..
      rw [hexs_big c]
      intro x hx
      rcases List.mem_append.mp hx with h1 | h1
      · exact hexs_bd f (u / 16) (by omega) x h1
      · have := hexD_bd (d := ((u % 16 : Nat) : Int)) (by omega) (by omega)
        simp only [List.mem_singleton] at h1; omega

theorem hexread_append : ∀ (l m : List Int) (n : Int), hexread (l ++ m) n = (hexread l n).bind (hexread m)
  | [], m, n => rfl
  | x :: l, m, n => by
    simp only [List.cons_append, hexread]
    by_cases c : hexv x < 0
    · rw [if_pos c, if_pos c]; rfl
    · rw [if_neg c, if_neg c]; exact hexread_append l m _
theorem hexv_hexD {d : Int} (h0 : 0 ≤ d) (h1 : d < 16) : hexv (hexD d) = d := by
  unfold hexv hexD
  by_cases c : d < 10
  · rw [if_pos c, if_pos (by omega)]; omega
  · rw [if_neg c, if_neg (by omega), if_pos (by omega)]; omega
theorem hexread_hexs : ∀ (f u : Nat), u < 16 ^ (f + 1) → hexread (hexs u) 0 = some (u : Int)
  | 0, u, h => by
    have h : u < 16 := by simpa using h
    rw [hexs_small h]
    simp only [hexread]
    rw [hexv_hexD (by omega) (by omega), if_neg (by omega)]
    simp
  | f + 1, u, h => by
    by_cases c : u < 16
    · rw [hexs_small c]
      simp only [hexread]
      rw [hexv_hexD (by omega) (by omega), if_neg (by omega)]
      simp
    · have p : 16 ^ (f + 1 + 1) = 16 ^ (f + 1) * 16 := Nat.pow_succ ..
      rw [hexs_big c, hexread_append, hexread_hexs f (u / 16) (by omega)]
      simp only [Option.bind_some, hexread]
      rw [hexv_hexD (by omega) (by omega), if_neg (by omega)]
      congr 1; omega

theorem FnHexes : laws_FnHexes.Pure := by
  intro b hl hb hw
  apply Ev.rounds
  obtain ⟨n, e⟩ := draw_hex (b := b) (by unfold Bs; omega)
  have hwd : Foreign.laws_words.f = some true := rfl
  have ht : Foreign.impl_HexText.f n = some (hexT n) := rfl
  unfold laws_FnHexes.f
  refine Ev.bind e (Ev.told ht ?_)
  by_cases h : 0 ≤ n ∧ n ≤ 268435455
  · obtain ⟨u, rfl⟩ := Int.eq_ofNat_of_zero_le h.1
    have hu : u < 16 ^ (6 + 1) := by have : (16 : Nat) ^ (6 + 1) = 268435456 := by decide
                                     omega
    have ee : hexT (u : Int) = strOfNums (hexs u) := by unfold hexT; rw [if_pos h]; rfl
    have hz := hexs_len 6 u hu
    have hbd := hexs_bd 6 u hu
    rw [ee]
    have hr := impl_readhex (strOfNums (hexs u)) (by rw [size_strOf]; omega)
    rw [if_pos (by rw [size_strOf]; omega), bytes_strOf hbd, hexread_hexs 6 u hu] at hr
    refine Ev.bind hr (Ev.pos (by omega) ?_)
    rw [decide_eq_true h.2]
    refine Ev.step (fun k => laws_FnHexes.j0.eq_2 _ _ _ _ _ k) (Ev.neg (by simp [resI]) (Ev.pos rfl ?_))
    show Ev (fun k => laws_FnHexes.j1 k (u : Int) (strOfNums (hexs u)) true ((u : Int) != (u : Int))) true
    rw [bne_self_eq_false]
    refine Ev.step (fun k => laws_FnHexes.j1.eq_2 _ _ _ _ k) (Ev.neg (by simp) (Ev.pos rfl ?_))
    rw [size_strOf]
    by_cases h7 : (hexs u).length < 7
    · rw [decide_eq_true (by omega)]
      have hr0 := impl_readhex ((⟨#[48]⟩ : ByteArray) ++ strOfNums (hexs u)) (by rw [ByteArray.size_append, size_strOf]; show 1 + _ ≤ _; omega)
      rw [if_pos (by rw [ByteArray.size_append, size_strOf]; show 1 ≤ 1 + _ ∧ 1 + _ ≤ 7; omega), bytes_append, bytes_strOf hbd] at hr0
      have h48 : hexread (bytesOf (⟨#[48]⟩ : ByteArray) ++ hexs u) 0 = some (u : Int) := by
        show hexread (48 :: hexs u) 0 = _
        rw [hexread, if_neg (by decide)]
        exact hexread_hexs 6 u hu
      rw [h48] at hr0
      refine Ev.step (fun k => laws_FnHexes.j2.eq_2 _ _ _ k) (Ev.pos rfl (Ev.pos (by rw [size_strOf]; omega) ?_))
      exact Ev.bind hr0 (Ev.pos rfl (Ev.pos rfl (Ev.told hwd (Ev.now _))))
    · rw [decide_eq_false (by omega)]
      exact Ev.step (fun k => laws_FnHexes.j2.eq_2 _ _ _ k) (Ev.neg (by simp) (Ev.told hwd (Ev.now _)))
  · have ee : hexT n = ⟨#[]⟩ := by unfold hexT; rw [if_neg h]
    rw [ee]
    have hr := impl_readhex (⟨#[]⟩ : ByteArray) (by decide)
    rw [if_neg (by decide)] at hr
    have hj : Ev (fun k => laws_FnHexes.j0 k n (⟨#[]⟩ : ByteArray) 0 false false) true := by
      refine Ev.step (fun k => laws_FnHexes.j0.eq_2 _ _ _ _ _ k) (Ev.neg (by simp) (Ev.neg (by simp) ?_))
      refine Ev.step (fun k => laws_FnHexes.j1.eq_2 _ _ _ _ k) (Ev.neg (by simp) (Ev.neg (by simp) ?_))
      exact Ev.step (fun k => laws_FnHexes.j2.eq_2 _ _ _ k) (Ev.neg (by simp) (Ev.told hwd (Ev.now _)))
    refine Ev.bind hr ?_
    by_cases c : n ≥ 0
    · refine Ev.pos c ?_
      rw [decide_eq_false (by omega)]; exact hj
    · exact Ev.neg c hj

end Go.Proofs.YtikeagkcekkioaaDoor.Pure
