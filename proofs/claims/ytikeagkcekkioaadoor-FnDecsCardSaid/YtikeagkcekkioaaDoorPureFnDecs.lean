/- The law FnDecs answers true for every code: a number comes back from its digits, and digits from the number. No condition. -/
import Derived.Test.YtikeagkcekkioaaDoorQFnDecsx2
import Derived.Test.YtikeagkcekkioaaDoorBase
namespace Go.Proofs.YtikeagkcekkioaaDoor.Pure
open Go.RowKit Go.Proofs.YtikeagkcekkioaaDoor.PFnDecs Go.Proofs.YtikeagkcekkioaaDoorW.PrintWords Go.Proofs.YtikeagkcekkioaaDoorW.PrintLast Go.Proofs.YtikeagkcekkioaaDoorW.PrintMore Go.Proofs.YtikeagkcekkioaaDoor.Base
set_option linter.unusedVariables false
set_option linter.unusedSimpArgs false

/-! The reader of draws -/
def Bs (b : List Int) : Prop := b.length ≤ 140737488351240
theorem and255 (y : Int) : 0 ≤ Go.bits .and .i64 y 255 ∧ Go.bits .and .i64 y 255 ≤ 255 := by
  have h : (BitVec.ofInt 64 y &&& BitVec.ofInt 64 255).toNat ≤ 255 := by
    rw [BitVec.toNat_and]
    exact Nat.and_le_right
  show 0 ≤ IntKind.i64.wrap ((BitVec.ofInt 64 y &&& BitVec.ofInt 64 255).toNat : Int) ∧ IntKind.i64.wrap ((BitVec.ofInt 64 y &&& BitVec.ofInt 64 255).toNat : Int) ≤ 255
  rw [wraps_i64 _ (Int.natCast_nonneg _) (by omega)]
  omega
theorem draw_byte {b : List Int} (hb : Bs b) (i h : Int) (hi : 0 ≤ i) : ∃ x i' h' : Int, spec_l1Byte.f b i h = some (x, i', h') ∧ 0 ≤ x ∧ x ≤ 255 ∧ 0 ≤ i' := by
  unfold Bs at hb
  unfold spec_l1Byte.f
  by_cases c : i < (b.length : Int)
  · rw [if_pos c, if_pos hi]
    exact ⟨_, _, _, rfl, (and255 _).1, (and255 _).2, by rw [w64 (by omega) (by omega)]; omega⟩
  · rw [if_neg c]
    exact ⟨_, _, _, rfl, (and255 _).1, (and255 _).2, hi⟩
theorem tmod_in {x n : Int} (hx : 0 ≤ x) (hn : 0 < n) : 0 ≤ Int.tmod x n ∧ Int.tmod x n < n := by
  rw [Int.tmod_eq_emod_of_nonneg hx]
  exact ⟨Int.emod_nonneg _ (by omega), Int.emod_lt_of_pos _ hn⟩
theorem draw_below {b : List Int} (hb : Bs b) (i h n : Int) (hi : 0 ≤ i) : ∃ x i' h' : Int, spec_l1Below.f b i h n = some (x, i', h') ∧ 0 ≤ x ∧ (0 < n → x < n) ∧ (n ≤ 0 → x = 0) ∧ 0 ≤ i' := by
  unfold spec_l1Below.f
  by_cases c0 : n ≤ 0
  · rw [if_pos c0]
    exact ⟨_, _, _, rfl, by omega, fun h => by omega, fun _ => rfl, hi⟩
  · rw [if_neg c0]
    obtain ⟨x, i1, h1, e1, x0, x1, j1⟩ := draw_byte hb i h hi
    by_cases c1 : n ≤ 256
    · rw [if_pos c1, e1]
      simp only [Option.bind_some]
      rw [if_neg (by omega)]
      have := tmod_in x0 (show 0 < n by omega)
      exact ⟨_, _, _, rfl, this.1, fun _ => this.2, fun h => by omega, j1⟩
    · obtain ⟨y, i2, h2, e2, y0, y1, j2⟩ := draw_byte hb i1 h1 j1
      obtain ⟨z, i3, h3, e3, z0, z1, j3⟩ := draw_byte hb i2 h2 j2
      obtain ⟨w, i4, h4, e4, v0, v1, j4⟩ := draw_byte hb i3 h3 j3
      rw [if_neg c1, e1]
      simp only [Option.bind_some]
      rw [e2]
      simp only [Option.bind_some]
      rw [e3]
      simp only [Option.bind_some]
      rw [e4]
      simp only [Option.bind_some]
      rw [if_neg (by omega)]
      have hs : 0 ≤ wrap64 ((wrap64 ((wrap64 ((wrap64 (x * 16777216)) + (wrap64 (y * 65536)))) + (wrap64 (z * 256)))) + w) := by
        rw [w64 (n := x * 16777216) (by omega) (by omega), w64 (n := y * 65536) (by omega) (by omega), w64 (n := z * 256) (by omega) (by omega), w64 (n := x * 16777216 + y * 65536) (by omega) (by omega), w64 (n := x * 16777216 + y * 65536 + z * 256) (by omega) (by omega), w64 (by omega) (by omega)]
        omega
      have := tmod_in hs (show 0 < n by omega)
      exact ⟨_, _, _, rfl, this.1, fun _ => this.2, fun h => by omega, j4⟩
theorem draw_new {b : List Int} (hb : Bs b) : ∃ h : Int, Ev (fun k => spec_l1New.f k b) (b, 0, h) := by
  unfold Bs at hb
  have loop : ∀ (d i : Nat) (x : Int), i + d = b.length → ∃ h : Int, Ev (fun k => spec_l1New.l0 k b x (i : Int)) (b, 0, h) := by
    intro d
    induction d with
    | zero => intro i x hi; exact ⟨_, Ev.step (fun k => spec_l1New.l0.eq_2 _ _ _ k) (Ev.neg (by omega) (Ev.now _))⟩
    | succ d ih =>
      intro i x hi
      by_cases c : (i : Int) < 4000
      · have hw : wrap64 ((i : Int) + 1) = ((i + 1 : Nat) : Int) := by rw [w64 (by omega) (by omega)]; omega
        obtain ⟨h, e⟩ := ih (i + 1) (Go.bits .and .i64 (wrap64 ((wrap64 ((wrap64 (x * 131)) + (wrap64 (rd b (i : Int))))) + 7)) 1073741823) (by omega)
        refine ⟨h, Ev.step (fun k => spec_l1New.l0.eq_2 _ _ _ k) (Ev.pos (by omega) (Ev.pos c (Ev.pos (by omega) ?_)))⟩
        rw [hw]; exact e
      · exact ⟨_, Ev.step (fun k => spec_l1New.l0.eq_2 _ _ _ k) (Ev.pos (by omega) (Ev.neg c (Ev.now _)))⟩
  exact loop b.length 0 _ (by omega)

theorem draw_once {b : List Int} (hb : Bs b) (i h n : Int) (hi : 0 ≤ i) : ∃ (x : Bool) (i' h' : Int), spec_l1Once.f b i h n = some (x, i', h') ∧ 0 ≤ i' := by
  obtain ⟨x, i1, h1, e, _, _, _, j⟩ := draw_below hb i h n hi
  exact ⟨_, _, _, by unfold spec_l1Once.f; rw [e]; rfl, j⟩
theorem draw_pick {b : List Int} (hb : Bs b) (i h : Int) (l : List Int) (hl : 0 < l.length) (hi : 0 ≤ i) : ∃ x i' h' : Int, spec_l1PickInt.f b i h l = some (x, i', h') ∧ x ∈ l ∧ 0 ≤ i' := by
  obtain ⟨x, i1, h1, e, x0, x1, _, j⟩ := draw_below hb i h (l.length : Int) hi
  have hx := x1 (by omega)
  refine ⟨rd l x, i1, h1, ?_, ?_, j⟩
  · unfold spec_l1PickInt.f
    rw [e]
    simp only [Option.bind_some]
    rw [if_pos x0, if_pos hx]
  · unfold rd
    exact getD_mem (by omega)

theorem draw_num_l0 {b : List Int} (hb : Bs b) : ∀ (d : Nat) (n i h : Int) (t : Nat), 0 ≤ i → d + t ≤ 14 → 0 ≤ n → n < 10 ^ t → ∃ r i' h' : Int, Ev (fun k => spec_l1num.l0 k n ((d : Int)) b i h) (r, i', h') ∧ 0 ≤ i' ∧ 0 ≤ r ∧ r ≤ 1000000000000000
  | d, n, i, h, t, hi, hd, h0, h1 => by
    have p : (10 : Int) ^ t ≤ 10 ^ 14 := by
      have := Nat.pow_le_pow_right (show 0 < 10 by decide) (show t ≤ 14 by omega); exact_mod_cast this
    have e : (10 : Int) ^ 14 = 100000000000000 := by decide
    obtain ⟨x, i1, h1', e1, x0, x1, _, j1⟩ := draw_below hb i h 10 hi
    have x1 := x1 (by decide)
    have ew : wrap64 (wrap64 (n * 10) + x) = n * 10 + x := by rw [w64 (n := n * 10) (by omega) (by omega), w64 (by omega) (by omega)]
    match d, hd with
    | 0, hd =>
      refine ⟨n * 10 + x, i1, h1', ?_, j1, by omega, by omega⟩
      refine Ev.step (fun k => spec_l1num.l0.eq_2 _ _ _ _ _ k) (Ev.pos (by omega) (Ev.told e1 ?_))
      rw [ew]
      refine Ev.step (fun k => spec_l1num.l0.eq_2 _ _ _ _ _ k) (Ev.neg (by rw [w64 (by omega) (by omega)]; omega) (Ev.now _))
    | d + 1, hd =>
      have q : (10 : Int) ^ (t + 1) = 10 ^ t * 10 := Int.pow_succ ..
      obtain ⟨r, i2, h2, e2, j2, r0, r1⟩ := draw_num_l0 hb d (n * 10 + x) i1 h1' (t + 1) j1 (by omega) (by omega) (by omega)
      refine ⟨r, i2, h2, ?_, j2, r0, r1⟩
      refine Ev.step (fun k => spec_l1num.l0.eq_2 _ _ _ _ _ k) (Ev.pos (by omega) (Ev.told e1 ?_))
      rw [ew, show wrap64 (((d + 1 : Nat) : Int) - 1) = (d : Int) by rw [w64 (by omega) (by omega)]; omega]
      exact e2
theorem draw_num {b : List Int} (hb : Bs b) (i h : Int) (hi : 0 ≤ i) : ∃ r i' h' : Int, Ev (fun k => spec_l1num.f k b i h) (r, i', h') ∧ 0 ≤ i' ∧ -1 ≤ r ∧ r ≤ 1000000000000000 := by
  obtain ⟨x, i1, h1, e1, x0, x1, _, j1⟩ := draw_below hb i h 6 hi
  unfold spec_l1num.f
  by_cases c : x = 0
  · obtain ⟨y, i2, h2, e2, y0, y1, _, j2⟩ := draw_below hb i1 h1 12 j1
    have := y1 (by decide)
    exact ⟨y, i2, h2, Ev.told e1 (Ev.pos c (Ev.told e2 (Ev.now _))), j2, by omega, by omega⟩
  · by_cases c1 : x = 1
    · obtain ⟨y, i2, h2, e2, hm, j2⟩ := draw_pick hb i1 h1 [0, 9, 10, 99, 100, 999999999999999, 1000000000000000, (-1), 268435455, 268435456, 15, 16, 255, 256] (by decide) j1
      have hp : -1 ≤ y ∧ y ≤ 1000000000000000 := by
        simp only [List.mem_cons, List.not_mem_nil, or_false] at hm
        omega
      exact ⟨y, i2, h2, Ev.told e1 (Ev.neg c (Ev.pos c1 (Ev.told e2 (Ev.now _)))), j2, hp.1, hp.2⟩
    · obtain ⟨y, i2, h2, e2, y0, y1, _, j2⟩ := draw_below hb i1 h1 15 j1
      have := y1 (by decide)
      obtain ⟨m, rfl⟩ := Int.eq_ofNat_of_zero_le y0
      obtain ⟨r, i3, h3, e3, j3, r0, r1⟩ := draw_num_l0 hb m 0 i2 h2 0 j2 (by omega) (by omega) (by decide)
      exact ⟨r, i3, h3, Ev.told e1 (Ev.neg c (Ev.neg c1 (Ev.told e2 e3))), j3, by omega, r1⟩

theorem draw_bend {b : List Int} (hb : Bs b) (i h : Int) (s : ByteArray) (hs : s.size ≤ 140737488351232) (hi : 0 ≤ i) : ∃ (r : ByteArray) (i' h' : Int), spec_l1bend.f b i h s = some (r, i', h') ∧ r.size ≤ s.size + 1 ∧ 0 ≤ i' := by
  obtain ⟨p, i1, h1, e1, p0, p1, _, j1⟩ := draw_below hb i h ((s.size : Int) + 1) hi
  have p1 := p1 (by omega)
  obtain ⟨q, i2, h2, e2, q0, q1, _, j2⟩ := draw_below hb i1 h1 4 j1
  unfold spec_l1bend.f
  rw [if_pos hs, e1, Option.bind_some]
  show ∃ (r : ByteArray) (i' h' : Int), (if 0 ≤ p ∧ p ≤ s.size then _ else _) = some (r, i', h') ∧ _
  rw [if_pos ⟨p0, by omega⟩, e2, Option.bind_some]
  obtain ⟨n, rfl⟩ := Int.eq_ofNat_of_zero_le p0
  show ∃ (r : ByteArray) (i' h' : Int), (if q = 0 then _ else _) = some (r, i', h') ∧ _
  have z1 : (s.extract 0 n).size ≤ n := by rw [ByteArray.size_extract]; omega
  have z2 : (s.extract n s.size).size ≤ s.size - n := by rw [ByteArray.size_extract]; omega
  have z3 : (s.extract (n + 1) s.size).size ≤ s.size - (n + 1) := by rw [ByteArray.size_extract]; omega
  by_cases c0 : q = 0
  · rw [if_pos c0]
    obtain ⟨x, i3, h3, e3, x0, x1, j3⟩ := draw_byte hb i2 h2 j2
    rw [e3, Option.bind_some]
    refine ⟨_, _, _, rfl, ?_, j3⟩
    rw [ByteArray.size_append, ByteArray.size_append, size_strOf]
    simp only [List.length_cons, List.length_nil, Int.toNat_natCast]
    omega
  · rw [if_neg c0]
    by_cases c1 : q = 1
    · rw [if_pos c1]
      exact ⟨_, _, _, rfl, by simp only [Int.toNat_natCast]; omega, j2⟩
    · rw [if_neg c1]
      by_cases c2 : q = 2 ∧ (n : Int) < s.size
      · rw [if_pos c2]
        exact ⟨_, _, _, rfl, by rw [ByteArray.size_append]; simp only [Int.toNat_natCast]; omega, j2⟩
      · rw [if_neg c2]
        by_cases c3 : (n : Int) < s.size
        · rw [if_pos c3]
          obtain ⟨x, i3, h3, e3, x0, x1, _, j3⟩ := draw_below hb i2 h2 8 j2
          have x1 := x1 (by decide)
          rw [e3, Option.bind_some]
          show ∃ (r : ByteArray) (i' h' : Int), (if 0 ≤ x ∧ x < 8 then _ else _) = some (r, i', h') ∧ _
          rw [if_pos ⟨x0, x1⟩]
          refine ⟨_, _, _, rfl, ?_, j3⟩
          rw [size_strOf, List.length_set, bytesOf_length]; omega
        · rw [if_neg c3]
          refine ⟨_, _, _, rfl, ?_, j2⟩
          rw [ByteArray.size_append]; exact Nat.le_refl _

/-! Numbers in decimal: the reference's DecText and the library's numeral -/
def decT (u : Nat) : ByteArray := ⟨(Lib.decDigits u).toArray⟩
theorem decT_small {u : Nat} (h : u < 10) : decT u = strOfNums [48 + (u : Int)] := by
  apply bytes_inj
  rw [bytes_strOf (by intro x hx; simp only [List.mem_singleton] at hx; omega)]
  unfold decT; rw [Lib.decDigits, dif_pos h]
  show [((UInt8.ofNat (48 + u)).toNat : Int)] = _
  rw [UInt8.toNat_ofNat']
  congr 1; omega
theorem decT_big {u : Nat} (h : ¬ u < 10) : decT u = decT (u / 10) ++ strOfNums [48 + ((u % 10 : Nat) : Int)] := by
  apply bytes_inj
  rw [bytes_append, bytes_strOf (by intro x hx; simp only [List.mem_singleton] at hx; omega)]
  have e : Lib.decDigits u = Lib.decDigits (u / 10) ++ [UInt8.ofNat (48 + u % 10)] := by rw [Lib.decDigits, dif_neg h]
  unfold decT; rw [e]
  show ((Lib.decDigits (u / 10) ++ [UInt8.ofNat (48 + u % 10)]).map fun b => (b.toNat : Int)) = (Lib.decDigits (u / 10)).map (fun b => (b.toNat : Int)) ++ _
  rw [List.map_append]
  congr 1
  show [((UInt8.ofNat (48 + u % 10)).toNat : Int)] = _
  rw [UInt8.toNat_ofNat']
  congr 1; omega
theorem decT_size : ∀ (f u : Nat), u < 10 ^ (f + 1) → (decT u).size ≤ f + 1
  | 0, u, h => by rw [decT_small (by simpa using h), size_strOf]; simp
  | f + 1, u, h => by
    by_cases c : u < 10
    · rw [decT_small c, size_strOf]; simp
    · have p : 10 ^ (f + 1 + 1) = 10 ^ (f + 1) * 10 := Nat.pow_succ ..
      have := decT_size f (u / 10) (by omega)
      rw [decT_big c, ByteArray.size_append, size_strOf]; simp only [List.length_cons, List.length_nil]; omega
theorem spec_decT : ∀ (f : Nat) (n : Int), 0 ≤ n → n ≤ 999999999999999 → n < 10 ^ (f + 1) → f ≤ 20 → Ev (fun k => spec_DecText.f k n) (decT n.toNat)
  | f, n, h0, h1, hf, hq => by
    refine Ev.step (fun k => spec_DecText.f.eq_2 n k) (Ev.neg (by omega) ?_)
    rw [show decide (n > 999999999999999) = false from decide_eq_false (by omega)]
    refine Ev.step (fun k => spec_DecText.j0.eq_2 n false k) (Ev.neg (by simp) ?_)
    by_cases c : n < 10
    · refine Ev.pos c ?_
      rw [w64 (by omega) (by omega), show (48 + n) % 256 = 48 + n by omega]
      rw [decT_small (by omega), show ((n.toNat : Nat) : Int) = n by omega]; exact Ev.now _
    · refine Ev.neg c ?_
      match f, hf, hq with
      | 0, hf, _ => have hf : n < 10 := by simpa using hf
                    exact absurd hf c
      | f + 1, hf, hq =>
        have p : (10 : Int) ^ (f + 1 + 1) = 10 ^ (f + 1) * 10 := Int.pow_succ ..
        have h2 : n / 10 < 10 ^ (f + 1) := by omega
        have ih := spec_decT f (n / 10) (by omega) (by omega) h2 (by omega)
        have e1 : wrap64 (Int.tdiv n 10) = n / 10 := by rw [Int.tdiv_eq_ediv_of_nonneg h0, w64 (by omega) (by omega)]
        have e2 : (wrap64 (48 + Int.tmod n 10)) % 256 = 48 + n % 10 := by rw [Int.tmod_eq_emod_of_nonneg h0, w64 (by omega) (by omega)]; omega
        have hz := decT_size f (n / 10).toNat (by
          have : (((n / 10).toNat : Nat) : Int) < ((10 ^ (f + 1) : Nat) : Int) := by
            rw [show (((n / 10).toNat : Nat) : Int) = n / 10 by omega]; push_cast; exact h2
          exact_mod_cast this)
        have eb := decT_big (u := n.toNat) (by omega)
        rw [show n.toNat / 10 = (n / 10).toNat by omega, show ((n.toNat % 10 : Nat) : Int) = n % 10 by omega] at eb
        rw [e1, e2]
        refine Ev.bind ih (Ev.told rfl (Ev.pos ?_ ?_))
        · rw [size_strOf]; simp only [List.length_cons, List.length_nil]; omega
        · rw [eb]; exact Ev.now _
theorem spec_decT_out {n : Int} (h : ¬ (0 ≤ n ∧ n ≤ 999999999999999)) : Ev (fun k => spec_DecText.f k n) (⟨#[]⟩ : ByteArray) := by
  refine Ev.step (fun k => spec_DecText.f.eq_2 n k) ?_
  by_cases c : n < 0
  · exact Ev.pos c (Ev.step (fun k => spec_DecText.j0.eq_2 n true k) (Ev.pos rfl (Ev.now _)))
  · refine Ev.neg c ?_
    rw [decide_eq_true (show n > 999999999999999 by omega)]
    exact Ev.step (fun k => spec_DecText.j0.eq_2 n true k) (Ev.pos rfl (Ev.now _))

/-! The program's DecText -/
theorem impl_decT {n : Int} (h : 0 ≤ n ∧ n ≤ 999999999999999) : impl_DecText.f n = some (decT n.toNat) := by
  unfold impl_DecText.f impl_within.f
  rw [if_pos h.1, Option.bind_some, decide_eq_true h.2, if_pos rfl]
  unfold Foreign.strconv_Itoa.f
  rw [if_pos (by omega), Option.bind_some]
  unfold decT Lib.itoa
  rw [if_neg (by omega)]
theorem impl_decT_out {n : Int} (h : ¬ (0 ≤ n ∧ n ≤ 999999999999999)) : impl_DecText.f n = some (⟨#[]⟩ : ByteArray) := by
  unfold impl_DecText.f impl_within.f
  by_cases c : 0 ≤ n
  · rw [if_pos c, Option.bind_some, decide_eq_false (by omega), if_neg (by simp)]
  · rw [if_neg c, Option.bind_some, if_neg (by simp)]

/-! Digits read back: the reference's loop and the library's Atoi -/
def decread : List Int → Int → Option Int
  | [], n => some n
  | x :: r, n => if 48 ≤ x ∧ x ≤ 57 then decread r (10 * n + (x - 48)) else none
theorem decread_parse : ∀ (l : List UInt8) (acc k : Nat) (v : Int), l.length + k ≤ 15 → acc < 10 ^ k → decread (l.map fun b => (b.toNat : Int)) (acc : Int) = some v → Lib.parseUint10 acc l = .ok v.toNat ∧ 0 ≤ v ∧ v < 10 ^ (l.length + k)
  | [], acc, k, v, _, ha, h => by
    obtain rfl := Option.some.inj h
    refine ⟨by show _ = Lib.NumEnd.ok _; rw [Int.toNat_natCast]; rfl, by omega, ?_⟩
    rw [show ([] : List UInt8).length + k = k by simp]
    exact_mod_cast ha
  | c :: r, acc, k, v, hl, ha, h => by
    simp only [List.map_cons, decread] at h
    simp only [List.length_cons] at hl
    split at h
    · rename_i hc
      have p : 10 ^ k ≤ 10 ^ 14 := Nat.pow_le_pow_right (by decide) (by omega)
      have e : (10 : Nat) ^ 14 = 100000000000000 := by decide
      have q : 10 ^ (k + 1) = 10 ^ k * 10 := Nat.pow_succ ..
      have hv : 10 * (acc : Int) + ((c.toNat : Int) - 48) = ((acc * 10 + (c.toNat - 48) : Nat) : Int) := by omega
      rw [hv] at h
      have ih := decread_parse r (acc * 10 + (c.toNat - 48)) (k + 1) v (by omega) (by omega) h
      simp only [Lib.parseUint10]
      rw [if_pos (by omega), if_neg (by omega), if_neg (by omega)]
      rw [show r.length + (k + 1) = (c :: r).length + k by simp only [List.length_cons]; omega] at ih
      exact ih
    · cases h
theorem atoi_decread {l : List UInt8} {v : Int} (h0 : l ≠ []) (hl : l.length ≤ 15) (h : decread (l.map fun b => (b.toNat : Int)) 0 = some v) : Lib.atoiAll l = .ok v ∧ 0 ≤ v ∧ v ≤ 999999999999999 := by
  obtain ⟨h1, h2, h3⟩ := decread_parse l 0 0 v (by omega) (by decide) h
  have p : (10 : Int) ^ (l.length + 0) ≤ 10 ^ 15 := by
    have := Nat.pow_le_pow_right (show 0 < 10 by decide) (show l.length + 0 ≤ 15 by omega); exact_mod_cast this
  have e : (10 : Int) ^ 15 = 1000000000000000 := by decide
  have h4 : v ≤ 999999999999999 := by omega
  clear h3 p e
  refine ⟨?_, h2, h4⟩
  cases l with
  | nil => exact absurd rfl h0
  | cons c r =>
    have hc : 48 ≤ (c.toNat : Int) ∧ (c.toNat : Int) ≤ 57 := by
      simp only [List.map_cons, decread] at h
      split at h
      · assumption
      · cases h
    rw [Lib.atoiAll_plain c r (by omega) (by omega)]
    unfold Lib.parseMag
    rw [if_neg (by simp), h1]
    simp only [Lib.signless]
    rw [if_neg (by omega)]
    congr 1; omega
theorem decread_digs : ∀ (l : List Int) (n : Int), (∀ x ∈ l, 48 ≤ x ∧ x ≤ 57) → ∃ v, decread l n = some v
  | [], n, _ => ⟨n, rfl⟩
  | x :: r, n, h => by
    rw [decread, if_pos (h x (by simp))]
    exact decread_digs r _ fun y hy => h y (by simp [hy])
theorem decT_digs : ∀ (f u : Nat), u < 10 ^ (f + 1) → ∀ x ∈ bytesOf (decT u), 48 ≤ x ∧ x ≤ 57
  | 0, u, h => by
    have h : u < 10 := by simpa using h
    rw [decT_small h, bytes_strOf (by intro x hx; simp only [List.mem_singleton] at hx; omega)]
    intro x hx; simp only [List.mem_singleton] at hx; omega
  | f + 1, u, h => by
    by_cases c : u < 10
    · rw [decT_small c, bytes_strOf (by intro x hx; simp only [List.mem_singleton] at hx; omega)]
      intro x hx; simp only [List.mem_singleton] at hx; omega
    · have p : 10 ^ (f + 1 + 1) = 10 ^ (f + 1) * 10 := Nat.pow_succ ..
      rw [decT_big c, bytes_append, bytes_strOf (by intro x hx; simp only [List.mem_singleton] at hx; omega)]
      intro x hx
      rcases List.mem_append.mp hx with h1 | h1
      · exact decT_digs f (u / 10) (by omega) x h1
      · simp only [List.mem_singleton] at h1; omega
theorem decT_pos (u : Nat) : 1 ≤ (decT u).size := by
  by_cases c : u < 10
  · rw [decT_small c, size_strOf]; simp
  · rw [decT_big c, ByteArray.size_append, size_strOf]; simp
def rd (s : ByteArray) : Int × Bool :=
  if 1 ≤ s.size ∧ s.size ≤ 15 then
    match decread (bytesOf s) 0 with
    | some n => if decT n.toNat = s then (n, true) else (0, false)
    | none => (0, false)
  else (0, false)
theorem readDec_rd (s : ByteArray) : Foreign.readDec s = rd s := by
  unfold rd
  have hle : s.data.toList.length = s.size := rfl
  have no : (∀ n, decread (bytesOf s) 0 = some n → ¬ (1 ≤ s.size ∧ s.size ≤ 15)) → Foreign.readDec s = (0, false) := by
    intro hn
    unfold Foreign.readDec
    split
    · rename_i v hv
      rw [if_neg]
      rintro ⟨⟨h0, h1⟩, h2⟩
      have h2 : decT v.toNat = s := h2
      have b : v.toNat < 10 ^ (14 + 1) := by have : (10 : Nat) ^ (14 + 1) = 1000000000000000 := by decide
                                             omega
      obtain ⟨n, en⟩ := decread_digs (bytesOf s) 0 (by rw [← h2]; exact decT_digs 14 _ b)
      exact hn n en ⟨by rw [← h2]; exact decT_pos _, by rw [← h2]; exact decT_size 14 _ b⟩
    · rfl
  by_cases hz : 1 ≤ s.size ∧ s.size ≤ 15
  · rw [if_pos hz]
    cases hd : decread (bytesOf s) 0 with
    | none => exact no (by intro n h; rw [hd] at h; cases h)
    | some n =>
      obtain ⟨h1, h2, h3⟩ := atoi_decread (l := s.data.toList) (v := n) (by intro e; rw [e] at hle; simp at hle; omega) (by omega) hd
      unfold Foreign.readDec
      rw [h1]
      show (if (0 ≤ n ∧ n ≤ 999999999999999) ∧ decT n.toNat = s then (n, true) else (0, false)) = _
      by_cases e : decT n.toNat = s
      · rw [if_pos ⟨⟨h2, h3⟩, e⟩]; exact (if_pos e).symm
      · rw [if_neg fun c => e c.2]; exact (if_neg e).symm
  · rw [if_neg hz]
    exact no fun _ _ => hz
theorem decread_bd : ∀ (l : List Int) (n v : Int) (k : Nat), l.length + k ≤ 15 → 0 ≤ n → n < 10 ^ k → decread l n = some v → 0 ≤ v ∧ v ≤ 999999999999999
  | [], n, v, k, hk, h0, h1, h => by
    obtain rfl := Option.some.inj h
    have p : (10 : Int) ^ k ≤ 10 ^ 15 := by
      have := Nat.pow_le_pow_right (show 0 < 10 by decide) (show k ≤ 15 by simpa using hk); exact_mod_cast this
    have e : (10 : Int) ^ 15 = 1000000000000000 := by decide
    omega
  | x :: r, n, v, k, hk, h0, h1, h => by
    simp only [decread] at h
    simp only [List.length_cons] at hk
    split at h
    · have q : (10 : Int) ^ (k + 1) = 10 ^ k * 10 := Int.pow_succ ..
      exact decread_bd r _ v (k + 1) (by omega) (by omega) (by omega) h
    · cases h
theorem impl_rd {s : ByteArray} (h : s.size ≤ 140737488351232) : Foreign.impl_ReadDec.f s = some (rd s) := by
  unfold Foreign.impl_ReadDec.f
  rw [if_pos h, readDec_rd]

theorem decread_append : ∀ (l m : List Int) (n : Int), decread (l ++ m) n = (decread l n).bind (decread m)
  | [], m, n => rfl
  | x :: l, m, n => by
    simp only [List.cons_append, decread]
    by_cases c : 48 ≤ x ∧ x ≤ 57
    · rw [if_pos c, if_pos c]; exact decread_append l m _
    · rw [if_neg c, if_neg c]; rfl
theorem decread_decT : ∀ (f u : Nat), u < 10 ^ (f + 1) → decread (bytesOf (decT u)) 0 = some (u : Int)
  | 0, u, h => by
    have h : u < 10 := by simpa using h
    rw [decT_small h, bytes_strOf (by intro x hx; simp only [List.mem_singleton] at hx; omega)]
    simp only [decread]
    rw [if_pos (by omega)]
    congr 1; omega
  | f + 1, u, h => by
    by_cases c : u < 10
    · rw [decT_small c, bytes_strOf (by intro x hx; simp only [List.mem_singleton] at hx; omega)]
      simp only [decread]
      rw [if_pos (by omega)]
      congr 1; omega
    · have p : 10 ^ (f + 1 + 1) = 10 ^ (f + 1) * 10 := Nat.pow_succ ..
      rw [decT_big c, bytes_append, bytes_strOf (by intro x hx; simp only [List.mem_singleton] at hx; omega), decread_append, decread_decT f (u / 10) (by omega)]
      simp only [Option.bind_some, decread]
      rw [if_pos (by omega)]
      congr 1; omega
theorem rd_decT {u : Nat} (h : u ≤ 999999999999999) : rd (decT u) = ((u : Int), true) := by
  have e : (10 : Nat) ^ (14 + 1) = 1000000000000000 := by decide
  unfold rd
  rw [if_pos ⟨decT_pos u, decT_size 14 u (by omega)⟩, decread_decT 14 u (by omega)]
  exact if_pos rfl
theorem rd_true {t : ByteArray} (h : (rd t).2 = true) : 0 ≤ (rd t).1 ∧ (rd t).1 ≤ 999999999999999 ∧ decT (rd t).1.toNat = t := by
  unfold rd at h ⊢
  by_cases z : 1 ≤ t.size ∧ t.size ≤ 15
  · rw [if_pos z] at h ⊢
    cases hd : decread (bytesOf t) 0 with
    | none => rw [hd] at h; cases h
    | some n =>
      rw [hd] at h
      have hbd := decread_bd (bytesOf t) 0 n 0 (by rw [bytesOf_length]; omega) (by decide) (by decide) hd
      by_cases e : decT n.toNat = t
      · show 0 ≤ (if decT n.toNat = t then (n, true) else (0, false)).1 ∧ _
        simp only [if_pos e]
        exact ⟨hbd.1, hbd.2, e⟩
      · have h : (if decT n.toNat = t then (n, true) else (0, false)).2 = true := h
        rw [if_neg e] at h; cases h
  · rw [if_neg z] at h; cases h
def decV (n : Int) : ByteArray := if 0 ≤ n ∧ n ≤ 999999999999999 then decT n.toNat else ⟨#[]⟩
theorem spec_decV (n : Int) : Ev (fun k => spec_DecText.f k n) (decV n) := by
  unfold decV
  by_cases h : 0 ≤ n ∧ n ≤ 999999999999999
  · have e : (10 : Int) ^ (14 + 1) = 1000000000000000 := by decide
    rw [if_pos h]; exact spec_decT 14 n h.1 h.2 (by omega) (by decide)
  · rw [if_neg h]; exact spec_decT_out h
theorem decV_size (n : Int) : (decV n).size ≤ 15 := by
  unfold decV
  by_cases h : 0 ≤ n ∧ n ≤ 999999999999999
  · have e : (10 : Nat) ^ (14 + 1) = 1000000000000000 := by decide
    rw [if_pos h]; exact decT_size 14 _ (by omega)
  · rw [if_neg h]; decide

theorem draw_dec {b : List Int} (hb : Bs b) : ∃ n : Int, Ev (fun k => spec_DrawDecText.f k b) n := by
  obtain ⟨h0, e0⟩ := draw_new hb
  obtain ⟨r, i1, h1, e1, _⟩ := draw_num hb 0 h0 (by omega)
  exact ⟨r, Ev.bind e0 (Ev.bind e1 (Ev.now _))⟩
theorem draw_rdec {b : List Int} (hb : Bs b) : ∃ t : ByteArray, Ev (fun k => spec_DrawReadDec.f k b) t ∧ t.size ≤ 16 := by
  obtain ⟨h0, e0⟩ := draw_new hb
  obtain ⟨r, i1, h1, e1, j1, _⟩ := draw_num hb 0 h0 (by omega)
  have e2 := spec_decV r
  have z := decV_size r
  obtain ⟨o, i2, h2, e3, j2⟩ := draw_once hb i1 h1 3 j1
  unfold spec_DrawReadDec.f
  cases o with
  | true =>
    obtain ⟨t, i3, h3, e4, zt, _⟩ := draw_bend hb i2 h2 (decV r) (by omega) j2
    exact ⟨t, Ev.bind e0 (Ev.bind e1 (Ev.bind e2 (Ev.told e3 (Ev.pos rfl (Ev.told e4 (Ev.now _)))))), by omega⟩
  | false =>
    obtain ⟨o, i3, h3, e4, j3⟩ := draw_once hb i2 h2 8 j2
    cases o with
    | true =>
      refine ⟨(⟨#[48]⟩ : ByteArray) ++ decV r, Ev.bind e0 (Ev.bind e1 (Ev.bind e2 (Ev.told e3 (Ev.neg (by simp) (Ev.told e4 (Ev.pos rfl (Ev.pos (by omega) (Ev.now _)))))))), ?_⟩
      rw [ByteArray.size_append]; show 1 + _ ≤ 16; omega
    | false => exact ⟨decV r, Ev.bind e0 (Ev.bind e1 (Ev.bind e2 (Ev.told e3 (Ev.neg (by simp) (Ev.told e4 (Ev.neg (by simp) (Ev.now _))))))), by omega⟩

theorem FnDecs : laws_FnDecs.Pure := by
  intro b hl hb hw
  apply Ev.rounds
  have hbs : Bs b := by unfold Bs; omega
  obtain ⟨n, e⟩ := draw_dec hbs
  obtain ⟨t, et, zt⟩ := draw_rdec hbs
  have hwd : Foreign.laws_words.f = some true := rfl
  have last : Ev (fun k => laws_FnDecs.j1 k b false) true := by
    refine Ev.step (fun k => laws_FnDecs.j1.eq_2 _ _ k) (Ev.neg (by simp) (Ev.bind et (Ev.told (impl_rd (s := t) (by omega)) ?_)))
    by_cases h : (rd t).2 = true
    · obtain ⟨h0, h1, h2⟩ := rd_true h
      refine Ev.pos h (Ev.told (impl_decT ⟨h0, h1⟩) ?_)
      rw [h2]
      exact Ev.pos rfl (Ev.told hwd (Ev.now _))
    · exact Ev.neg h (Ev.told hwd (Ev.now _))
  unfold laws_FnDecs.f
  refine Ev.bind e ?_
  by_cases h : 0 ≤ n ∧ n ≤ 999999999999999
  · have z : (decT n.toNat).size ≤ 15 := decT_size 14 _ (by have : (10 : Nat) ^ (14 + 1) = 1000000000000000 := by decide
                                                            omega)
    refine Ev.told (impl_decT h) (Ev.told (impl_rd (by omega)) (Ev.pos (by omega) ?_))
    rw [rd_decT (by omega), decide_eq_true h.2]
    exact Ev.step (fun k => laws_FnDecs.j0.eq_2 _ _ _ _ _ _ k) (Ev.neg (by simp) (Ev.pos rfl (Ev.pos (by show ((n.toNat : Nat) : Int) = n; omega) last)))
  · refine Ev.told (impl_decT_out h) (Ev.told (impl_rd (by decide)) ?_)
    have e0 : rd (⟨#[]⟩ : ByteArray) = (0, false) := by unfold rd; exact if_neg (by decide)
    rw [e0]
    have hj : Ev (fun k => laws_FnDecs.j0 k b n (⟨#[]⟩ : ByteArray) 0 false false) true := by
      refine Ev.step (fun k => laws_FnDecs.j0.eq_2 _ _ _ _ _ _ k) (Ev.neg (by simp) (Ev.neg (by simp) ?_))
      rw [show ((⟨#[]⟩ : ByteArray).toList != ([] : List UInt8)) = false by rw [Lib.toList_data]; rfl]
      exact last
    by_cases c : n ≥ 0
    · refine Ev.pos c ?_
      rw [decide_eq_false (by omega)]; exact hj
    · exact Ev.neg c hj

end Go.Proofs.YtikeagkcekkioaaDoor.Pure
