/- The law FnFolds answers true for every code: what is folded stays so, and as long; what differs by letters alone is the same. No condition. -/
import Derived.Test.YtikeagkcekkioaaDoorQFnFoldsx2
import Derived.Test.YtikeagkcekkioaaDoorBase
namespace Go.Proofs.YtikeagkcekkioaaDoor.Pure
open Go.RowKit Go.Proofs.YtikeagkcekkioaaDoor.PFnFolds Go.Proofs.YtikeagkcekkioaaDoorW.PrintWords Go.Proofs.YtikeagkcekkioaaDoorW.PrintLast Go.Proofs.YtikeagkcekkioaaDoorW.PrintMore Go.Proofs.YtikeagkcekkioaaDoor.Base
set_option linter.unusedVariables false
set_option linter.unusedSimpArgs false

/-! The reader of draws -/
def Bs (b : List Int) : Prop := b.length ≤ 140737488351240
theorem and255 (y : Int) : 0 ≤ Go.bits .and .i64 y 255 ∧ Go.bits .and .i64 y 255 ≤ 255 := by
  have h : (BitVec.ofInt 64 y &&& BitVec.ofInt 64 255).toNat ≤ 255 := by
    rw [BitVec.toNat_and]
    exact Nat.and_le_right
  show 0 ≤ IntKind.i64.wrap ((BitVec.ofInt 64 y &&& BitVec.ofInt 64 255).toNat : Int) ∧ IntKind.i64.wrap ((BitVec.ofInt 64 y &&& BitVec.ofInt 64 255).toNat : Int) ≤ 255
  rw [wraps_i64 _ (Int.natCast_nonneg _) (by omega)]
  omega
theorem draw_byte {b : List Int} (hb : Bs b) (i h : Int) (hi : 0 ≤ i) : ∃ x i' h' : Int, spec_l1Byte.f b i h = some (x, i', h') ∧ 0 ≤ x ∧ x ≤ 255 ∧ 0 ≤ i' := by
  unfold Bs at hb
  unfold spec_l1Byte.f
  by_cases c : i < (b.length : Int)
  · rw [if_pos c, if_pos hi]
    exact ⟨_, _, _, rfl, (and255 _).1, (and255 _).2, by rw [w64 (by omega) (by omega)]; omega⟩
  · rw [if_neg c]
    exact ⟨_, _, _, rfl, (and255 _).1, (and255 _).2, hi⟩
theorem tmod_in {x n : Int} (hx : 0 ≤ x) (hn : 0 < n) : 0 ≤ Int.tmod x n ∧ Int.tmod x n < n := by
  rw [Int.tmod_eq_emod_of_nonneg hx]
  exact ⟨Int.emod_nonneg _ (by omega), Int.emod_lt_of_pos _ hn⟩
theorem draw_below {b : List Int} (hb : Bs b) (i h n : Int) (hi : 0 ≤ i) : ∃ x i' h' : Int, spec_l1Below.f b i h n = some (x, i', h') ∧ 0 ≤ x ∧ (0 < n → x < n) ∧ (n ≤ 0 → x = 0) ∧ 0 ≤ i' := by
  unfold spec_l1Below.f
  by_cases c0 : n ≤ 0
  · rw [if_pos c0]
    exact ⟨_, _, _, rfl, by omega, fun h => by omega, fun _ => rfl, hi⟩
  · rw [if_neg c0]
    obtain ⟨x, i1, h1, e1, x0, x1, j1⟩ := draw_byte hb i h hi
    by_cases c1 : n ≤ 256
    · rw [if_pos c1, e1]
      simp only [Option.bind_some]
      rw [if_neg (by omega)]
      have := tmod_in x0 (show 0 < n by omega)
      exact ⟨_, _, _, rfl, this.1, fun _ => this.2, fun h => by omega, j1⟩
    · obtain ⟨y, i2, h2, e2, y0, y1, j2⟩ := draw_byte hb i1 h1 j1
      obtain ⟨z, i3, h3, e3, z0, z1, j3⟩ := draw_byte hb i2 h2 j2
      obtain ⟨w, i4, h4, e4, v0, v1, j4⟩ := draw_byte hb i3 h3 j3
      rw [if_neg c1, e1]
      simp only [Option.bind_some]
      rw [e2]
      simp only [Option.bind_some]
      rw [e3]
      simp only [Option.bind_some]
      rw [e4]
      simp only [Option.bind_some]
      rw [if_neg (by omega)]
      have hs : 0 ≤ wrap64 ((wrap64 ((wrap64 ((wrap64 (x * 16777216)) + (wrap64 (y * 65536)))) + (wrap64 (z * 256)))) + w) := by
        rw [w64 (n := x * 16777216) (by omega) (by omega), w64 (n := y * 65536) (by omega) (by omega), w64 (n := z * 256) (by omega) (by omega), w64 (n := x * 16777216 + y * 65536) (by omega) (by omega), w64 (n := x * 16777216 + y * 65536 + z * 256) (by omega) (by omega), w64 (by omega) (by omega)]
        omega
      have := tmod_in hs (show 0 < n by omega)
      exact ⟨_, _, _, rfl, this.1, fun _ => this.2, fun h => by omega, j4⟩
theorem draw_new {b : List Int} (hb : Bs b) : ∃ h : Int, Ev (fun k => spec_l1New.f k b) (b, 0, h) := by
  unfold Bs at hb
  have loop : ∀ (d i : Nat) (x : Int), i + d = b.length → ∃ h : Int, Ev (fun k => spec_l1New.l0 k b x (i : Int)) (b, 0, h) := by
    intro d
    induction d with
    | zero => intro i x hi; exact ⟨_, Ev.step (fun k => spec_l1New.l0.eq_2 _ _ _ k) (Ev.neg (by omega) (Ev.now _))⟩
    | succ d ih =>
      intro i x hi
      by_cases c : (i : Int) < 4000
      · have hw : wrap64 ((i : Int) + 1) = ((i + 1 : Nat) : Int) := by rw [w64 (by omega) (by omega)]; omega
        obtain ⟨h, e⟩ := ih (i + 1) (Go.bits .and .i64 (wrap64 ((wrap64 ((wrap64 (x * 131)) + (wrap64 (rd b (i : Int))))) + 7)) 1073741823) (by omega)
        refine ⟨h, Ev.step (fun k => spec_l1New.l0.eq_2 _ _ _ k) (Ev.pos (by omega) (Ev.pos c (Ev.pos (by omega) ?_)))⟩
        rw [hw]; exact e
      · exact ⟨_, Ev.step (fun k => spec_l1New.l0.eq_2 _ _ _ k) (Ev.pos (by omega) (Ev.neg c (Ev.now _)))⟩
  exact loop b.length 0 _ (by omega)

theorem draw_once {b : List Int} (hb : Bs b) (i h n : Int) (hi : 0 ≤ i) : ∃ (x : Bool) (i' h' : Int), spec_l1Once.f b i h n = some (x, i', h') ∧ 0 ≤ i' := by
  obtain ⟨x, i1, h1, e, _, _, _, j⟩ := draw_below hb i h n hi
  exact ⟨_, _, _, by unfold spec_l1Once.f; rw [e]; rfl, j⟩

theorem draw_bend {b : List Int} (hb : Bs b) (i h : Int) (s : ByteArray) (hs : s.size ≤ 140737488351232) (hi : 0 ≤ i) : ∃ (r : ByteArray) (i' h' : Int), spec_l1bend.f b i h s = some (r, i', h') ∧ r.size ≤ s.size + 1 ∧ 0 ≤ i' := by
  obtain ⟨p, i1, h1, e1, p0, p1, _, j1⟩ := draw_below hb i h ((s.size : Int) + 1) hi
  have p1 := p1 (by omega)
  obtain ⟨q, i2, h2, e2, q0, q1, _, j2⟩ := draw_below hb i1 h1 4 j1
  unfold spec_l1bend.f
  rw [if_pos hs, e1, Option.bind_some]
  show ∃ (r : ByteArray) (i' h' : Int), (if 0 ≤ p ∧ p ≤ s.size then _ else _) = some (r, i', h') ∧ _
  rw [if_pos ⟨p0, by omega⟩, e2, Option.bind_some]
  obtain ⟨n, rfl⟩ := Int.eq_ofNat_of_zero_le p0
  show ∃ (r : ByteArray) (i' h' : Int), (if q = 0 then _ else _) = some (r, i', h') ∧ _
  have z1 : (s.extract 0 n).size ≤ n := by rw [ByteArray.size_extract]; omega
  have z2 : (s.extract n s.size).size ≤ s.size - n := by rw [ByteArray.size_extract]; omega
  have z3 : (s.extract (n + 1) s.size).size ≤ s.size - (n + 1) := by rw [ByteArray.size_extract]; omega
  by_cases c0 : q = 0
  · rw [if_pos c0]
    obtain ⟨x, i3, h3, e3, x0, x1, j3⟩ := draw_byte hb i2 h2 j2
    rw [e3, Option.bind_some]
    refine ⟨_, _, _, rfl, ?_, j3⟩
    rw [ByteArray.size_append, ByteArray.size_append, size_strOf]
    simp only [List.length_cons, List.length_nil, Int.toNat_natCast]
    omega
  · rw [if_neg c0]
    by_cases c1 : q = 1
    · rw [if_pos c1]
      exact ⟨_, _, _, rfl, by simp only [Int.toNat_natCast]; omega, j2⟩
    · rw [if_neg c1]
      by_cases c2 : q = 2 ∧ (n : Int) < s.size
      · rw [if_pos c2]
        exact ⟨_, _, _, rfl, by rw [ByteArray.size_append]; simp only [Int.toNat_natCast]; omega, j2⟩
      · rw [if_neg c2]
        by_cases c3 : (n : Int) < s.size
        · rw [if_pos c3]
          obtain ⟨x, i3, h3, e3, x0, x1, _, j3⟩ := draw_below hb i2 h2 8 j2
          have x1 := x1 (by decide)
          rw [e3, Option.bind_some]
          show ∃ (r : ByteArray) (i' h' : Int), (if 0 ≤ x ∧ x < 8 then _ else _) = some (r, i', h') ∧ _
          rw [if_pos ⟨x0, x1⟩]
          refine ⟨_, _, _, rfl, ?_, j3⟩
          rw [size_strOf, List.length_set, bytesOf_length]; omega
        · rw [if_neg c3]
          refine ⟨_, _, _, rfl, ?_, j2⟩
          rw [ByteArray.size_append]; exact Nat.le_refl _

theorem draw_of_l0 {b : List Int} (hb : Bs b) (set : ByteArray) (hs0 : 0 < set.size) (hs1 : set.size ≤ 200) : ∀ (d j : Nat) (out : List Int) (i h : Int), 0 ≤ i → out.length = j → j + d ≤ 1000 → ∃ (r : ByteArray) (i' h' : Int), Ev (fun k => spec_l1of.l0 k ((j + d : Nat) : Int) set out (j : Int) b i h) (r, i', h') ∧ r.size = j + d ∧ 0 ≤ i' := by
  intro d
  induction d with
  | zero =>
    intro j out i h hi hl hd
    exact ⟨strOfNums out, i, h, Ev.step (fun k => spec_l1of.l0.eq_2 _ _ _ _ _ _ _ k) (Ev.neg (by omega) (Ev.now _)), by rw [size_strOf]; omega, hi⟩
  | succ d ih =>
    intro j out i h hi hl hd
    obtain ⟨x, i1, h1, e1, x0, x1, _, j1⟩ := draw_below hb i h (set.size : Int) hi
    have x1 := x1 (by omega)
    have hw : wrap64 ((j : Int) + 1) = ((j + 1 : Nat) : Int) := by rw [w64 (by omega) (by omega)]; omega
    obtain ⟨r, i2, h2, e2, z, j2⟩ := ih (j + 1) (out ++ [bt set x]) i1 h1 j1 (by simp [hl]) (by omega)
    rw [show j + 1 + d = j + (d + 1) by omega] at e2 z
    refine ⟨r, i2, h2, Ev.step (fun k => spec_l1of.l0.eq_2 _ _ _ _ _ _ _ k) (Ev.pos (by omega) (Ev.told e1 (Ev.pos x0 (Ev.pos x1 (Ev.pos (by omega) ?_))))), z, j2⟩
    rw [hw]; exact e2
theorem draw_of {b : List Int} (hb : Bs b) (set : ByteArray) (hs0 : 0 < set.size) (hs1 : set.size ≤ 200) (n : Int) (h0 : 0 ≤ n) (h1 : n ≤ 1000) (i h : Int) (hi : 0 ≤ i) : ∃ (r : ByteArray) (i' h' : Int), Ev (fun k => spec_l1of.f k b i h n set) (r, i', h') ∧ r.size ≤ 1000 ∧ (r.size : Int) = n ∧ 0 ≤ i' := by
  obtain ⟨m, rfl⟩ := Int.eq_ofNat_of_zero_le h0
  obtain ⟨r, i2, h2, e2, z, j2⟩ := draw_of_l0 hb set hs0 hs1 m 0 [] i h hi rfl (by omega)
  rw [Nat.zero_add] at e2 z
  exact ⟨r, i2, h2, e2, by omega, by omega, j2⟩

theorem draw_wild_l0 {b : List Int} (hb : Bs b) : ∀ (d j : Nat) (out : List Int) (i h : Int), 0 ≤ i → out.length = j → j + d ≤ 1000 → ∃ (r : ByteArray) (i' h' : Int), Ev (fun k => spec_l1wild.l0 k ((j + d : Nat) : Int) out (j : Int) b i h) (r, i', h') ∧ r.size = j + d ∧ 0 ≤ i' := by
  intro d
  induction d with
  | zero =>
    intro j out i h hi hl hd
    exact ⟨strOfNums out, i, h, Ev.step (fun k => spec_l1wild.l0.eq_2 _ _ _ _ _ _ k) (Ev.neg (by omega) (Ev.now _)), by rw [size_strOf]; omega, hi⟩
  | succ d ih =>
    intro j out i h hi hl hd
    obtain ⟨x, i1, h1, e1, x0, x1, j1⟩ := draw_byte hb i h hi
    have hw : wrap64 ((j : Int) + 1) = ((j + 1 : Nat) : Int) := by rw [w64 (by omega) (by omega)]; omega
    obtain ⟨r, i2, h2, e2, z, j2⟩ := ih (j + 1) (out ++ [x % 256]) i1 h1 j1 (by simp [hl]) (by omega)
    rw [show j + 1 + d = j + (d + 1) by omega] at e2 z
    refine ⟨r, i2, h2, Ev.step (fun k => spec_l1wild.l0.eq_2 _ _ _ _ _ _ k) (Ev.pos (by omega) (Ev.told e1 (Ev.pos (by omega) ?_))), z, j2⟩
    rw [hw]; exact e2
theorem draw_wild {b : List Int} (hb : Bs b) (i h : Int) (hi : 0 ≤ i) : ∃ (r : ByteArray) (i' h' : Int), Ev (fun k => spec_l1wild.f k b i h) (r, i', h') ∧ r.size ≤ 1000 ∧ 0 ≤ i' := by
  obtain ⟨n, i1, h1, e1, n0, n1, _, j1⟩ := draw_below hb i h 9 hi
  have n1 := n1 (by decide)
  obtain ⟨q, i2, h2, e2, q0, q1, _, j2⟩ := draw_below hb i1 h1 3 j1
  unfold spec_l1wild.f
  by_cases c : q = 0
  · obtain ⟨r, i3, h3, e3, z, _, j3⟩ := draw_of hb (⟨#[97, 90, 48, 57, 32, 44, 34, 92, 9]⟩ : ByteArray) (by decide) (by decide) n n0 (by omega) i2 h2 j2
    exact ⟨r, i3, h3, Ev.told e1 (Ev.told e2 (Ev.pos c (Ev.bind e3 (Ev.now _)))), z, j3⟩
  · by_cases c1 : q = 1
    · obtain ⟨r, i3, h3, e3, z, _, j3⟩ := draw_of hb (⟨#[97, 98, 13, 10, 58, 59, 61, 45]⟩ : ByteArray) (by decide) (by decide) n n0 (by omega) i2 h2 j2
      exact ⟨r, i3, h3, Ev.told e1 (Ev.told e2 (Ev.neg c (Ev.pos c1 (Ev.bind e3 (Ev.now _))))), z, j3⟩
    · obtain ⟨m, rfl⟩ := Int.eq_ofNat_of_zero_le n0
      obtain ⟨r, i3, h3, e3, z, j3⟩ := draw_wild_l0 hb m 0 [] i2 h2 j2 rfl (by omega)
      rw [Nat.zero_add] at e3 z
      exact ⟨r, i3, h3, Ev.told e1 (Ev.told e2 (Ev.neg c (Ev.neg c1 e3))), by omega, j3⟩

open Foreign (foldM lowL low)
theorem fold_size (s : ByteArray) : (foldM s).size = s.size := by unfold foldM; rw [size_strOf]; simp [lowL]; exact bytesOf_length s
theorem fold_fold (s : ByteArray) : foldM (foldM s) = foldM s := by
  have h : bytesOf (foldM s) = lowL (bytesOf s) := bytes_strOf (Foreign.half_bd (Foreign.bytesOf_bd s))
  show strOfNums (lowL (bytesOf (foldM s))) = strOfNums (lowL (bytesOf s))
  rw [h]
  congr 1
  unfold lowL
  rw [List.map_map]
  apply List.map_congr_left
  intro x _
  show low (low x) = low x
  unfold low
  by_cases c : 65 ≤ x ∧ x ≤ 90
  · rw [if_pos c, if_neg (by omega)]
  · rw [if_neg c, if_neg c]
theorem draw_fold {b : List Int} (hb : Bs b) : ∃ s : ByteArray, Ev (fun k => spec_DrawFold.f k b) s ∧ s.size ≤ 1000 := by
  obtain ⟨h0, e0⟩ := draw_new hb
  obtain ⟨r, i1, h1, e1, z, _⟩ := draw_wild hb 0 h0 (by omega)
  exact ⟨r, Ev.bind e0 (Ev.bind e1 (Ev.now _)), z⟩
theorem draw_same {b : List Int} (hb : Bs b) : ∃ x y : ByteArray, Ev (fun k => spec_DrawSameFold.f k b) (x, y) ∧ x.size ≤ 1000 ∧ y.size ≤ 1001 := by
  obtain ⟨h0, e0⟩ := draw_new hb
  obtain ⟨n, i1, h1, e1, n0, n1, _, j1⟩ := draw_below hb 0 h0 6 (by omega)
  have n1 := n1 (by decide)
  obtain ⟨x, i2, h2, e2, z, _, j2⟩ := draw_of hb (⟨#[97, 90, 48, 57, 45, 64, 91]⟩ : ByteArray) (by decide) (by decide) n n0 (by omega) i1 h1 j1
  obtain ⟨o, i3, h3, e3, j3⟩ := draw_once hb i2 h2 2 j2
  unfold spec_DrawSameFold.f
  cases o with
  | true => exact ⟨x, foldM x, Ev.bind e0 (Ev.told e1 (Ev.bind e2 (Ev.told e3 (Ev.pos rfl (Ev.told (show Foreign.spec_Fold.f x = some (foldM x) from if_pos (by omega)) (Ev.now _)))))), z, by rw [fold_size]; omega⟩
  | false =>
    obtain ⟨y, i4, h4, e4, zy, _⟩ := draw_bend hb i3 h3 x (by omega) j3
    exact ⟨x, y, Ev.bind e0 (Ev.told e1 (Ev.bind e2 (Ev.told e3 (Ev.neg (by simp) (Ev.told e4 (Ev.now _)))))), z, by omega⟩
theorem same_told {u v : ByteArray} (hu : u.size ≤ 140737488351232) (hv : v.size ≤ 140737488351232) : impl_SameFold.f u v = some ((foldM u).toList == (foldM v).toList) := by
  unfold impl_SameFold.f
  rw [show Foreign.impl_Fold.f u = some (foldM u) from if_pos hu, show Foreign.impl_Fold.f v = some (foldM v) from if_pos hv]
  rfl
theorem FnFolds : laws_FnFolds.Pure := by
  intro b hl hb hw
  apply Ev.rounds
  have hbs : Bs b := by unfold Bs; omega
  obtain ⟨s, es, zs⟩ := draw_fold hbs
  obtain ⟨x, y, ex, zx, zy⟩ := draw_same hbs
  have hwd : Foreign.laws_words.f = some true := rfl
  have f1 : Foreign.impl_Fold.f s = some (foldM s) := if_pos (by omega)
  have f2 : Foreign.impl_Fold.f (foldM s) = some (foldM s) := by
    have : Foreign.impl_Fold.f (foldM s) = some (foldM (foldM s)) := if_pos (by rw [fold_size]; omega)
    rw [fold_fold] at this; exact this
  have g1 : Foreign.spec_Fold.f x = some (foldM x) := if_pos (by omega)
  have g2 : Foreign.spec_Fold.f y = some (foldM y) := if_pos (by omega)
  have m1 : impl_SameFold.f s (foldM s) = some true := by
    rw [same_told (by omega) (by rw [fold_size]; omega), fold_fold, beq_self_eq_true]
  have m2 := same_told (u := x) (v := y) (by omega) (by omega)
  have m3 : impl_SameFold.f y x = some ((foldM x).toList == (foldM y).toList) := by
    rw [same_told (u := y) (v := x) (by omega) (by omega), Bool.beq_comm]
  unfold laws_FnFolds.f
  refine Ev.bind es (Ev.bind ex (Ev.told f1 (Ev.pos (by rw [fold_size]) (Ev.told f2 (Ev.pos rfl (Ev.told m1 (Ev.pos rfl (Ev.told m2 (Ev.told m3 (Ev.pos (by simp) (Ev.told m2 (Ev.told g1 (Ev.told g2 (Ev.pos (by simp) (Ev.told hwd (Ev.now _))))))))))))))))

end Go.Proofs.YtikeagkcekkioaaDoor.Pure
