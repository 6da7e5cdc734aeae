/- The law FnStamps answers true for every code: a later time has a greater stamp and a greater date. No condition. -/
import Derived.Test.YtgjbhdfncappdaaDoorQFnStampsx2
import Derived.Test.YtgjbhdfncappdaaDoorBase
namespace Go.Proofs.YtgjbhdfncappdaaDoor.Pure
open Go.RowKit Go.Proofs.YtgjbhdfncappdaaDoor.PFnStamps Go.Proofs.YtgjbhdfncappdaaDoorW.PrintWords Go.Proofs.YtgjbhdfncappdaaDoorW.PrintLast Go.Proofs.YtgjbhdfncappdaaDoorW.PrintMore Go.Proofs.YtgjbhdfncappdaaDoor.Base
set_option linter.unusedVariables false
set_option linter.unusedSimpArgs false

open Go.Proofs.YtgjbhdfncappdaaDoor.Dates Go.Proofs.YtgjbhdfncappdaaDoor.Pads Go.Proofs.YtgjbhdfncappdaaDoor.Formats Go.Proofs.YtgjbhdfncappdaaDoor.Finds Go.Proofs.YtgjbhdfncappdaaDoor.Places Go.Proofs.YtgjbhdfncappdaaDoor.Reads Go.Proofs.YtgjbhdfncappdaaDoor.Https Go.Proofs.YtgjbhdfncappdaaDoor.Foreign

/-! The reader of draws -/
def Bs (b : List Int) : Prop := b.length ≤ 140737488351240
theorem and255 (y : Int) : 0 ≤ Go.bits .and .i64 y 255 ∧ Go.bits .and .i64 y 255 ≤ 255 := by
  have h : (BitVec.ofInt 64 y &&& BitVec.ofInt 64 255).toNat ≤ 255 := by
    rw [BitVec.toNat_and]
    exact Nat.and_le_right
  show 0 ≤ IntKind.i64.wrap ((BitVec.ofInt 64 y &&& BitVec.ofInt 64 255).toNat : Int) ∧ IntKind.i64.wrap ((BitVec.ofInt 64 y &&& BitVec.ofInt 64 255).toNat : Int) ≤ 255
  rw [wraps_i64 _ (Int.natCast_nonneg _) (by omega)]
  omega
theorem draw_byte {b : List Int} (hb : Bs b) (i h : Int) (hi : 0 ≤ i) : ∃ x i' h' : Int, spec_l1Byte.f b i h = some (x, i', h') ∧ 0 ≤ x ∧ x ≤ 255 ∧ 0 ≤ i' := by
  unfold Bs at hb
  unfold spec_l1Byte.f
  by_cases c : i < (b.length : Int)
  · rw [if_pos c, if_pos hi]
    exact ⟨_, _, _, rfl, (and255 _).1, (and255 _).2, by rw [w64 (by omega) (by omega)]; omega⟩
  · rw [if_neg c]
    exact ⟨_, _, _, rfl, (and255 _).1, (and255 _).2, hi⟩
theorem tmod_in {x n : Int} (hx : 0 ≤ x) (hn : 0 < n) : 0 ≤ Int.tmod x n ∧ Int.tmod x n < n := by
  rw [Int.tmod_eq_emod_of_nonneg hx]
  exact ⟨Int.emod_nonneg _ (by omega), Int.emod_lt_of_pos _ hn⟩
theorem draw_below {b : List Int} (hb : Bs b) (i h n : Int) (hi : 0 ≤ i) : ∃ x i' h' : Int, spec_l1Below.f b i h n = some (x, i', h') ∧ 0 ≤ x ∧ (0 < n → x < n) ∧ (n ≤ 0 → x = 0) ∧ 0 ≤ i' := by
  unfold spec_l1Below.f
  by_cases c0 : n ≤ 0
  · rw [if_pos c0]
    exact ⟨_, _, _, rfl, by omega, fun h => by omega, fun _ => rfl, hi⟩
  · rw [if_neg c0]
    obtain ⟨x, i1, h1, e1, x0, x1, j1⟩ := draw_byte hb i h hi
    by_cases c1 : n ≤ 256
    · rw [if_pos c1, e1]
      simp only [Option.bind_some]
      rw [if_neg (by omega)]
      have := tmod_in x0 (show 0 < n by omega)
      exact ⟨_, _, _, rfl, this.1, fun _ => this.2, fun h => by omega, j1⟩
    · obtain ⟨y, i2, h2, e2, y0, y1, j2⟩ := draw_byte hb i1 h1 j1
      obtain ⟨z, i3, h3, e3, z0, z1, j3⟩ := draw_byte hb i2 h2 j2
      obtain ⟨w, i4, h4, e4, v0, v1, j4⟩ := draw_byte hb i3 h3 j3
      rw [if_neg c1, e1]
      simp only [Option.bind_some]
      rw [e2]
      simp only [Option.bind_some]
      rw [e3]
      simp only [Option.bind_some]
      rw [e4]
      simp only [Option.bind_some]
      rw [if_neg (by omega)]
      have hs : 0 ≤ wrap64 ((wrap64 ((wrap64 ((wrap64 (x * 16777216)) + (wrap64 (y * 65536)))) + (wrap64 (z * 256)))) + w) := by
        rw [w64 (n := x * 16777216) (by omega) (by omega), w64 (n := y * 65536) (by omega) (by omega), w64 (n := z * 256) (by omega) (by omega), w64 (n := x * 16777216 + y * 65536) (by omega) (by omega), w64 (n := x * 16777216 + y * 65536 + z * 256) (by omega) (by omega), w64 (by omega) (by omega)]
        omega
      have := tmod_in hs (show 0 < n by omega)
      exact ⟨_, _, _, rfl, this.1, fun _ => this.2, fun h => by omega, j4⟩
theorem draw_new {b : List Int} (hb : Bs b) : ∃ h : Int, Ev (fun k => spec_l1New.f k b) (b, 0, h) := by
  unfold Bs at hb
  have loop : ∀ (d i : Nat) (x : Int), i + d = b.length → ∃ h : Int, Ev (fun k => spec_l1New.l0 k b x (i : Int)) (b, 0, h) := by
    intro d
    induction d with
    | zero => intro i x hi; exact ⟨_, Ev.step (fun k => spec_l1New.l0.eq_2 _ _ _ k) (Ev.neg (by omega) (Ev.now _))⟩
    | succ d ih =>
      intro i x hi
      by_cases c : (i : Int) < 4000
      · have hw : wrap64 ((i : Int) + 1) = ((i + 1 : Nat) : Int) := by rw [w64 (by omega) (by omega)]; omega
        obtain ⟨h, e⟩ := ih (i + 1) (Go.bits .and .i64 (wrap64 ((wrap64 ((wrap64 (x * 131)) + (wrap64 (rd b (i : Int))))) + 7)) 1073741823) (by omega)
        refine ⟨h, Ev.step (fun k => spec_l1New.l0.eq_2 _ _ _ k) (Ev.pos (by omega) (Ev.pos c (Ev.pos (by omega) ?_)))⟩
        rw [hw]; exact e
      · exact ⟨_, Ev.step (fun k => spec_l1New.l0.eq_2 _ _ _ k) (Ev.pos (by omega) (Ev.neg c (Ev.now _)))⟩
  exact loop b.length 0 _ (by omega)

theorem draw_pick {b : List Int} (hb : Bs b) (i h : Int) (l : List Int) (hl : 0 < l.length) (hi : 0 ≤ i) : ∃ x i' h' : Int, spec_l1PickInt.f b i h l = some (x, i', h') ∧ x ∈ l ∧ 0 ≤ i' := by
  obtain ⟨x, i1, h1, e, x0, x1, _, j⟩ := draw_below hb i h (l.length : Int) hi
  have hx := x1 (by omega)
  refine ⟨rd l x, i1, h1, ?_, ?_, j⟩
  · unfold spec_l1PickInt.f
    rw [e]
    simp only [Option.bind_some]
    rw [if_pos x0, if_pos hx]
  · unfold rd
    exact getD_mem (by omega)

/-! Times that are drawn -/
theorem draw_time {b : List Int} (hb : Bs b) (i h : Int) (hi : 0 ≤ i) : ∃ t i' h' : Int, spec_l2draw.f b i h = some (t, i', h') ∧ -1 ≤ t ∧ t ≤ 253402300800 ∧ 0 ≤ i' := by
  obtain ⟨w, i1, h1, e1, w0, w1, _, j1⟩ := draw_below hb i h 4 hi
  have hw := w1 (by decide)
  unfold spec_l2draw.f
  rw [e1]
  simp only [Option.bind_some]
  by_cases c0 : w = 0
  · obtain ⟨p, i2, h2, e2, p0, j2⟩ := draw_pick hb i1 h1 [0, (-1), 86399, 86400, 253402300799, 253402300800, 951782399, 951782400, 951868800, 4107542399, 3155759999, 3155760000, 68255999] (by decide) j1
    rw [if_pos c0, e2]
    simp only [Option.bind_some]
    simp only [List.mem_cons, List.not_mem_nil, or_false] at p0
    exact ⟨_, _, _, rfl, by omega, by omega, j2⟩
  · rw [if_neg c0]
    by_cases c1 : w = 1
    · obtain ⟨p, i2, h2, e2, p0, p1, _, j2⟩ := draw_below hb i1 h1 400 j1
      have hp := p1 (by decide)
      rw [if_pos c1, e2]
      simp only [Option.bind_some]
      exact ⟨_, _, _, rfl, by rw [w64 (by omega) (by omega)]; omega, by rw [w64 (by omega) (by omega)]; omega, j2⟩
    · rw [if_neg c1]
      by_cases c2 : w = 2
      · obtain ⟨p, i2, h2, e2, p0, p1, _, j2⟩ := draw_below hb i1 h1 2000000000 j1
        have hp := p1 (by decide)
        rw [if_pos c2, e2]
        simp only [Option.bind_some]
        exact ⟨_, _, _, rfl, by rw [w64 (by omega) (by omega)]; omega, by rw [w64 (by omega) (by omega)]; omega, j2⟩
      · rw [if_neg c2]
        obtain ⟨p, i2, h2, e2, p0, p1, _, j2⟩ := draw_below hb i1 h1 60000 j1
        have hp := p1 (by decide)
        obtain ⟨q, i3, h3, e3, q0, q1, _, j3⟩ := draw_below hb i2 h2 3600 j2
        have hq := q1 (by decide)
        rw [e2]
        simp only [Option.bind_some]
        rw [e3]
        simp only [Option.bind_some]
        exact ⟨_, _, _, rfl, by rw [w64 (n := p * 4000000) (by omega) (by omega), w64 (by omega) (by omega)]; omega, by rw [w64 (n := p * 4000000) (by omega) (by omega), w64 (by omega) (by omega)]; omega, j3⟩

theorem days_true : laws_days.f = some true := by decide +kernel
/-! order of texts -/
def u8 (x : Int) : UInt8 := UInt8.ofNat x.toNat
theorem u8_nat {x : Int} (h : 0 ≤ x ∧ x < 256) : ((u8 x).toNat : Int) = x := by
  unfold u8; rw [UInt8.toNat_ofNat']; omega
theorem less_of_lex {p q : List Int} (h : List.Lex (· < ·) p q) (hp : ∀ x ∈ p, 0 ≤ x ∧ x < 256) (hq : ∀ x ∈ q, 0 ≤ x ∧ x < 256) : Op.bytesLess (p.map u8) (q.map u8) = true := by
  induction h with
  | nil => rfl
  | @cons a l1 l2 h ih =>
    have := ih (fun x hx => hp x (by simp [hx])) (fun x hx => hq x (by simp [hx]))
    simp [Op.bytesLess, this]
  | @rel a l1 b l2 h =>
    have h1 := u8_nat (hp a (by simp)); have h2 := u8_nat (hq b (by simp))
    have : u8 a < u8 b := by rw [UInt8.lt_iff_toNat_lt]; omega
    simp [Op.bytesLess, this]
theorem less_self : ∀ l : List UInt8, Op.bytesLess l l = false
  | [] => rfl
  | a :: l => by
    have h : ¬ a < a := by rw [UInt8.lt_iff_toNat_lt]; omega
    simp [Op.bytesLess, less_self l, h]
theorem less_back : ∀ a b : List UInt8, Op.bytesLess a b = true → Op.bytesLess b a = false
  | [], [], h => by simp [Op.bytesLess] at h
  | [], _ :: _, _ => rfl
  | _ :: _, [], h => by simp [Op.bytesLess] at h
  | a :: x, b :: y, h => by
    simp only [Op.bytesLess, Bool.or_eq_true, Bool.and_eq_true, decide_eq_true_eq, beq_iff_eq] at h
    rcases h with h | ⟨rfl, h⟩
    · have h1 : ¬ b < a := by rw [UInt8.lt_iff_toNat_lt] at *; omega
      have h2 : ¬ b = a := by rintro rfl; rw [UInt8.lt_iff_toNat_lt] at h; omega
      simp [Op.bytesLess, h1, h2]
    · have h1 : ¬ a < a := by rw [UInt8.lt_iff_toNat_lt]; omega
      simp [Op.bytesLess, less_back x y h, h1]
theorem str_list (l : List Int) : (strOfNums l).toList = l.map u8 := by
  rw [Lib.toList_data, strOfNums_data]; rfl
theorem order_of {f : Int → List Int} {a b : Int} (hf : ∀ x y, isT x → isT y → x < y → List.Lex (· < ·) (f x) (f y)) (hd : ∀ x, ∀ y ∈ f x, 0 ≤ y ∧ y < 256) (ha : isT a) (hb : isT b) :
    ((decide (a < b)) == (Op.bytesLess (strOfNums (f a)).toList (strOfNums (f b)).toList)) = true := by
  rw [str_list, str_list]
  by_cases h : a < b
  · rw [less_of_lex (hf a b ha hb h) (hd a) (hd b), decide_eq_true h]; rfl
  · rw [decide_eq_false h]
    by_cases e : a = b
    · subst e; rw [less_self]; rfl
    · have := less_of_lex (hf b a hb ha (by omega)) (hd b) (hd a)
      rw [less_back _ _ this]; rfl
theorem stamp_byte (t : Int) : ∀ y ∈ stampL t, 0 ≤ y ∧ y < 256 := fun y hy => by have := stamp_dig t y hy; omega
theorem warc_byte (t : Int) : ∀ y ∈ warcL t, 0 ≤ y ∧ y < 256 := by
  intro y hy
  simp only [warcL, clockL, List.mem_append, List.mem_singleton] at hy
  rcases hy with h | h | h | h | h | h | (h | h | h | h | h) | h
  all_goals first
    | (have := padL_digit _ _ y h; omega)
    | omega
theorem FnStamps : laws_FnStamps.Pure := by
  intro b hl hb1 hw
  apply Ev.rounds
  have hb : Bs b := by unfold Bs; omega
  have hb2 : Bs ([3, 21] ++ b) := by unfold Bs; rw [List.length_append]; simp only [List.length_cons, List.length_nil]; omega
  have em : laws_more.f b 3 = some ([3, 21] ++ b) := by
    unfold laws_more.f
    rw [show ((wrap64 (3 * 7)) % 256 : Int) = 21 by rw [w64 (by omega) (by omega)]; rfl, show ((3 : Int) % 256) = 3 by decide, Option.bind_some]
    rw [if_pos (by simp only [List.length_cons, List.length_nil]; omega)]
  have dr : ∀ c, Bs c → ∃ t, Ev (fun k => spec_DrawStamp.f k c) t := by
    intro c hc
    obtain ⟨h0, e0⟩ := draw_new hc
    obtain ⟨t, i1, h1, e1, t0, t1, _⟩ := draw_time hc 0 h0 (by omega)
    exact ⟨t, by unfold spec_DrawStamp.f; exact Ev.bind e0 (Ev.told e1 (Ev.now _))⟩
  obtain ⟨s, es⟩ := dr b hb
  obtain ⟨t, et⟩ := dr _ hb2
  unfold laws_FnStamps.f
  refine Ev.bind es (Ev.told em (Ev.bind et ?_))
  have skip : Ev (fun k => laws_FnStamps.j0 k s t true) true := Ev.step (fun k => laws_FnStamps.j0.eq_2 _ _ _ k) (Ev.pos rfl (Ev.told days_true (Ev.now _)))
  by_cases s0 : s < 0
  · exact Ev.pos s0 skip
  · refine Ev.neg s0 ?_
    by_cases t0 : t < 0
    · exact Ev.pos t0 skip
    · refine Ev.neg t0 ?_
      by_cases s1 : s > 253402300799
      · exact Ev.pos s1 skip
      · refine Ev.neg s1 ?_
        by_cases t1 : t > 253402300799
        · rw [decide_eq_true t1]; exact skip
        · rw [decide_eq_false t1]
          have hs : isT s := ⟨by omega, by omega⟩
          have ht : isT t := ⟨by omega, by omega⟩
          have p : ∀ x, isT x → impl_Stamp.f x = some (strOfNums (stampL x)) := fun x hx => by unfold impl_Stamp.f stampT'; rw [if_pos hx]
          have q : ∀ x, isT x → impl_WarcDate.f x = some (strOfNums (warcL x)) := fun x hx => by unfold impl_WarcDate.f warcT; rw [if_pos hx]
          refine Ev.step (fun k => laws_FnStamps.j0.eq_2 _ _ _ k) (Ev.neg (by simp) (Ev.told (p s hs) (Ev.told (p t ht) (Ev.pos (order_of (fun _ _ => stamp_lt) stamp_byte hs ht) (Ev.told (q s hs) (Ev.told (q t ht) (Ev.pos (order_of (fun _ _ => warc_lt) warc_byte hs ht) (Ev.told (p s hs) (Ev.pos ?_ (Ev.told days_true (Ev.now _)))))))))))
          rw [size_strOf, stamp_length]; rfl

end Go.Proofs.YtgjbhdfncappdaaDoor.Pure
