/- The law FnCivils answers true for every code: a time is read back out of its civil time, and a day later it is the next weekday. No condition. -/
import Derived.Test.YtgjbhdfncappdaaDoorQFnCivilsx2
import Derived.Test.YtgjbhdfncappdaaDoorBase
namespace Go.Proofs.YtgjbhdfncappdaaDoor.Pure
open Go.RowKit Go.Proofs.YtgjbhdfncappdaaDoor.PFnCivils Go.Proofs.YtgjbhdfncappdaaDoorW.PrintWords Go.Proofs.YtgjbhdfncappdaaDoorW.PrintLast Go.Proofs.YtgjbhdfncappdaaDoorW.PrintMore Go.Proofs.YtgjbhdfncappdaaDoor.Base
set_option linter.unusedVariables false
set_option linter.unusedSimpArgs false

open Go.Proofs.YtgjbhdfncappdaaDoor.Dates Go.Proofs.YtgjbhdfncappdaaDoor.Pads Go.Proofs.YtgjbhdfncappdaaDoor.Formats Go.Proofs.YtgjbhdfncappdaaDoor.Finds Go.Proofs.YtgjbhdfncappdaaDoor.Places Go.Proofs.YtgjbhdfncappdaaDoor.Reads Go.Proofs.YtgjbhdfncappdaaDoor.Https Go.Proofs.YtgjbhdfncappdaaDoor.Foreign

/-! The reader of draws -/
def Bs (b : List Int) : Prop := b.length ≤ 140737488351240
theorem and255 (y : Int) : 0 ≤ Go.bits .and .i64 y 255 ∧ Go.bits .and .i64 y 255 ≤ 255 := by
  have h : (BitVec.ofInt 64 y &&& BitVec.ofInt 64 255).toNat ≤ 255 := by
    rw [BitVec.toNat_and]
    exact Nat.and_le_right
  show 0 ≤ IntKind.i64.wrap ((BitVec.ofInt 64 y &&& BitVec.ofInt 64 255).toNat : Int) ∧ IntKind.i64.wrap ((BitVec.ofInt 64 y &&& BitVec.ofInt 64 255).toNat : Int) ≤ 255
  rw [wraps_i64 _ (Int.natCast_nonneg _) (by omega)]
  omega
theorem draw_byte {b : List Int} (hb : Bs b) (i h : Int) (hi : 0 ≤ i) : ∃ x i' h' : Int, spec_l1Byte.f b i h = some (x, i', h') ∧ 0 ≤ x ∧ x ≤ 255 ∧ 0 ≤ i' := by
  unfold Bs at hb
  unfold spec_l1Byte.f
  by_cases c : i < (b.length : Int)
  · rw [if_pos c, if_pos hi]
    exact ⟨_, _, _, rfl, (and255 _).1, (and255 _).2, by rw [w64 (by omega) (by omega)]; omega⟩
  · rw [if_neg c]
    exact ⟨_, _, _, rfl, (and255 _).1, (and255 _).2, hi⟩
theorem tmod_in {x n : Int} (hx : 0 ≤ x) (hn : 0 < n) : 0 ≤ Int.tmod x n ∧ Int.tmod x n < n := by
  rw [Int.tmod_eq_emod_of_nonneg hx]
  exact ⟨Int.emod_nonneg _ (by omega), Int.emod_lt_of_pos _ hn⟩
theorem draw_below {b : List Int} (hb : Bs b) (i h n : Int) (hi : 0 ≤ i) : ∃ x i' h' : Int, spec_l1Below.f b i h n = some (x, i', h') ∧ 0 ≤ x ∧ (0 < n → x < n) ∧ (n ≤ 0 → x = 0) ∧ 0 ≤ i' := by
  unfold spec_l1Below.f
  by_cases c0 : n ≤ 0
  · rw [if_pos c0]
    exact ⟨_, _, _, rfl, by omega, fun h => by omega, fun _ => rfl, hi⟩
  · rw [if_neg c0]
    obtain ⟨x, i1, h1, e1, x0, x1, j1⟩ := draw_byte hb i h hi
    by_cases c1 : n ≤ 256
    · rw [if_pos c1, e1]
      simp only [Option.bind_some]
      rw [if_neg (by omega)]
      have := tmod_in x0 (show 0 < n by omega)
      exact ⟨_, _, _, rfl, this.1, fun _ => this.2, fun h => by omega, j1⟩
    · obtain ⟨y, i2, h2, e2, y0, y1, j2⟩ := draw_byte hb i1 h1 j1
      obtain ⟨z, i3, h3, e3, z0, z1, j3⟩ := draw_byte hb i2 h2 j2
      obtain ⟨w, i4, h4, e4, v0, v1, j4⟩ := draw_byte hb i3 h3 j3
      rw [if_neg c1, e1]
      simp only [Option.bind_some]
      rw [e2]
      simp only [Option.bind_some]
      rw [e3]
      simp only [Option.bind_some]
      rw [e4]
      simp only [Option.bind_some]
      rw [if_neg (by omega)]
      have hs : 0 ≤ wrap64 ((wrap64 ((wrap64 ((wrap64 (x * 16777216)) + (wrap64 (y * 65536)))) + (wrap64 (z * 256)))) + w) := by
        rw [w64 (n := x * 16777216) (by omega) (by omega), w64 (n := y * 65536) (by omega) (by omega), w64 (n := z * 256) (by omega) (by omega), w64 (n := x * 16777216 + y * 65536) (by omega) (by omega), w64 (n := x * 16777216 + y * 65536 + z * 256) (by omega) (by omega), w64 (by omega) (by omega)]
        omega
      have := tmod_in hs (show 0 < n by omega)
      exact ⟨_, _, _, rfl, this.1, fun _ => this.2, fun h => by omega, j4⟩
theorem draw_new {b : List Int} (hb : Bs b) : ∃ h : Int, Ev (fun k => spec_l1New.f k b) (b, 0, h) := by
  unfold Bs at hb
  have loop : ∀ (d i : Nat) (x : Int), i + d = b.length → ∃ h : Int, Ev (fun k => spec_l1New.l0 k b x (i : Int)) (b, 0, h) := by
    intro d
    induction d with
    | zero => intro i x hi; exact ⟨_, Ev.step (fun k => spec_l1New.l0.eq_2 _ _ _ k) (Ev.neg (by omega) (Ev.now _))⟩
    | succ d ih =>
      intro i x hi
      by_cases c : (i : Int) < 4000
      · have hw : wrap64 ((i : Int) + 1) = ((i + 1 : Nat) : Int) := by rw [w64 (by omega) (by omega)]; omega
        obtain ⟨h, e⟩ := ih (i + 1) (Go.bits .and .i64 (wrap64 ((wrap64 ((wrap64 (x * 131)) + (wrap64 (rd b (i : Int))))) + 7)) 1073741823) (by omega)
        refine ⟨h, Ev.step (fun k => spec_l1New.l0.eq_2 _ _ _ k) (Ev.pos (by omega) (Ev.pos c (Ev.pos (by omega) ?_)))⟩
        rw [hw]; exact e
      · exact ⟨_, Ev.step (fun k => spec_l1New.l0.eq_2 _ _ _ k) (Ev.pos (by omega) (Ev.neg c (Ev.now _)))⟩
  exact loop b.length 0 _ (by omega)

theorem draw_pick {b : List Int} (hb : Bs b) (i h : Int) (l : List Int) (hl : 0 < l.length) (hi : 0 ≤ i) : ∃ x i' h' : Int, spec_l1PickInt.f b i h l = some (x, i', h') ∧ x ∈ l ∧ 0 ≤ i' := by
  obtain ⟨x, i1, h1, e, x0, x1, _, j⟩ := draw_below hb i h (l.length : Int) hi
  have hx := x1 (by omega)
  refine ⟨rd l x, i1, h1, ?_, ?_, j⟩
  · unfold spec_l1PickInt.f
    rw [e]
    simp only [Option.bind_some]
    rw [if_pos x0, if_pos hx]
  · unfold rd
    exact getD_mem (by omega)

/-! Times that are drawn -/
theorem draw_time {b : List Int} (hb : Bs b) (i h : Int) (hi : 0 ≤ i) : ∃ t i' h' : Int, spec_l2draw.f b i h = some (t, i', h') ∧ -1 ≤ t ∧ t ≤ 253402300800 ∧ 0 ≤ i' := by
  obtain ⟨w, i1, h1, e1, w0, w1, _, j1⟩ := draw_below hb i h 4 hi
  have hw := w1 (by decide)
  unfold spec_l2draw.f
  rw [e1]
  simp only [Option.bind_some]
  by_cases c0 : w = 0
  · obtain ⟨p, i2, h2, e2, p0, j2⟩ := draw_pick hb i1 h1 [0, (-1), 86399, 86400, 253402300799, 253402300800, 951782399, 951782400, 951868800, 4107542399, 3155759999, 3155760000, 68255999] (by decide) j1
    rw [if_pos c0, e2]
    simp only [Option.bind_some]
    simp only [List.mem_cons, List.not_mem_nil, or_false] at p0
    exact ⟨_, _, _, rfl, by omega, by omega, j2⟩
  · rw [if_neg c0]
    by_cases c1 : w = 1
    · obtain ⟨p, i2, h2, e2, p0, p1, _, j2⟩ := draw_below hb i1 h1 400 j1
      have hp := p1 (by decide)
      rw [if_pos c1, e2]
      simp only [Option.bind_some]
      exact ⟨_, _, _, rfl, by rw [w64 (by omega) (by omega)]; omega, by rw [w64 (by omega) (by omega)]; omega, j2⟩
    · rw [if_neg c1]
      by_cases c2 : w = 2
      · obtain ⟨p, i2, h2, e2, p0, p1, _, j2⟩ := draw_below hb i1 h1 2000000000 j1
        have hp := p1 (by decide)
        rw [if_pos c2, e2]
        simp only [Option.bind_some]
        exact ⟨_, _, _, rfl, by rw [w64 (by omega) (by omega)]; omega, by rw [w64 (by omega) (by omega)]; omega, j2⟩
      · rw [if_neg c2]
        obtain ⟨p, i2, h2, e2, p0, p1, _, j2⟩ := draw_below hb i1 h1 60000 j1
        have hp := p1 (by decide)
        obtain ⟨q, i3, h3, e3, q0, q1, _, j3⟩ := draw_below hb i2 h2 3600 j2
        have hq := q1 (by decide)
        rw [e2]
        simp only [Option.bind_some]
        rw [e3]
        simp only [Option.bind_some]
        exact ⟨_, _, _, rfl, by rw [w64 (n := p * 4000000) (by omega) (by omega), w64 (by omega) (by omega)]; omega, by rw [w64 (n := p * 4000000) (by omega) (by omega), w64 (by omega) (by omega)]; omega, j3⟩

/-! What the program's functions on times tell -/
theorem weekday_eq {t : Int} (h : isT t) : Int.tmod (wrap64 ((wrap64 (Int.tdiv t 86400)) + 3)) 7 = wd t := by
  obtain ⟨h0, h1⟩ := h
  rw [Int.tdiv_eq_ediv_of_nonneg h0, w64 (n := t / 86400) (by omega) (by omega), w64 (by omega) (by omega), Int.tmod_eq_emod_of_nonneg (by omega)]
  rfl
theorem impl_time (t : Int) : impl_isTime.f t = some (decide (isT t)) := by
  unfold impl_isTime.f impl_within.f isT
  by_cases h0 : 0 ≤ t
  · rw [if_pos h0]; simp [h0]
  · rw [if_neg h0]; simp [h0]
theorem impl_wd {t : Int} (h : isT t) : impl_Weekday.f t = some (wd t) := by
  unfold impl_Weekday.f
  rw [impl_time, decide_eq_true h, Option.bind_some, if_pos rfl, weekday_eq h]
theorem impl_wd_no {t : Int} (h : ¬ isT t) : impl_Weekday.f t = some (-1) := by
  unfold impl_Weekday.f
  rw [impl_time, decide_eq_false h, Option.bind_some, if_neg (by simp)]

theorem days_true : laws_days.f = some true := by decide +kernel
theorem FnCivils : laws_FnCivils.Pure := by
  intro b hl hb1 hw
  apply Ev.rounds
  have hb : Bs b := by unfold Bs; omega
  obtain ⟨h0, e0⟩ := draw_new hb
  obtain ⟨t, i1, h1, e1, t0, t1, _⟩ := draw_time hb 0 h0 (by omega)
  have ed : Ev (fun k => spec_DrawCivilOf.f k b) t := by
    unfold spec_DrawCivilOf.f
    exact Ev.bind e0 (Ev.told e1 (Ev.now _))
  unfold laws_FnCivils.f
  refine Ev.bind ed ?_
  by_cases h : isT t
  · have h' := h
    obtain ⟨a0, a1⟩ := h'
    refine Ev.told (show impl_CivilOf.f t = some (yr t, mo t, da t, ho t, mi t, se t, true) by unfold impl_CivilOf.f civM; rw [if_pos h]) (Ev.pos a0 ?_)
    refine Ev.step (fun k => laws_FnCivils.j0.eq_2 _ _ _ _ _ _ _ _ _ k) (Ev.neg (by simp; omega) (Ev.pos rfl ?_))
    refine Ev.told (show impl_SecondsOf.f (yr t) (mo t) (da t) (ho t) (mi t) (se t) = some (t, true) by unfold impl_SecondsOf.f secM; rw [if_pos (civ_ok h), civ_secs h]) (Ev.pos rfl (Ev.pos rfl ?_))
    refine Ev.told (show impl_CivilOk.f (yr t) (mo t) (da t) (ho t) (mi t) (se t) = some true by unfold impl_CivilOk.f; rw [decide_eq_true (civ_ok h)]) ?_
    refine Ev.step (fun k => laws_FnCivils.j1.eq_2 _ _ k) (Ev.neg (by simp) ?_)
    rw [w64 (by omega) (by omega)]
    by_cases c : t + 86400 ≤ 253402300799
    · refine Ev.pos c (Ev.told (impl_wd ⟨by omega, c⟩) (Ev.told (impl_wd h) (Ev.pos ?_ (Ev.told days_true (Ev.now _)))))
      have := wd_in t
      rw [w64 (by omega) (by omega), Int.tmod_eq_emod_of_nonneg (by omega)]
      unfold wd; omega
    · exact Ev.neg c (Ev.told days_true (Ev.now _))
  · refine Ev.told (show impl_CivilOf.f t = some (0, 0, 0, 0, 0, 0, false) by unfold impl_CivilOf.f civM; rw [if_neg h]) ?_
    by_cases a0 : t ≥ 0
    · refine Ev.pos a0 ?_
      have a1 : ¬ t ≤ 253402300799 := fun c => h ⟨a0, c⟩
      refine Ev.step (fun k => laws_FnCivils.j0.eq_2 _ _ _ _ _ _ _ _ _ k) (Ev.neg (by simp; omega) (Ev.neg (by simp) ?_))
      exact Ev.told (impl_wd_no h) (Ev.pos rfl (Ev.told days_true (Ev.now _)))
    · refine Ev.neg a0 ?_
      refine Ev.step (fun k => laws_FnCivils.j0.eq_2 _ _ _ _ _ _ _ _ _ k) (Ev.neg (by simp) (Ev.neg (by simp) ?_))
      exact Ev.told (impl_wd_no h) (Ev.pos rfl (Ev.told days_true (Ev.now _)))

end Go.Proofs.YtgjbhdfncappdaaDoor.Pure
