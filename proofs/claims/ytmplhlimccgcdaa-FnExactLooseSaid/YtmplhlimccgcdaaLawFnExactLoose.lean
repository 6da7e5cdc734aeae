/- The row of the law FnExactLoose: out of its pure statement and the printed walk. No condition. -/
import Derived.Test.YtmplhlimccgcdaaRows
import Derived.Test.YtmplhlimccgcdaaQFnExactLoosex4
import Derived.Test.YtmplhlimccgcdaaPureFnExactLoose
import Derived.WalkKit
import Derived.ProofKit
import Derived.OpenShut
import Derived.ShutString
import Derived.ChangeOld
import Derived.Below
import Derived.SizedLaws
import Derived.Lib.SmallJoins
import Derived.Carry
import Derived.Deep.Slices
import Derived.Deep.Fields
import Derived.ChangeSame
namespace Go.Proofs.Ytmplhlimccgcdaa.fnExactLoose
open Go.ChangeShapes Go.WideShapes Go.ChangeAt Go.RowKit Go.Joins Go.Deep
open Go.ChangeMaps (open_string shut_string)
set_option linter.unusedVariables false
theorem own : ownKnob Try.prog.godebug = none := by kernel_rfl
theorem laidOut : laidOutB Try.prog = true := by kernel_rfl
def IsRow (k : IntKind) (w : World) (a : Option Addr) (len cap : Nat) (zs : List Int) : Prop :=
  (a = none ∧ len = 0 ∧ cap = 0 ∧ zs = []) ∨
  ∃ x, a = some x ∧ len ≤ cap ∧ cap ≤ maxLen ∧ zs.length = cap ∧ (∀ i, i < zs.length → w.cell? (x.add i) = some (.int k (zs.getD i 0))) ∧ ∀ n ∈ zs, (Lit.int k n).wf = true
section
variable {H : Type} {enc : TypeId × Value → H} {P : Program} {w : World} {base : Nat} {spare : Nat → Bool} {held : Bool}
open PFnExactLoose in
theorem segs_of {t e : TypeId} {f0 f1 : Field} {fuel : Nat} {a : Option Addr} {len cap : Nat} {x : DataW H × List MemPlace} (ht : P.underlying t = some (.slice e)) (he : P.underlying e = some (.struct #[f0, f1]))
    (hone : oneCellFields P #[f0, f1] = true) (hC : P.cellsOf e = 2) (h0 : P.underlying f0.type = some .string) (h1 : P.underlying f1.type = some (.int .i64)) (h : DataW.trod enc P w base spare held fuel t [.slice a len cap] = some x) :
    ∃ l : List S94, len = l.length ∧ Go.Proofs.YtmplhlimccgcdaaW.PrintWords.Kd.C k94 w a l.length l ∧ l.length ≤ maxLen ∧ (∀ p ∈ l, p.f0.size ≤ maxLen ∧ (Lit.int .i64 p.f1).wf = true) ∧ l.length ≤ cap := by
  rcases open_slice ht h with ⟨hcs, _⟩ | ⟨a', len', cap', m, n, D, Pl, hcs, hb, hl, hm, hmm, hx, hi⟩
  · simp at hcs
    obtain ⟨rfl, rfl, rfl⟩ := hcs
    exact ⟨[], rfl, ⟨rfl, by simp, fun hp => absurd hp (by simp)⟩, by simp, by simp, by simp⟩
  · simp at hcs
    obtain ⟨rfl, rfl, rfl⟩ := hcs
    have hlm : len ≤ m := by rw [hmm]; split <;> omega
    have hcell : ∀ i, ∃ p : S94, i < len → w.cell? (a'.add (i * 2)) = some (.string p.f0) ∧ w.cell? (a'.add (i * 2 + 1)) = some (.int .i64 p.f1) ∧ p.f0.size ≤ maxLen ∧ (Lit.int .i64 p.f1).wf = true := by
      intro i
      by_cases hil : i < len
      · obtain ⟨cs', hc, ht'⟩ := hi i (by omega)
        rw [hC] at hc
        obtain ⟨y0, y1, n', _, hlen, g0, g1⟩ := trod_struct2 he ht'
        obtain ⟨_, hcl, hat⟩ := World.cells?_some hc
        obtain ⟨o0, k0⟩ := hone_of hone 0 f0 rfl
        obtain ⟨o1, k1⟩ := hone_of hone 1 f1 rfl
        rw [o0, k0] at g0
        rw [o1, k1] at g1
        obtain ⟨s, e0, _, b0⟩ := DataW.trod_string h0 g0
        obtain ⟨v, e1, _, b1⟩ := DataW.trod_int h1 g1
        have c0 := hat 0 (by omega)
        have c1 := hat 1 (by omega)
        rw [Go.Deep.add_add] at c0 c1
        have d0 : cs'[0]? = some (.string s) := by
          have := congrArg (fun l => l[0]?) e0
          simpa using this
        have d1 : cs'[1]? = some (.int .i64 v) := by
          have := congrArg (fun l => l[0]?) e1
          simpa using this
        exact ⟨⟨s, v⟩, fun _ => ⟨by rw [d0] at c0; simpa using c0, by rw [d1] at c1; simpa using c1, b0, b1⟩⟩
      · exact ⟨⟨⟨#[]⟩, 0⟩, fun h => absurd h hil⟩
    obtain ⟨f, hf⟩ := Classical.axiomOfChoice hcell
    have hll : ((List.range len).map f).length = len := by simp
    have hlc : len ≤ 9223372036854775807 := by unfold maxLen at hm; omega
    refine ⟨(List.range len).map f, hll.symm, ⟨rfl, by rw [hll]; exact hlc, fun _ => ⟨a', rfl, fun j p hj => ?_⟩⟩, by rw [hll]; omega, fun p hp => ?_, by rw [hll]; exact hl⟩
    · have hjl : j < len := by have := (List.getElem?_eq_some_iff.1 hj).1; rwa [hll] at this
      have hpj : p = f j := by
        rw [List.getElem?_map, List.getElem?_range hjl] at hj
        simpa using hj.symm
      subst hpj
      obtain ⟨q0, q1, _, _⟩ := hf j hjl
      refine ⟨[.string (f j).f0, .int .i64 (f j).f1], rfl, k94_mk w (f j), fun i u hu => ?_⟩
      match i, hu with
      | 0, hu => simp at hu; subst hu; exact q0
      | 1, hu => simp at hu; subst hu; exact q1
    · simp only [List.mem_map, List.mem_range] at hp
      obtain ⟨j, hj, rfl⟩ := hp
      exact ⟨(hf j hj).2.2.1, (hf j hj).2.2.2⟩
end
set_option maxRecDepth 100000 in
theorem lifted (os : Os) (started : os.Started) (H : Type) (enc : TypeId × Value → H) :
    ReturnsInHanded {} Try.checked os 10 .any (Rows.fnExactLooseSpec.pre6 enc Try.prog Try.f10 Rows.fnExactLooseRow.domain false) (Rows.fnExactLooseSpec.post enc Try.prog Try.f10 false true false false) := by
  refine returnsInHanded_of_change_sized (C := Try.checked) own started (by kernel_rfl) Try.func10
    (ChangeSpec.witness6 (enc := enc) (C := Try.checked) false ⟨#[], #[.agg #[.slice none 0 0, .int .i64 0]], []⟩ 8 (by kernel_rfl) (by kernel_rfl) (by kernel_rfl) (by kernel_rfl)) ?_
  intro W base args ds gs before hval0 hW hcnd hsz0 _
  have hval : ∀ (j : Nat) t v, Try.f10.params[j]? = some t → args[j]? = some v → Value.okWide Try.prog W .any base t v := hval0
  have hW' := hW
  obtain ⟨p, q, hA0, hV, rfl, hfz, hnd⟩ := hW
  have hA : DataW.TrodAll enc Try.prog W 0 (fun _ => true) true Try.f10.params.toList args.toList ds p := hA0
  rw [Try.params10] at hA hval
  obtain ⟨v0, vs0, d0, ds0, p0, q0, hargs, rfl, rfl, h0, r0⟩ := trodAll_cons hA
  obtain ⟨rfl, rfl, rfl⟩ := trodAll_nil r0
  obtain rfl : args = #[v0] := by cases args; simp_all
  obtain ⟨rfl, rfl⟩ := trodVars_none hV
  have k0 := h0
  have lt0 : ∀ x ∈ p0, x.block < W.heap.size := by obtain ⟨m, hm⟩ := k0; exact DataW.trod_lt m _ _ _ hm
  obtain ⟨c0_0, c0_1, y0_0, y0_1, m0, rfl, rfl, rfl, hy0_0, hy0_1⟩ := open_agg2 Try.underlying52 (by kernel_rfl) (by kernel_rfl) (hval 0 52 v0 rfl rfl) h0
  obtain ⟨A0_0, len0_0, cap0_0, hcs0_0⟩ := slice_form Try.underlying50 hy0_0
  simp at hcs0_0
  subst hcs0_0
  obtain ⟨l0_0, rfl, hr0_0, hm0_0, hw0_0, hc0_0⟩ := segs_of Try.underlying50 Try.underlying94 (by kernel_rfl) (by kernel_rfl) Try.underlying9 Try.underlying3 hy0_0
  obtain ⟨a0_1, e0_1, rfl, w0_1⟩ := DataW.trod_int Try.underlying3 hy0_1
  simp at e0_1
  subst e0_1
  clear hA0 hval0 hsz0
  obtain ⟨k, hk⟩ := Pure.FnExactLoose l0_0 a0_1 hm0_0 hw0_0 w0_1
  refine (PFnExactLoose.laws_FnExactLoose.calls k A0_0 cap0_0 l0_0 a0_1 true W hr0_0 hc0_0 hk).mono fun e W' ⟨he, bel0⟩ => ?_
  have bel : Below W.heap.size W W' := bel0
  subst he
  exact ⟨_, rfl, _, _, _, [], _, [], hW', trodAll_mk1 (shut_bool Try.underlying4 _), (trodAll_cons_mk (Below.trod laidOut (by kernel_rfl) (of_decide_eq_true (by kernel_rfl)) k0 bel lt0) trodAll_mk0), rfl, bel.frame _, fun h => by cases h⟩
theorem over : Rows.fnExactLooseRow.holds Try.pinned (OpenSpec.ofChange Rows.fnExactLooseSpec) :=
  OpenClaim.holds_of_wide 10 Try.f10 rfl rfl rfl rfl rfl rfl rfl ⟨rfl, rfl, rfl, rfl, rfl⟩ rfl rfl rfl rfl rfl (by kernel_rfl) Try.func10 (by kernel_rfl)
    (of_decide_eq_true (by kernel_rfl)) (by unfold Func.isWrapper; first | (rw [if_pos (by decide +kernel)]; kernel_rfl) | (rw [if_neg (by decide +kernel)]; exact ⟨rfl, rfl⟩))
    (fun os started H enc _ => lifted os started H enc)
theorem proved : Rows.FnExactLooseSaid := over
#print axioms proved
end Go.Proofs.Ytmplhlimccgcdaa.fnExactLoose
namespace Go.Proofs.Ytmplhlimccgcdaa
/-- The row, under a short name, for the claim. -/
theorem fnExactLoose_holds : Rows.FnExactLooseSaid := fnExactLoose.proved
end Go.Proofs.Ytmplhlimccgcdaa
