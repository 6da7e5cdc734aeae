/- The law FnExactUnquote answers true for every text: both results are the same. No condition. -/
import Derived.Test.YtcehnamlnbhhnaaQFnExactUnquotex2
import Derived.Test.YtcehnamlnbhhnaaBase
namespace Go.Proofs.Ytcehnamlnbhhnaa.Pure
open Go.RowKit Go.Proofs.Ytcehnamlnbhhnaa.PFnExactUnquote Go.Proofs.YtcehnamlnbhhnaaW.PrintWords Go.Proofs.YtcehnamlnbhhnaaW.PrintLast Go.Proofs.YtcehnamlnbhhnaaW.PrintMore Go.Proofs.Ytcehnamlnbhhnaa.Base
set_option linter.unusedVariables false
set_option linter.unusedSimpArgs false

/-! Both walks through what stands between the quotes go hand in hand -/
theorem plain_same (x : Int) : impl_isPlain.f x = spec_l1plain.f x := rfl
theorem plain_some (x : Int) : ∃ b, spec_l1plain.f x = some b := by
  unfold spec_l1plain.f
  split
  · exact ⟨_, rfl⟩
  · split <;> exact ⟨_, rfl⟩
theorem unq_loops (s : ByteArray) (hb : s.size ≤ 140737488351232) : ∀ (d i : Nat) (acc : List Int), i + d = s.size → acc.length ≤ i →
    ∃ r, Ev (fun k => spec_Unquote.l0 k acc s (i : Int)) r ∧ Ev (fun k => impl_Unquote.l0 k s acc (i : Int)) r ∧ (i ≤ 2 * acc.length → 8000 < s.size → r = ((⟨#[]⟩ : ByteArray), false)) := by
  intro d
  induction d using Nat.strongRecOn with
  | _ d ih =>
    intro i acc hd ha
    have w1 : wrap64 ((i : Int) + 1) = ((i + 1 : Nat) : Int) := by rw [w64 (by omega) (by omega)]; omega
    by_cases hi : i < s.size
    · by_cases h92 : bt s (i : Int) = 92
      · have h34 : ¬ bt s (i : Int) = 34 := by omega
        by_cases he : i + 1 = s.size
        · refine ⟨_, Ev.step (fun k => spec_Unquote.l0.eq_2 _ _ _ k) (Ev.pos (by omega) (Ev.pos (by omega) (Ev.pos h92 (Ev.pos (by rw [w1]; omega) (Ev.now _))))), Ev.step (fun k => impl_Unquote.l0.eq_2 _ _ _ k) (Ev.pos (by omega) (Ev.pos (by omega) (Ev.neg h34 (Ev.pos h92 (Ev.pos (by rw [w1]; omega) (Ev.now _)))))), fun _ _ => rfl⟩
        · have w2 : wrap64 (((i + 1 : Nat) : Int) + 1) = ((i + 2 : Nat) : Int) := by rw [w64 (by omega) (by omega)]; omega
          obtain ⟨b, hp⟩ := plain_some (bt s ((i + 1 : Nat) : Int))
          cases b with
          | true =>
            obtain ⟨r, h1, h2, h3⟩ := ih (d - 2) (by omega) (i + 2) (acc ++ [bt s ((i + 1 : Nat) : Int)]) (by omega) (by simp; omega)
            refine ⟨r, Ev.step (fun k => spec_Unquote.l0.eq_2 _ _ _ k) ?_, Ev.step (fun k => impl_Unquote.l0.eq_2 _ _ _ k) ?_, fun p q => h3 (by simp; omega) q⟩
            · rw [w1, w2]
              exact Ev.pos (by omega) (Ev.pos (by omega) (Ev.pos h92 (Ev.neg (by omega) (Ev.pos (by omega) (Ev.pos (by omega) (Ev.told hp (Ev.pos rfl (Ev.pos (by omega) h1))))))))
            · rw [w1, w2]
              exact Ev.pos (by omega) (Ev.pos (by omega) (Ev.neg h34 (Ev.pos h92 (Ev.neg (by omega) (Ev.pos (by omega) (Ev.pos (by omega) (Ev.told hp (Ev.pos rfl (Ev.pos (by omega) h2)))))))))
          | false =>
            refine ⟨((⟨#[]⟩ : ByteArray), false), Ev.step (fun k => spec_Unquote.l0.eq_2 _ _ _ k) ?_, Ev.step (fun k => impl_Unquote.l0.eq_2 _ _ _ k) ?_, fun _ _ => rfl⟩
            · rw [w1]
              exact Ev.pos (by omega) (Ev.pos (by omega) (Ev.pos h92 (Ev.neg (by omega) (Ev.pos (by omega) (Ev.pos (by omega) (Ev.told hp (Ev.neg (by simp) (Ev.now _))))))))
            · rw [w1]
              exact Ev.pos (by omega) (Ev.pos (by omega) (Ev.neg h34 (Ev.pos h92 (Ev.neg (by omega) (Ev.pos (by omega) (Ev.pos (by omega) (Ev.told hp (Ev.neg (by simp) (Ev.now _)))))))))
      · by_cases h34 : bt s (i : Int) = 34
        · refine ⟨_, Ev.step (fun k => spec_Unquote.l0.eq_2 _ _ _ k) (Ev.pos (by omega) (Ev.pos (by omega) (Ev.neg h92 (Ev.pos h34 (Ev.now _))))), Ev.step (fun k => impl_Unquote.l0.eq_2 _ _ _ k) (Ev.pos (by omega) (Ev.pos (by omega) (Ev.pos h34 (Ev.now _)))), fun _ _ => rfl⟩
        · obtain ⟨b, hp⟩ := plain_some (bt s (i : Int))
          cases b with
          | true =>
            obtain ⟨r, h1, h2, h3⟩ := ih (d - 1) (by omega) (i + 1) (acc ++ [bt s (i : Int)]) (by omega) (by simp; omega)
            refine ⟨r, Ev.step (fun k => spec_Unquote.l0.eq_2 _ _ _ k) ?_, Ev.step (fun k => impl_Unquote.l0.eq_2 _ _ _ k) ?_, fun p q => h3 (by simp; omega) q⟩
            · rw [w1]
              exact Ev.pos (by omega) (Ev.pos (by omega) (Ev.neg h92 (Ev.neg h34 (Ev.told hp (Ev.pos rfl (Ev.pos (by omega) h1))))))
            · rw [w1]
              exact Ev.pos (by omega) (Ev.pos (by omega) (Ev.neg h34 (Ev.neg h92 (Ev.neg (by omega) (Ev.told hp (Ev.pos rfl (Ev.pos (by omega) h2)))))))
          | false =>
            exact ⟨_, Ev.step (fun k => spec_Unquote.l0.eq_2 _ _ _ k) (Ev.pos (by omega) (Ev.pos (by omega) (Ev.neg h92 (Ev.neg h34 (Ev.told hp (Ev.neg (by simp) (Ev.now _))))))), Ev.step (fun k => impl_Unquote.l0.eq_2 _ _ _ k) (Ev.pos (by omega) (Ev.pos (by omega) (Ev.neg h34 (Ev.neg h92 (Ev.neg (by omega) (Ev.told hp (Ev.neg (by simp) (Ev.now _)))))))), fun _ _ => rfl⟩
    · by_cases h4 : (acc.length : Int) > 4000
      · exact ⟨_, Ev.step (fun k => spec_Unquote.l0.eq_2 _ _ _ k) (Ev.neg (by omega) (Ev.pos h4 (Ev.now _))), Ev.step (fun k => impl_Unquote.l0.eq_2 _ _ _ k) (Ev.neg (by omega) (Ev.pos h4 (Ev.now _))), fun _ _ => rfl⟩
      · exact ⟨_, Ev.step (fun k => spec_Unquote.l0.eq_2 _ _ _ k) (Ev.neg (by omega) (Ev.neg h4 (Ev.now _))), Ev.step (fun k => impl_Unquote.l0.eq_2 _ _ _ k) (Ev.neg (by omega) (Ev.neg h4 (Ev.now _))), fun p q => by omega⟩
theorem unq_j0 (s : ByteArray) (h2 : 2 ≤ s.size) (hb : s.size ≤ 140737488351232) :
    ∃ r, Ev (fun k => spec_Unquote.j0 k s false) r ∧ Ev (fun k => impl_Unquote.j0 k s false) r ∧ (8002 < s.size → r = ((⟨#[]⟩ : ByteArray), false)) := by
  have hw : wrap64 ((s.size : Int) - 1) = ((s.size - 1 : Nat) : Int) := by rw [w64 (by omega) (by omega)]; omega
  have hz : (s.extract 1 (s.size - 1)).size = s.size - 2 := by rw [size_extract _ _ _ (by omega)]; omega
  obtain ⟨r, h3, h4, h5⟩ := unq_loops (s.extract 1 (s.size - 1)) (by omega) (s.size - 2) 0 [] (by omega) (by simp)
  refine ⟨r, Ev.step (fun k => spec_Unquote.j0.eq_2 _ _ k) ?_, Ev.step (fun k => impl_Unquote.j0.eq_2 _ _ k) ?_, fun h => h5 (by simp) (by omega)⟩
  · rw [hw, Int.toNat_natCast]
    exact Ev.neg (by simp) (Ev.pos (by omega) (Ev.pos (by omega) h3))
  · rw [hw, Int.toNat_natCast]
    exact Ev.neg (by simp) (Ev.pos (by omega) (Ev.pos (by omega) h4))
theorem unq_true (s : ByteArray) : Ev (fun k => spec_Unquote.j0 k s true) ((⟨#[]⟩ : ByteArray), false) ∧ Ev (fun k => impl_Unquote.j0 k s true) ((⟨#[]⟩ : ByteArray), false) :=
  ⟨Ev.step (fun k => spec_Unquote.j0.eq_2 _ _ k) (Ev.pos rfl (Ev.now _)), Ev.step (fun k => impl_Unquote.j0.eq_2 _ _ k) (Ev.pos rfl (Ev.now _))⟩
theorem unq_same (s : ByteArray) (hb : s.size ≤ 140737488351232) : ∃ r, Ev (fun k => spec_Unquote.f k s) r ∧ Ev (fun k => impl_Unquote.f k s) r := by
  obtain ⟨t1, t2⟩ := unq_true s
  unfold spec_Unquote.f impl_Unquote.f
  by_cases h2 : (s.size : Int) < 2
  · exact ⟨_, Ev.pos h2 t1, Ev.pos h2 t2⟩
  · have hw : wrap64 ((s.size : Int) - 1) = ((s.size - 1 : Nat) : Int) := by rw [w64 (by omega) (by omega)]; omega
    rw [hw]
    obtain ⟨r, h3, h4, h5⟩ := unq_j0 s (by omega) hb
    by_cases hq : bt s 0 = 34
    · by_cases he : (bt s ((s.size - 1 : Nat) : Int) != 34) = true
      · rw [he]
        by_cases h8 : (s.size : Int) > 8002
        · exact ⟨_, Ev.neg h2 (Ev.pos h8 t1), Ev.neg h2 (Ev.pos (by omega) (Ev.pos hq (Ev.pos (by omega) (Ev.pos (by omega) t2))))⟩
        · exact ⟨_, Ev.neg h2 (Ev.neg h8 (Ev.pos (by omega) (Ev.pos hq (Ev.pos (by omega) (Ev.pos (by omega) t1))))), Ev.neg h2 (Ev.pos (by omega) (Ev.pos hq (Ev.pos (by omega) (Ev.pos (by omega) t2))))⟩
      · have he : (bt s ((s.size - 1 : Nat) : Int) != 34) = false := by simpa using he
        rw [he]
        by_cases h8 : (s.size : Int) > 8002
        · rw [h5 (by omega)] at h4
          exact ⟨_, Ev.neg h2 (Ev.pos h8 t1), Ev.neg h2 (Ev.pos (by omega) (Ev.pos hq (Ev.pos (by omega) (Ev.pos (by omega) h4))))⟩
        · exact ⟨_, Ev.neg h2 (Ev.neg h8 (Ev.pos (by omega) (Ev.pos hq (Ev.pos (by omega) (Ev.pos (by omega) h3))))), Ev.neg h2 (Ev.pos (by omega) (Ev.pos hq (Ev.pos (by omega) (Ev.pos (by omega) h4))))⟩
    · by_cases h8 : (s.size : Int) > 8002
      · exact ⟨_, Ev.neg h2 (Ev.pos h8 t1), Ev.neg h2 (Ev.pos (by omega) (Ev.neg hq t2))⟩
      · exact ⟨_, Ev.neg h2 (Ev.neg h8 (Ev.pos (by omega) (Ev.neg hq t1))), Ev.neg h2 (Ev.pos (by omega) (Ev.neg hq t2))⟩

theorem FnExactUnquote : laws_FnExactUnquote.Pure := by
  intro s hs
  apply Ev.rounds
  show Ev (fun k => if (s.size : Int) > 1048576 then (some true) else ((spec_Unquote.f k s).bind fun bt117 => ((impl_Unquote.f k s).bind fun bt119 => (if bt119.1.toList = bt117.1.toList then (if (bt119.2 != bt117.2) = true then (some false) else (some true)) else (some false))))) true
  by_cases h : (s.size : Int) > 1048576
  · exact Ev.pos h (Ev.now _)
  · obtain ⟨r, h1, h2⟩ := unq_same s hs
    exact Ev.neg h (Ev.bind h1 (Ev.bind h2 (Ev.pos rfl (Ev.neg (by simp) (Ev.now _)))))

end Go.Proofs.Ytcehnamlnbhhnaa.Pure
