/- What the readers of the shorter dates find; no program in sight, no condition. -/
import Derived.Test.YtgjbhdfncappdaaDoorPlaces
namespace Go.Proofs.YtgjbhdfncappdaaDoor.Reads
set_option linter.unusedVariables false
set_option linter.unusedSimpArgs false
open Go.Proofs.YtgjbhdfncappdaaDoor.Dates Go.Proofs.YtgjbhdfncappdaaDoor.Pads Go.Proofs.YtgjbhdfncappdaaDoor.Formats Go.Proofs.YtgjbhdfncappdaaDoor.Finds Go.Proofs.YtgjbhdfncappdaaDoor.Places
theorem cut_length (l : List Int) (a b : Nat) (h : b ≤ l.length) : (cut l a b).length = b - a := by unfold cut; simp; omega
theorem cut_mem {l : List Int} {a b : Nat} {x : Int} (h : x ∈ cut l a b) : x ∈ l := List.mem_of_mem_drop (List.mem_of_mem_take h)
def allDig (l : List Int) : Prop := ∀ x ∈ l, 48 ≤ x ∧ x ≤ 57
theorem numL_dig {l : List Int} (h : allDig l) : numL l = valL l := numA_digits l 0 h
theorem stamp_dig (t : Int) : allDig (stampL t) := by
  intro x hx
  simp only [stampL, List.mem_append] at hx
  rcases hx with h | h | h | h | h | h <;> exact padL_digit _ _ x h
theorem stamp_cuts (t : Int) : cut (stampL t) 0 4 = padL 4 (yr t) ∧ cut (stampL t) 4 6 = padL 2 (mo t) ∧ cut (stampL t) 6 8 = padL 2 (da t) ∧ cut (stampL t) 8 10 = padL 2 (ho t) ∧ cut (stampL t) 10 12 = padL 2 (mi t) ∧ cut (stampL t) 12 14 = padL 2 (se t) := by
  refine ⟨?_, ?_, ?_, ?_, ?_, ?_⟩
  · exact piece (A := []) (B := padL 4 (yr t)) rfl (by rw [padL_length])
  · exact piece (A := padL 4 (yr t)) (by rw [padL_length]) (by rw [padL_length])
  · rw [show stampL t = (padL 4 (yr t) ++ padL 2 (mo t)) ++ (padL 2 (da t) ++ (padL 2 (ho t) ++ (padL 2 (mi t) ++ padL 2 (se t)))) by simp only [stampL, List.append_assoc]]
    exact piece (by simp [padL_length]) (by rw [padL_length])
  · rw [show stampL t = (padL 4 (yr t) ++ (padL 2 (mo t) ++ padL 2 (da t))) ++ (padL 2 (ho t) ++ (padL 2 (mi t) ++ padL 2 (se t))) by simp only [stampL, List.append_assoc]]
    exact piece (by simp [padL_length]) (by rw [padL_length])
  · rw [show stampL t = (padL 4 (yr t) ++ (padL 2 (mo t) ++ (padL 2 (da t) ++ padL 2 (ho t)))) ++ (padL 2 (mi t) ++ padL 2 (se t)) by simp only [stampL, List.append_assoc]]
    exact piece (by simp [padL_length]) (by rw [padL_length])
  · rw [show stampL t = (padL 4 (yr t) ++ (padL 2 (mo t) ++ (padL 2 (da t) ++ (padL 2 (ho t) ++ padL 2 (mi t))))) ++ padL 2 (se t) by simp only [stampL, List.append_assoc]]
    exact piece_end (by simp [padL_length]) (by rw [padL_length])
theorem glue (l : List Int) (a b : Nat) (h : a ≤ b) : l.take a ++ cut l a b = l.take b := by
  unfold cut
  rw [← List.take_add, show a + (b - a) = b by omega]
theorem stamp_parts {l : List Int} (hl : l.length = 14) : l = cut l 0 4 ++ (cut l 4 6 ++ (cut l 6 8 ++ (cut l 8 10 ++ (cut l 10 12 ++ cut l 12 14)))) := by
  have h0 : cut l 0 4 = l.take 4 := by unfold cut; simp
  rw [h0, ← List.append_assoc, glue l 4 6 (by decide), ← List.append_assoc, glue l 6 8 (by decide), ← List.append_assoc, glue l 8 10 (by decide), ← List.append_assoc, glue l 10 12 (by decide), glue l 12 14 (by decide), ← hl, List.take_length]
theorem pad_cut {l : List Int} (h : allDig l) (a b k : Nat) (hb : b ≤ l.length) (hk : b - a = k) : padL k (valL (cut l a b)) = cut l a b :=
  pad_valL k _ (by rw [cut_length l a b hb, hk]) (fun x hx => h x (cut_mem hx))
/-- digits that tell a day and an hour are the stamp of its time -/
theorem stamp_back {l : List Int} (hl : l.length = 14) (h : allDig l) (k : okC (valL (cut l 0 4)) (valL (cut l 4 6)) (valL (cut l 6 8)) (valL (cut l 8 10)) (valL (cut l 10 12)) (valL (cut l 12 14))) :
    stampL (secs (valL (cut l 0 4)) (valL (cut l 4 6)) (valL (cut l 6 8)) (valL (cut l 8 10)) (valL (cut l 10 12)) (valL (cut l 12 14))) = l := by
  obtain ⟨e1, e2, e3, e4, e5, e6⟩ := secs_civ k
  unfold stampL; rw [e1, e2, e3, e4, e5, e6]
  rw [pad_cut h 0 4 4 (by omega) rfl, pad_cut h 4 6 2 (by omega) rfl, pad_cut h 6 8 2 (by omega) rfl, pad_cut h 8 10 2 (by omega) rfl, pad_cut h 10 12 2 (by omega) rfl, pad_cut h 12 14 2 (by omega) rfl]
  exact (stamp_parts hl).symm
theorem stamp_vals {t : Int} (h : isT t) : valL (cut (stampL t) 0 4) = yr t ∧ valL (cut (stampL t) 4 6) = mo t ∧ valL (cut (stampL t) 6 8) = da t ∧ valL (cut (stampL t) 8 10) = ho t ∧ valL (cut (stampL t) 10 12) = mi t ∧ valL (cut (stampL t) 12 14) = se t := by
  obtain ⟨h1, h2, h3, h4, h5, h6⟩ := parts h
  obtain ⟨c1, c2, c3, c4, c5, c6⟩ := stamp_cuts t
  rw [c1, c2, c3, c4, c5, c6]
  exact ⟨valL_pad 4 _ (by omega) (by show _ < (10000 : Int); omega), valL_pad 2 _ (by omega) (by show _ < (100 : Int); omega), valL_pad 2 _ (by omega) (by show _ < (100 : Int); omega), valL_pad 2 _ (by omega) (by show _ < (100 : Int); omega), valL_pad 2 _ (by omega) (by show _ < (100 : Int); omega), valL_pad 2 _ (by omega) (by show _ < (100 : Int); omega)⟩
instance (l : List Int) : Decidable (allDig l) := by unfold allDig; infer_instance
/-- what a stamp's readers answer -/
def stampOk (l : List Int) : Prop := l.length = 14 ∧ allDig l ∧ okC (valL (cut l 0 4)) (valL (cut l 4 6)) (valL (cut l 6 8)) (valL (cut l 8 10)) (valL (cut l 10 12)) (valL (cut l 12 14))
instance (l : List Int) : Decidable (stampOk l) := by unfold stampOk; infer_instance
def stampT (l : List Int) : Int := secs (valL (cut l 0 4)) (valL (cut l 4 6)) (valL (cut l 6 8)) (valL (cut l 8 10)) (valL (cut l 10 12)) (valL (cut l 12 14))
theorem stamp_of {t : Int} (h : isT t) : stampOk (stampL t) ∧ stampT (stampL t) = t := by
  obtain ⟨e1, e2, e3, e4, e5, e6⟩ := stamp_vals h
  refine ⟨⟨stamp_length t, stamp_dig t, ?_⟩, ?_⟩
  · rw [e1, e2, e3, e4, e5, e6]; exact civ_ok h
  · unfold stampT; rw [e1, e2, e3, e4, e5, e6]; exact civ_secs h
theorem stamp_iff (l : List Int) : stampOk l ↔ ∃ t, isT t ∧ l = stampL t := by
  constructor
  · rintro ⟨hl, h, k⟩; exact ⟨_, secs_in k, (stamp_back hl h k).symm⟩
  · rintro ⟨t, h, rfl⟩; exact (stamp_of h).1
theorem stamp_inj {a b : Int} (ha : isT a) (hb : isT b) (h : stampL a = stampL b) : a = b := by
  rw [← (stamp_of ha).2, ← (stamp_of hb).2, h]
/-! the date of records -/
def digs (l : List Int) : List Int := l.filter fun x => decide (48 ≤ x) && decide (x ≤ 57)
theorem digs_pad (k : Nat) (n : Int) : digs (padL k n) = padL k n := by
  unfold digs; apply List.filter_eq_self.mpr; intro x hx; have := padL_digit k n x hx; simp; exact this
theorem digs_app (p q : List Int) : digs (p ++ q) = digs p ++ digs q := by unfold digs; simp
theorem digs_warc (t : Int) : digs (warcL t) = stampL t := by
  simp only [warcL, clockL, stampL, digs_app, digs_pad]
  simp only [show digs [45] = [] by decide, show digs [84] = [] by decide, show digs [58] = [] by decide, show digs [90] = [] by decide, List.nil_append, List.append_nil, List.append_assoc]
theorem warc_inj {a b : Int} (ha : isT a) (hb : isT b) (h : warcL a = warcL b) : a = b := stamp_inj ha hb (by rw [← digs_warc, ← digs_warc, h])
theorem warc_at {t : Int} (h : isT t) : numL (cut (warcL t) 0 4) = yr t ∧ numL (cut (warcL t) 5 7) = mo t ∧ numL (cut (warcL t) 8 10) = da t ∧ cut (warcL t) 11 19 = clockL t := by
  obtain ⟨h1, h2, h3, h4, h5, h6⟩ := parts h
  have c := clock_length t
  refine ⟨?_, ?_, ?_, ?_⟩
  · rw [show cut (warcL t) 0 4 = padL 4 (yr t) from piece (A := []) (B := padL 4 (yr t)) rfl (by rw [padL_length])]; exact numL_pad 4 _ (by omega) (by show _ < (10000 : Int); omega)
  · rw [show cut (warcL t) 5 7 = padL 2 (mo t) from by
      rw [show warcL t = (padL 4 (yr t) ++ [45]) ++ (padL 2 (mo t) ++ ([45] ++ (padL 2 (da t) ++ ([84] ++ (clockL t ++ [90]))))) by simp only [warcL, List.append_assoc]]
      exact piece (by simp only [List.length_append, padL_length, List.length_cons, List.length_nil]) (by rw [padL_length])]
    exact numL_two _ (by omega) (by omega)
  · rw [show cut (warcL t) 8 10 = padL 2 (da t) from by
      rw [show warcL t = (padL 4 (yr t) ++ ([45] ++ (padL 2 (mo t) ++ [45]))) ++ (padL 2 (da t) ++ ([84] ++ (clockL t ++ [90]))) by simp only [warcL, List.append_assoc]]
      exact piece (by simp only [List.length_append, padL_length, List.length_cons, List.length_nil]) (by rw [padL_length])]
    exact numL_two _ (by omega) (by omega)
  · rw [show warcL t = (padL 4 (yr t) ++ ([45] ++ (padL 2 (mo t) ++ ([45] ++ (padL 2 (da t) ++ [84]))))) ++ (clockL t ++ [90]) by simp only [warcL, List.append_assoc]]
    exact piece (by simp only [List.length_append, padL_length, List.length_cons, List.length_nil]) (by rw [c])
/-! order -/
theorem lex_app {p q a b : List Int} (hl : p.length = q.length) (h : List.Lex (· < ·) p q) : List.Lex (· < ·) (p ++ a) (q ++ b) := by
  induction h with
  | nil => simp at hl
  | cons h ih => exact List.Lex.cons (ih (by simpa using hl))
  | rel h => exact List.Lex.rel h
theorem lex_same {p a b : List Int} (h : List.Lex (· < ·) a b) : List.Lex (· < ·) (p ++ a) (p ++ b) := by
  induction p with
  | nil => exact h
  | cons x p ih => exact List.Lex.cons ih
theorem civ_order {a b : Int} (ha : isT a) (hb : isT b) (h : a < b) : yr a < yr b ∨ (yr a = yr b ∧ (mo a < mo b ∨ (mo a = mo b ∧ (da a < da b ∨ (da a = da b ∧ (ho a < ho b ∨ (ho a = ho b ∧ (mi a < mi b ∨ (mi a = mi b ∧ se a < se b))))))))) := by
  have ya := yr_fits ha; have yb := yr_fits hb; have ma := mo_fits ha; have mb := mo_fits hb
  have hd : a / 86400 ≤ b / 86400 := by omega
  have y1 : ¬ yr b < yr a := fun c => by have := dby_mono (show yr b + 1 ≤ yr a by omega); omega
  by_cases y2 : yr a < yr b
  · left; exact y2
  · right
    have y3 : yr a = yr b := by omega
    refine ⟨y3, ?_⟩
    rw [y3] at ma
    have m1 : ¬ mo b < mo a := fun c => by
      have := cum_mono (yr b) (show mo b + 1 ≤ mo a by omega)
      have e1 := ma.2.2.1; have e2 := mb.2.2.2; rw [show a / 86400 - dby (yr b) = a / 86400 - dby (yr b) from rfl] at e1; omega
    by_cases m2 : mo a < mo b
    · left; exact m2
    · right
      have m3 : mo a = mo b := by omega
      refine ⟨m3, ?_⟩
      have da' : da a = a / 86400 - dby (yr b) - cum (yr b) (mo b) + 1 := by unfold da; rw [m3, y3]
      have db' : da b = b / 86400 - dby (yr b) - cum (yr b) (mo b) + 1 := rfl
      unfold ho mi se
      omega
theorem two_lt {k : Nat} {x y : Int} {p q : List Int} (h0 : 0 ≤ x) (h : x < y) (h1 : y < 10 ^ k) : List.Lex (· < ·) (padL k x ++ p) (padL k y ++ q) := lex_app (by rw [padL_length, padL_length]) (pad_lt k x y h0 h h1)
theorem stamp_lt {a b : Int} (ha : isT a) (hb : isT b) (h : a < b) : List.Lex (· < ·) (stampL a) (stampL b) := by
  obtain ⟨a1, a2, a3, a4, a5, a6⟩ := parts ha
  obtain ⟨b1, b2, b3, b4, b5, b6⟩ := parts hb
  have t10 : (10 : Int) ^ 2 = 100 := rfl
  have t40 : (10 : Int) ^ 4 = 10000 := rfl
  unfold stampL
  rcases civ_order ha hb h with c | ⟨e1, c | ⟨e2, c | ⟨e3, c | ⟨e4, c | ⟨e5, c⟩⟩⟩⟩⟩
  · exact two_lt (by omega) c (by omega)
  · rw [e1]; exact lex_same (two_lt (by omega) c (by omega))
  · rw [e1, e2]; exact lex_same (lex_same (two_lt (by omega) c (by omega)))
  · rw [e1, e2, e3]; exact lex_same (lex_same (lex_same (two_lt (by omega) c (by omega))))
  · rw [e1, e2, e3, e4]; exact lex_same (lex_same (lex_same (lex_same (two_lt (by omega) c (by omega)))))
  · rw [e1, e2, e3, e4, e5]; exact lex_same (lex_same (lex_same (lex_same (lex_same (pad_lt 2 _ _ (by omega) c (by omega))))))
theorem warc_lt {a b : Int} (ha : isT a) (hb : isT b) (h : a < b) : List.Lex (· < ·) (warcL a) (warcL b) := by
  obtain ⟨a1, a2, a3, a4, a5, a6⟩ := parts ha
  obtain ⟨b1, b2, b3, b4, b5, b6⟩ := parts hb
  have t10 : (10 : Int) ^ 2 = 100 := rfl
  have t40 : (10 : Int) ^ 4 = 10000 := rfl
  unfold warcL clockL
  simp only [List.append_assoc]
  rcases civ_order ha hb h with c | ⟨e1, c | ⟨e2, c | ⟨e3, c | ⟨e4, c | ⟨e5, c⟩⟩⟩⟩⟩
  · exact two_lt (by omega) c (by omega)
  · rw [e1]; exact lex_same (lex_same (two_lt (by omega) c (by omega)))
  · rw [e1, e2]; exact lex_same (lex_same (lex_same (lex_same (two_lt (by omega) c (by omega)))))
  · rw [e1, e2, e3]; exact lex_same (lex_same (lex_same (lex_same (lex_same (lex_same (two_lt (by omega) c (by omega)))))))
  · rw [e1, e2, e3, e4]; exact lex_same (lex_same (lex_same (lex_same (lex_same (lex_same (lex_same (lex_same (two_lt (by omega) c (by omega)))))))))
  · rw [e1, e2, e3, e4, e5]; exact lex_same (lex_same (lex_same (lex_same (lex_same (lex_same (lex_same (lex_same (lex_same (lex_same (two_lt (by omega) c (by omega)))))))))))
end Go.Proofs.YtgjbhdfncappdaaDoor.Reads
