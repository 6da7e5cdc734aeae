/- What is found in a time's text: its comma, its dash, its month; and the places of its parts; no program in sight, no condition. -/
import Derived.Test.YtgjbhdfncappdaaDoorFormats
namespace Go.Proofs.YtgjbhdfncappdaaDoor.Finds
set_option linter.unusedVariables false
set_option linter.unusedSimpArgs false
open Go.Proofs.YtgjbhdfncappdaaDoor.Dates Go.Proofs.YtgjbhdfncappdaaDoor.Pads Go.Proofs.YtgjbhdfncappdaaDoor.Formats
/-- the first place of a byte, -1 without one -/
def idxL : List Int → Int → Int
  | [], _ => -1
  | x :: xs, c => if x = c then 0 else if idxL xs c = -1 then -1 else idxL xs c + 1
theorem idx_ge : ∀ (q : List Int) (c : Int), -1 ≤ idxL q c
  | [], _ => by simp [idxL]
  | y :: q, c => by
    have ih := idx_ge q c
    simp only [idxL]
    by_cases h : y = c
    · rw [if_pos h]; omega
    · rw [if_neg h]
      by_cases e : idxL q c = -1
      · rw [if_pos e]; omega
      · rw [if_neg e]; omega
theorem idx_skip : ∀ (p q : List Int) (c : Int), (∀ x ∈ p, x ≠ c) → idxL (p ++ q) c = if idxL q c = -1 then -1 else idxL q c + p.length
  | [], q, c, _ => by simp only [List.nil_append, List.length_nil]; split <;> omega
  | x :: p, q, c, h => by
    have ih := idx_skip p q c (fun y hy => h y (by simp [hy]))
    have hg := idx_ge q c
    simp only [List.cons_append, idxL, ih]
    rw [if_neg (h x (by simp))]
    by_cases e : idxL q c = -1
    · simp [e]
    · rw [if_neg e, if_neg e, if_neg (by omega)]; simp only [List.length_cons]; omega
theorem idx_far {p q : List Int} {c : Int} (hp : ∀ x ∈ p, x ≠ c) (h : 0 ≤ idxL q c) : 0 ≤ idxL (p ++ q) c := by
  rw [idx_skip p q c hp, if_neg (by omega)]; omega
theorem idx_none : ∀ (l : List Int) (c : Int), (∀ x ∈ l, x ≠ c) → idxL l c = -1
  | [], _, _ => rfl
  | x :: l, c, h => by simp only [idxL]; rw [if_neg (h x (by simp)), idx_none l c (fun y hy => h y (by simp [hy]))]; simp
/-! a text found in a text -/
def atHead : List Int → List Int → Bool
  | [], _ => true
  | _ :: _, [] => false
  | p :: ps, x :: xs => p == x && atHead ps xs
def hasL : List Int → List Int → Bool
  | [], p => atHead p []
  | x :: xs, p => atHead p (x :: xs) || hasL xs p
/-- the class of a byte: digits are alike -/
def cls (x : Int) : Int := if 48 ≤ x ∧ x ≤ 57 then 48 else x
theorem cls_eq {p x : Int} (hp : ¬ (48 ≤ p ∧ p ≤ 57)) : (p == cls x) = (p == x) := by
  unfold cls; split
  · rw [Bool.eq_iff_iff]; simp; constructor <;> intro h <;> omega
  · rfl
theorem atHead_cls : ∀ (p l : List Int), (∀ x ∈ p, ¬ (48 ≤ x ∧ x ≤ 57)) → atHead p (l.map cls) = atHead p l
  | [], _, _ => by simp [atHead]
  | _ :: _, [], _ => rfl
  | p :: ps, x :: xs, h => by simp only [List.map_cons, atHead]; rw [cls_eq (h p (by simp)), atHead_cls ps xs (fun y hy => h y (by simp [hy]))]
theorem hasL_cls : ∀ (l p : List Int), (∀ x ∈ p, ¬ (48 ≤ x ∧ x ≤ 57)) → hasL (l.map cls) p = hasL l p
  | [], p, _ => rfl
  | x :: l, p, h => by
    have a := atHead_cls p (x :: l) h
    simp only [List.map_cons] at a
    simp only [List.map_cons, hasL]; rw [a, hasL_cls l p h]
/-- the first month whose name is found, 0 without one -/
def monthIn (l : List Int) : Int := if hasL l (mname 1) then 1 else if hasL l (mname 2) then 2 else if hasL l (mname 3) then 3 else if hasL l (mname 4) then 4 else if hasL l (mname 5) then 5 else if hasL l (mname 6) then 6 else if hasL l (mname 7) then 7 else if hasL l (mname 8) then 8 else if hasL l (mname 9) then 9 else if hasL l (mname 10) then 10 else if hasL l (mname 11) then 11 else if hasL l (mname 12) then 12 else 0
theorem monthIn_cls (l : List Int) : monthIn (l.map cls) = monthIn l := by
  unfold monthIn
  iterate 12 rw [hasL_cls l _ (mname_noDig (by decide))]
theorem cls_pad : ∀ (k : Nat) (n : Int), (padL k n).map cls = List.replicate k 48
  | 0, _ => rfl
  | k + 1, n => by
    simp only [padL, List.map_append, cls_pad k, List.map_cons, List.map_nil]
    rw [show cls (48 + n % 10) = 48 by unfold cls; rw [if_pos (by omega)], List.replicate_succ']
theorem months_all (p : Int → Bool) (h : ([1, 2, 3, 4, 5, 6, 7, 8, 9, 10, 11, 12] : List Int).all p = true) {m : Int} (hm : 1 ≤ m ∧ m ≤ 12) : p m = true := by
  have := List.all_eq_true.mp h m (by
    obtain h | h | h | h | h | h | h | h | h | h | h | h : m = 1 ∨ m = 2 ∨ m = 3 ∨ m = 4 ∨ m = 5 ∨ m = 6 ∨ m = 7 ∨ m = 8 ∨ m = 9 ∨ m = 10 ∨ m = 11 ∨ m = 12 := by omega
    all_goals subst h; decide)
  exact this
def clkC : List Int := [48, 48, 58, 48, 48, 58, 48, 48]
theorem cls_clock (t : Int) : (clockL t).map cls = clkC := by
  unfold clockL clkC; simp only [List.map_append, cls_pad]; rfl
theorem cls_month {m : Int} (hm : 1 ≤ m ∧ m ≤ 12) : (mname m).map cls = mname m := by
  have := names12_all (p := fun l => l.map cls == l) (by decide) hm; simpa using this
theorem month_http {t : Int} (h : isT t) : monthIn ([44, 32] ++ (padL 2 (da t) ++ ([32] ++ (mname (mo t) ++ ([32] ++ (padL 4 (yr t) ++ ([32] ++ (clockL t ++ gmt)))))))) = mo t := by
  obtain ⟨h1, h2, h3, h4, h5, h6⟩ := parts h
  rw [← monthIn_cls]
  simp only [List.map_append, cls_pad, cls_clock, cls_month h2]
  have := months_all (fun m => monthIn (([44, 32] : List Int).map cls ++ (List.replicate 2 48 ++ (([32] : List Int).map cls ++ (mname m ++ (([32] : List Int).map cls ++ (List.replicate 4 48 ++ (([32] : List Int).map cls ++ (clkC ++ gmt.map cls)))))))) == m) (by decide +kernel) h2
  simpa using this
theorem month_long {t : Int} (h : isT t) : monthIn ([44, 32] ++ (padL 2 (da t) ++ ([45] ++ (mname (mo t) ++ ([45] ++ (padL 2 (yr t) ++ ([32] ++ (clockL t ++ gmt)))))))) = mo t := by
  obtain ⟨h1, h2, h3, h4, h5, h6⟩ := parts h
  rw [← monthIn_cls]
  simp only [List.map_append, cls_pad, cls_clock, cls_month h2]
  have := months_all (fun m => monthIn (([44, 32] : List Int).map cls ++ (List.replicate 2 48 ++ (([45] : List Int).map cls ++ (mname m ++ (([45] : List Int).map cls ++ (List.replicate 2 48 ++ (([32] : List Int).map cls ++ (clkC ++ gmt.map cls)))))))) == m) (by decide +kernel) h2
  simpa using this
theorem cls_day2 {d : Int} (h : 1 ≤ d ∧ d ≤ 31) : (day2 d).map cls = [32, 48] ∨ (day2 d).map cls = [48, 48] := by
  unfold day2
  split
  · left; simp only [List.map_cons, List.map_nil, cls]; rw [if_neg (by decide), if_pos (by omega)]
  · right; rw [cls_pad]; rfl
theorem month_line {t : Int} (h : isT t) : monthIn ([32] ++ (mname (mo t) ++ ([32] ++ (day2 (da t) ++ ([32] ++ (clockL t ++ ([32] ++ padL 4 (yr t)))))))) = mo t := by
  obtain ⟨h1, h2, h3, h4, h5, h6⟩ := parts h
  rw [← monthIn_cls]
  simp only [List.map_append, cls_pad, cls_clock, cls_month h2]
  rcases cls_day2 h3 with e | e
  · rw [e]
    have := months_all (fun m => monthIn (([32] : List Int).map cls ++ (mname m ++ (([32] : List Int).map cls ++ ([32, 48] ++ (([32] : List Int).map cls ++ (clkC ++ (([32] : List Int).map cls ++ List.replicate 4 48))))))) == m) (by decide +kernel) h2
    simpa using this
  · rw [e]
    have := months_all (fun m => monthIn (([32] : List Int).map cls ++ (mname m ++ (([32] : List Int).map cls ++ ([48, 48] ++ (([32] : List Int).map cls ++ (clkC ++ (([32] : List Int).map cls ++ List.replicate 4 48))))))) == m) (by decide +kernel) h2
    simpa using this
/-! commas and dashes -/
theorem no_byte {l : List Int} {c : Int} (hc : ¬ (48 ≤ c ∧ c ≤ 57)) (h : ((l.map cls).all fun x => x != c) = true) : ∀ x ∈ l, x ≠ c := by
  intro x hx e
  subst e
  have := List.all_eq_true.mp h (cls x) (List.mem_map_of_mem hx)
  unfold cls at this; rw [if_neg hc] at this; simp at this
def byteNames (c : Int) : Bool := names7.all (fun l => l.all fun x => x != c) && names12.all (fun l => l.all fun x => x != c)
theorem dname_not {c w : Int} (hb : byteNames c = true) (hw : 0 ≤ w ∧ w ≤ 6) : ∀ x ∈ dname w, x ≠ c := by
  unfold byteNames at hb; rw [Bool.and_eq_true] at hb
  have := names7_all (p := fun l => l.all fun x => x != c) hb.1 hw
  intro x hx; have := List.all_eq_true.mp this x hx; simpa using this
theorem mname_not {c m : Int} (hb : byteNames c = true) (hm : 1 ≤ m ∧ m ≤ 12) : ∀ x ∈ mname m, x ≠ c := by
  unfold byteNames at hb; rw [Bool.and_eq_true] at hb
  have := names12_all (p := fun l => l.all fun x => x != c) hb.2 hm
  intro x hx; have := List.all_eq_true.mp this x hx; simpa using this
theorem pad_not {c : Int} (hc : ¬ (48 ≤ c ∧ c ≤ 57)) (k : Nat) (n : Int) : ∀ x ∈ padL k n, x ≠ c := by
  intro x hx e; have := padL_digit k n x hx; omega
theorem app_not {c : Int} {p q : List Int} (hp : ∀ x ∈ p, x ≠ c) (hq : ∀ x ∈ q, x ≠ c) : ∀ x ∈ p ++ q, x ≠ c := by
  intro x hx; rcases List.mem_append.mp hx with h | h; exact hp x h; exact hq x h
theorem lit_not {c : Int} {p : List Int} (h : (p.all fun x => x != c) = true) : ∀ x ∈ p, x ≠ c := by
  intro x hx; have := List.all_eq_true.mp h x hx; simpa using this
theorem clock_not {c : Int} (hc : ¬ (48 ≤ c ∧ c ≤ 57)) (h58 : c ≠ 58) (t : Int) : ∀ x ∈ clockL t, x ≠ c := by
  unfold clockL
  exact app_not (pad_not hc _ _) (app_not (by simpa using fun e => h58 e.symm) (app_not (pad_not hc _ _) (app_not (by simpa using fun e => h58 e.symm) (pad_not hc _ _))))
theorem comma_http {t : Int} : idxL (httpL t) 44 = 3 := by
  unfold httpL
  have hw := wd_in t
  rw [idx_skip _ _ _ (fun x hx => dname_not (by decide) hw x (List.mem_of_mem_take hx))]
  have := dname_length hw
  simp only [List.cons_append, idxL, if_true, List.length_take]
  rw [if_neg (by decide)]; omega
theorem comma_long {t : Int} : idxL (longL t) 44 = (dname (wd t)).length := by
  unfold longL
  have hw := wd_in t
  rw [idx_skip _ _ _ (fun x hx => dname_not (by decide) hw x hx)]
  simp only [List.cons_append, idxL, if_true]
  rw [if_neg (by decide)]; omega
theorem comma_line {t : Int} (h : isT t) : idxL (lineL t) 44 = -1 := by
  obtain ⟨h1, h2, h3, h4, h5, h6⟩ := parts h
  unfold lineL
  refine idx_none _ _ (app_not (fun x hx => dname_not (by decide) (wd_in t) x (List.mem_of_mem_take hx)) (app_not (lit_not (by decide)) (app_not (mname_not (by decide) h2) (app_not (lit_not (by decide)) (app_not ?_ (app_not (lit_not (by decide)) (app_not (clock_not (by decide) (by decide) t) (app_not (lit_not (by decide)) (pad_not (by decide) _ _)))))))))
  unfold day2; split
  · intro x hx; simp at hx; omega
  · exact pad_not (by decide) _ _
theorem dash_http {t : Int} (h : isT t) : idxL (httpL t) 45 = -1 := by
  obtain ⟨h1, h2, h3, h4, h5, h6⟩ := parts h
  unfold httpL
  exact idx_none _ _ (app_not (fun x hx => dname_not (by decide) (wd_in t) x (List.mem_of_mem_take hx)) (app_not (lit_not (by decide)) (app_not (pad_not (by decide) _ _) (app_not (lit_not (by decide)) (app_not (mname_not (by decide) h2) (app_not (lit_not (by decide)) (app_not (pad_not (by decide) _ _) (app_not (lit_not (by decide)) (app_not (clock_not (by decide) (by decide) t) (lit_not (by decide)))))))))))
theorem dash_long {t : Int} : 0 ≤ idxL (longL t) 45 := by
  unfold longL
  have e1 : ∀ q : List Int, 0 ≤ idxL ([45] ++ q) 45 := fun q => by simp [idxL]
  exact idx_far (dname_not (by decide) (wd_in t)) (idx_far (lit_not (by decide)) (idx_far (pad_not (by decide) _ _) (e1 _)))
theorem http_length {t : Int} (h : isT t) : (httpL t).length = 29 := by
  have a := mname_length (parts h).2.1; have b := dname_length (wd_in t)
  simp only [httpL, clockL, gmt, List.length_append, padL_length, List.length_take, List.length_cons, List.length_nil, a]; omega
theorem line_length {t : Int} (h : isT t) : (lineL t).length = 24 := by
  have a := mname_length (parts h).2.1; have b := dname_length (wd_in t)
  have c : (day2 (da t)).length = 2 := by unfold day2; split <;> simp [padL_length]
  simp only [lineL, clockL, List.length_append, padL_length, List.length_take, List.length_cons, List.length_nil, a, c]; omega
theorem long_length {t : Int} (h : isT t) : (longL t).length = (dname (wd t)).length + 24 := by
  have a := mname_length (parts h).2.1
  simp only [longL, clockL, gmt, List.length_append, padL_length, List.length_cons, List.length_nil, a]
theorem stamp_length (t : Int) : (stampL t).length = 14 := by simp only [stampL, List.length_append, padL_length]
theorem warc_length (t : Int) : (warcL t).length = 20 := by simp only [warcL, clockL, List.length_append, padL_length, List.length_cons, List.length_nil]
end Go.Proofs.YtgjbhdfncappdaaDoor.Finds
