/- The texts of a time, as lists of bytes, and what is found in them: numbers, a month's name, commas; no program in sight, no condition. -/
import Derived.Test.YtgjbhdfncappdaaDoorDates
import Derived.Test.YtgjbhdfncappdaaDoorPads
namespace Go.Proofs.YtgjbhdfncappdaaDoor.Formats
set_option linter.unusedVariables false
set_option linter.unusedSimpArgs false
open Go.Proofs.YtgjbhdfncappdaaDoor.Dates Go.Proofs.YtgjbhdfncappdaaDoor.Pads
def names12 : List (List Int) := [[74, 97, 110], [70, 101, 98], [77, 97, 114], [65, 112, 114], [77, 97, 121], [74, 117, 110], [74, 117, 108], [65, 117, 103], [83, 101, 112], [79, 99, 116], [78, 111, 118], [68, 101, 99]]
def names7 : List (List Int) := [[77, 111, 110, 100, 97, 121], [84, 117, 101, 115, 100, 97, 121], [87, 101, 100, 110, 101, 115, 100, 97, 121], [84, 104, 117, 114, 115, 100, 97, 121], [70, 114, 105, 100, 97, 121], [83, 97, 116, 117, 114, 100, 97, 121], [83, 117, 110, 100, 97, 121]]
def mname (m : Int) : List Int := names12.getD (m - 1).toNat []
def dname (w : Int) : List Int := names7.getD w.toNat []
def wd (t : Int) : Int := (t / 86400 + 3) % 7
def gmt : List Int := [32, 71, 77, 84]
def clockL (t : Int) : List Int := padL 2 (ho t) ++ ([58] ++ (padL 2 (mi t) ++ ([58] ++ padL 2 (se t))))
def httpL (t : Int) : List Int := (dname (wd t)).take 3 ++ ([44, 32] ++ (padL 2 (da t) ++ ([32] ++ (mname (mo t) ++ ([32] ++ (padL 4 (yr t) ++ ([32] ++ (clockL t ++ gmt))))))))
def longL (t : Int) : List Int := dname (wd t) ++ ([44, 32] ++ (padL 2 (da t) ++ ([45] ++ (mname (mo t) ++ ([45] ++ (padL 2 (yr t) ++ ([32] ++ (clockL t ++ gmt))))))))
def day2 (d : Int) : List Int := if d < 10 then [32, 48 + d] else padL 2 d
def lineL (t : Int) : List Int := (dname (wd t)).take 3 ++ ([32] ++ (mname (mo t) ++ ([32] ++ (day2 (da t) ++ ([32] ++ (clockL t ++ ([32] ++ padL 4 (yr t))))))))
def stampL (t : Int) : List Int := padL 4 (yr t) ++ (padL 2 (mo t) ++ (padL 2 (da t) ++ (padL 2 (ho t) ++ (padL 2 (mi t) ++ padL 2 (se t)))))
def warcL (t : Int) : List Int := padL 4 (yr t) ++ ([45] ++ (padL 2 (mo t) ++ ([45] ++ (padL 2 (da t) ++ ([84] ++ (clockL t ++ [90]))))))
/-! Numbers in a text -/
def numsL : List Int → Option (Int × Nat) → List Int
  | [], none => []
  | [], some (v, _) => [v]
  | x :: xs, none => if 48 ≤ x ∧ x ≤ 57 then numsL xs (some (x - 48, 1)) else numsL xs none
  | x :: xs, some (v, c) => if 48 ≤ x ∧ x ≤ 57 then (if c < 9 then numsL xs (some (10 * v + (x - 48), c + 1)) else v :: numsL xs (some (x - 48, 1))) else v :: numsL xs none
theorem nums_skip : ∀ (p q : List Int), (∀ x ∈ p, ¬ (48 ≤ x ∧ x ≤ 57)) → numsL (p ++ q) none = numsL q none
  | [], _, _ => rfl
  | x :: p, q, h => by
    simp only [List.cons_append, numsL]
    rw [if_neg (h x (by simp)), nums_skip p q (fun y hy => h y (by simp [hy]))]
theorem nums_run : ∀ (p q : List Int) (v : Int) (c : Nat), (∀ x ∈ p, 48 ≤ x ∧ x ≤ 57) → c + p.length ≤ 9 → numsL (p ++ q) (some (v, c)) = numsL q (some (p.foldl (fun a x => 10 * a + (x - 48)) v, c + p.length))
  | [], _, _, _, _, _ => by simp
  | x :: p, q, v, c, h, hc => by
    simp only [List.length_cons] at hc
    simp only [List.cons_append, numsL]
    rw [if_pos (h x (by simp)), if_pos (by omega), nums_run p q _ _ (fun y hy => h y (by simp [hy])) (by omega)]
    simp only [List.foldl_cons, List.length_cons]
    rw [show c + 1 + p.length = c + (p.length + 1) by omega]
theorem nums_start (p q : List Int) (h : ∀ x ∈ p, 48 ≤ x ∧ x ≤ 57) (h0 : 1 ≤ p.length) (h9 : p.length ≤ 9) : numsL (p ++ q) none = numsL q (some (valL p, p.length)) := by
  cases p with
  | nil => simp at h0
  | cons x p =>
    simp only [List.length_cons] at h9
    simp only [List.cons_append, numsL]
    rw [if_pos (h x (by simp)), nums_run p q _ _ (fun y hy => h y (by simp [hy])) (by omega)]
    simp only [valL, List.foldl_cons, List.length_cons]
    rw [show 1 + p.length = p.length + 1 by omega, show 10 * 0 + (x - 48) = x - 48 by omega]
theorem nums_pad (k : Nat) (n x : Int) (q : List Int) (h1 : 1 ≤ k) (h9 : k ≤ 9) (n0 : 0 ≤ n) (n1 : n < 10 ^ k) (hx : ¬ (48 ≤ x ∧ x ≤ 57)) : numsL (padL k n ++ x :: q) none = n :: numsL q none := by
  rw [nums_start _ _ (padL_digit k n) (by rw [padL_length]; exact h1) (by rw [padL_length]; exact h9), valL_pad k n n0 n1]
  simp only [numsL]; rw [if_neg hx]
theorem nums_pad_end (k : Nat) (n : Int) (h1 : 1 ≤ k) (h9 : k ≤ 9) (n0 : 0 ≤ n) (n1 : n < 10 ^ k) : numsL (padL k n) none = [n] := by
  have := nums_start (padL k n) [] (padL_digit k n) (by rw [padL_length]; exact h1) (by rw [padL_length]; exact h9)
  rw [List.append_nil] at this; rw [this, valL_pad k n n0 n1]; rfl
/-! what the parts of a valid time are -/
theorem parts {t : Int} (h : isT t) : (1970 ≤ yr t ∧ yr t ≤ 9999) ∧ (1 ≤ mo t ∧ mo t ≤ 12) ∧ (1 ≤ da t ∧ da t ≤ 31) ∧ (0 ≤ ho t ∧ ho t ≤ 23) ∧ (0 ≤ mi t ∧ mi t ≤ 59) ∧ (0 ≤ se t ∧ se t ≤ 59) := by
  have a := civ_ok h; unfold okC at a; have b := mlen_bd (yr t) (mo t); omega
theorem wd_in (t : Int) : 0 ≤ wd t ∧ wd t ≤ 6 := by unfold wd; omega
def noDig (l : List Int) : Bool := l.all fun x => !(decide (48 ≤ x) && decide (x ≤ 57))
theorem noDig_iff {l : List Int} (h : noDig l = true) : ∀ x ∈ l, ¬ (48 ≤ x ∧ x ≤ 57) := by
  intro x hx
  have := List.all_eq_true.mp h x hx
  simp at this; omega
theorem mname_cases {m : Int} (h : 1 ≤ m ∧ m ≤ 12) : mname m ∈ names12 := by
  unfold mname
  rw [List.getD_eq_getElem?_getD, List.getElem?_eq_getElem (show (m - 1).toNat < names12.length by simp [names12]; omega), Option.getD_some]
  exact List.getElem_mem _
theorem dname_cases {w : Int} (h : 0 ≤ w ∧ w ≤ 6) : dname w ∈ names7 := by
  unfold dname
  rw [List.getD_eq_getElem?_getD, List.getElem?_eq_getElem (show w.toNat < names7.length by simp [names7]; omega), Option.getD_some]
  exact List.getElem_mem _
theorem names12_all {p : List Int → Bool} (h : names12.all p = true) {m : Int} (hm : 1 ≤ m ∧ m ≤ 12) : p (mname m) = true := List.all_eq_true.mp h _ (mname_cases hm)
theorem names7_all {p : List Int → Bool} (h : names7.all p = true) {w : Int} (hw : 0 ≤ w ∧ w ≤ 6) : p (dname w) = true := List.all_eq_true.mp h _ (dname_cases hw)
theorem mname_noDig {m : Int} (hm : 1 ≤ m ∧ m ≤ 12) : ∀ x ∈ mname m, ¬ (48 ≤ x ∧ x ≤ 57) := noDig_iff (names12_all (p := noDig) (by decide) hm)
theorem dname_noDig {w : Int} (hw : 0 ≤ w ∧ w ≤ 6) : ∀ x ∈ dname w, ¬ (48 ≤ x ∧ x ≤ 57) := noDig_iff (names7_all (p := noDig) (by decide) hw)
theorem dname3_noDig {w : Int} (hw : 0 ≤ w ∧ w ≤ 6) : ∀ x ∈ (dname w).take 3, ¬ (48 ≤ x ∧ x ≤ 57) := fun x hx => dname_noDig hw x (List.mem_of_mem_take hx)
theorem mname_length {m : Int} (hm : 1 ≤ m ∧ m ≤ 12) : (mname m).length = 3 := by
  have := names12_all (p := fun l => l.length == 3) (by decide) hm; simpa using this
theorem dname_length {w : Int} (hw : 0 ≤ w ∧ w ≤ 6) : 6 ≤ (dname w).length ∧ (dname w).length ≤ 9 := by
  have := names7_all (p := fun l => decide (6 ≤ l.length) && decide (l.length ≤ 9)) (by decide) hw; simpa using this
theorem nums_clock {t : Int} (h : isT t) (x : Int) (q : List Int) (hx : ¬ (48 ≤ x ∧ x ≤ 57)) : numsL (clockL t ++ x :: q) none = ho t :: mi t :: se t :: numsL q none := by
  obtain ⟨-, -, -, h4, h5, h6⟩ := parts h
  unfold clockL
  simp only [List.append_assoc, List.cons_append, List.nil_append]
  rw [nums_pad 2 _ _ _ (by decide) (by decide) (by omega) (by show _ < (100 : Int); omega) (by decide), nums_pad 2 _ _ _ (by decide) (by decide) (by omega) (by show _ < (100 : Int); omega) (by decide), nums_pad 2 _ _ _ (by decide) (by decide) (by omega) (by show _ < (100 : Int); omega) hx]
theorem nums_http {t : Int} (h : isT t) : numsL (httpL t) none = [da t, yr t, ho t, mi t, se t] := by
  obtain ⟨h1, h2, h3, h4, h5, h6⟩ := parts h
  unfold httpL gmt
  rw [nums_skip _ _ (dname3_noDig (wd_in t)), nums_skip _ _ (noDig_iff (by decide))]
  simp only [List.cons_append, List.nil_append]
  rw [nums_pad 2 _ _ _ (by decide) (by decide) (by omega) (by show _ < (100 : Int); omega) (by decide), nums_skip _ _ (mname_noDig h2)]
  simp only [numsL]; rw [if_neg (by decide)]
  rw [nums_pad 4 _ _ _ (by decide) (by decide) (by omega) (by show _ < (10000 : Int); omega) (by decide), nums_clock h _ _ (by decide)]
  rfl
theorem nums_long {t : Int} (h : isT t) : numsL (longL t) none = [da t, yr t % 100, ho t, mi t, se t] := by
  obtain ⟨h1, h2, h3, h4, h5, h6⟩ := parts h
  unfold longL gmt
  rw [nums_skip _ _ (dname_noDig (wd_in t)), nums_skip _ _ (noDig_iff (by decide)), ← padL_two (yr t)]
  simp only [List.cons_append, List.nil_append]
  rw [nums_pad 2 _ _ _ (by decide) (by decide) (by omega) (by show _ < (100 : Int); omega) (by decide), nums_skip _ _ (mname_noDig h2)]
  simp only [numsL]; rw [if_neg (by decide)]
  rw [nums_pad 2 _ _ _ (by decide) (by decide) (by omega) (by show _ < (100 : Int); omega) (by decide), nums_clock h _ _ (by decide)]
  rfl
theorem day2_nums {d x : Int} (h : 1 ≤ d ∧ d ≤ 31) (q : List Int) (hx : ¬ (48 ≤ x ∧ x ≤ 57)) : numsL (day2 d ++ x :: q) none = d :: numsL q none := by
  unfold day2
  by_cases c : d < 10
  · rw [if_pos c]
    simp only [List.cons_append, List.nil_append, numsL]
    rw [if_neg (by decide), if_pos (by omega), if_neg hx]; congr 1; omega
  · rw [if_neg c]; exact nums_pad 2 d x q (by decide) (by decide) (by omega) (by show _ < (100 : Int); omega) hx
theorem nums_line {t : Int} (h : isT t) : numsL (lineL t) none = [da t, ho t, mi t, se t, yr t] := by
  obtain ⟨h1, h2, h3, h4, h5, h6⟩ := parts h
  unfold lineL
  rw [nums_skip _ _ (dname3_noDig (wd_in t)), nums_skip _ _ (noDig_iff (by decide)), nums_skip _ _ (mname_noDig h2), nums_skip _ _ (noDig_iff (by decide))]
  simp only [List.cons_append, List.nil_append]
  rw [day2_nums h3 _ (by decide), nums_clock h _ _ (by decide), nums_pad_end 4 _ (by decide) (by decide) (by omega) (by show _ < (10000 : Int); omega)]
end Go.Proofs.YtgjbhdfncappdaaDoor.Formats
