/- The places of a time's parts in its texts, and what a reader by places finds there; no program in sight, no condition. -/
import Derived.Test.YtgjbhdfncappdaaDoorFinds
namespace Go.Proofs.YtgjbhdfncappdaaDoor.Places
set_option linter.unusedVariables false
set_option linter.unusedSimpArgs false
open Go.Proofs.YtgjbhdfncappdaaDoor.Dates Go.Proofs.YtgjbhdfncappdaaDoor.Pads Go.Proofs.YtgjbhdfncappdaaDoor.Formats Go.Proofs.YtgjbhdfncappdaaDoor.Finds
def cut (l : List Int) (a b : Nat) : List Int := (l.drop a).take (b - a)
theorem piece {A B C : List Int} {a b : Nat} (hA : A.length = a) (hB : B.length = b - a) : cut (A ++ (B ++ C)) a b = B := by
  subst hA; unfold cut
  rw [List.drop_left, ← hB, List.take_left]
theorem piece_end {A B : List Int} {a b : Nat} (hA : A.length = a) (hB : B.length = b - a) : cut (A ++ B) a b = B := by
  have := piece (C := []) hA hB; rwa [List.append_nil] at this
/-- digits, blanks counted as zeros -/
def numA : List Int → Int → Int
  | [], n => n
  | x :: xs, n => if x = 32 then numA xs (n * 10) else if 48 ≤ x ∧ x ≤ 57 then numA xs (n * 10 + (x - 48)) else -1
def numL (l : List Int) : Int := numA l 0
theorem numA_digits : ∀ (l : List Int) (n : Int), (∀ x ∈ l, 48 ≤ x ∧ x ≤ 57) → numA l n = l.foldl (fun a x => 10 * a + (x - 48)) n
  | [], _, _ => rfl
  | x :: l, n, h => by
    have hx := h x (by simp)
    simp only [numA, List.foldl_cons]
    rw [if_neg (by omega), if_pos hx, numA_digits l _ (fun y hy => h y (by simp [hy])), Int.mul_comm n 10]
theorem numL_pad (k : Nat) (n : Int) (h0 : 0 ≤ n) (h1 : n < 10 ^ k) : numL (padL k n) = n := by
  unfold numL; rw [numA_digits _ _ (padL_digit k n)]; exact valL_pad k n h0 h1
theorem numL_two (n : Int) (h0 : 0 ≤ n) (h1 : n ≤ 99) : numL (padL 2 n) = n := numL_pad 2 n h0 (by show _ < (100 : Int); omega)
theorem numL_day2 {d : Int} (h : 1 ≤ d ∧ d ≤ 31) : numL (day2 d) = d := by
  unfold day2; split
  · simp only [numL, numA, if_true]; rw [if_neg (by omega), if_pos (by omega)]; omega
  · exact numL_two d (by omega) (by omega)
/-- the month of a name, -1 without one -/
def monthAt (l : List Int) : Int := if mname 1 = l then 1 else if mname 2 = l then 2 else if mname 3 = l then 3 else if mname 4 = l then 4 else if mname 5 = l then 5 else if mname 6 = l then 6 else if mname 7 = l then 7 else if mname 8 = l then 8 else if mname 9 = l then 9 else if mname 10 = l then 10 else if mname 11 = l then 11 else if mname 12 = l then 12 else -1
theorem monthAt_name {m : Int} (hm : 1 ≤ m ∧ m ≤ 12) : monthAt (mname m) = m := by
  have := months_all (fun m => monthAt (mname m) == m) (by decide +kernel) hm; simpa using this
theorem day2_length (d : Int) : (day2 d).length = 2 := by unfold day2; split <;> simp [padL_length]
def clk (l : List Int) (h m s : Int) : Prop := numL (cut l 0 2) = h ∧ numL (cut l 3 5) = m ∧ numL (cut l 6 8) = s
theorem clock_length (t : Int) : (clockL t).length = 8 := by simp only [clockL, List.length_append, padL_length, List.length_cons, List.length_nil]
theorem clock_at {t : Int} (h : isT t) : clk (clockL t) (ho t) (mi t) (se t) := by
  obtain ⟨-, -, -, h4, h5, h6⟩ := parts h
  refine ⟨?_, ?_, ?_⟩
  · rw [show cut (clockL t) 0 2 = padL 2 (ho t) from piece (A := []) (B := padL 2 (ho t)) rfl (by rw [padL_length])]; exact numL_two _ (by omega) (by omega)
  · rw [show cut (clockL t) 3 5 = padL 2 (mi t) from by
      rw [show clockL t = (padL 2 (ho t) ++ [58]) ++ (padL 2 (mi t) ++ ([58] ++ padL 2 (se t))) by simp only [clockL, List.append_assoc]]
      exact piece (by simp [padL_length]) (by rw [padL_length])]
    exact numL_two _ (by omega) (by omega)
  · rw [show cut (clockL t) 6 8 = padL 2 (se t) from by
      rw [show clockL t = (padL 2 (ho t) ++ ([58] ++ (padL 2 (mi t) ++ [58]))) ++ padL 2 (se t) by simp only [clockL, List.append_assoc]]
      exact piece_end (by simp [padL_length]) (by rw [padL_length])]
    exact numL_two _ (by omega) (by omega)
theorem d3_length (t : Int) : ((dname (wd t)).take 3).length = 3 := by have := dname_length (wd_in t); simp; omega
theorem http_at {t : Int} (h : isT t) : numL (cut (httpL t) 12 16) = yr t ∧ monthAt (cut (httpL t) 8 11) = mo t ∧ numL (cut (httpL t) 5 7) = da t ∧ cut (httpL t) 17 25 = clockL t := by
  obtain ⟨h1, h2, h3, h4, h5, h6⟩ := parts h
  have a := mname_length h2; have b := d3_length t
  refine ⟨?_, ?_, ?_, ?_⟩
  · rw [show cut (httpL t) 12 16 = padL 4 (yr t) from by
      rw [show httpL t = ((dname (wd t)).take 3 ++ ([44, 32] ++ (padL 2 (da t) ++ ([32] ++ (mname (mo t) ++ [32]))))) ++ (padL 4 (yr t) ++ ([32] ++ (clockL t ++ gmt))) by simp only [httpL, List.append_assoc]]
      exact piece (by simp only [List.length_append, padL_length, a, b, List.length_cons, List.length_nil]) (by rw [padL_length])]
    exact numL_pad 4 _ (by omega) (by show _ < (10000 : Int); omega)
  · rw [show cut (httpL t) 8 11 = mname (mo t) from by
      rw [show httpL t = ((dname (wd t)).take 3 ++ ([44, 32] ++ (padL 2 (da t) ++ [32]))) ++ (mname (mo t) ++ ([32] ++ (padL 4 (yr t) ++ ([32] ++ (clockL t ++ gmt))))) by simp only [httpL, List.append_assoc]]
      exact piece (by simp only [List.length_append, padL_length, b, List.length_cons, List.length_nil]) (by rw [a])]
    exact monthAt_name h2
  · rw [show cut (httpL t) 5 7 = padL 2 (da t) from by
      rw [show httpL t = ((dname (wd t)).take 3 ++ [44, 32]) ++ (padL 2 (da t) ++ ([32] ++ (mname (mo t) ++ ([32] ++ (padL 4 (yr t) ++ ([32] ++ (clockL t ++ gmt))))))) by simp only [httpL, List.append_assoc]]
      exact piece (by simp only [List.length_append, b, List.length_cons, List.length_nil]) (by rw [padL_length])]
    exact numL_two _ (by omega) (by omega)
  · rw [show httpL t = ((dname (wd t)).take 3 ++ ([44, 32] ++ (padL 2 (da t) ++ ([32] ++ (mname (mo t) ++ ([32] ++ (padL 4 (yr t) ++ [32]))))))) ++ (clockL t ++ gmt) by simp only [httpL, List.append_assoc]]
    exact piece (by simp only [List.length_append, padL_length, a, b, List.length_cons, List.length_nil]) (by rw [clock_length])
theorem line_at {t : Int} (h : isT t) : numL (cut (lineL t) 20 24) = yr t ∧ monthAt (cut (lineL t) 4 7) = mo t ∧ numL (cut (lineL t) 8 10) = da t ∧ cut (lineL t) 11 19 = clockL t := by
  obtain ⟨h1, h2, h3, h4, h5, h6⟩ := parts h
  have a := mname_length h2; have b := d3_length t; have c := clock_length t; have e := day2_length (da t)
  refine ⟨?_, ?_, ?_, ?_⟩
  · rw [show cut (lineL t) 20 24 = padL 4 (yr t) from by
      rw [show lineL t = ((dname (wd t)).take 3 ++ ([32] ++ (mname (mo t) ++ ([32] ++ (day2 (da t) ++ ([32] ++ (clockL t ++ [32]))))))) ++ padL 4 (yr t) by simp only [lineL, List.append_assoc]]
      exact piece_end (by simp only [List.length_append, a, b, c, e, List.length_cons, List.length_nil]) (by rw [padL_length])]
    exact numL_pad 4 _ (by omega) (by show _ < (10000 : Int); omega)
  · rw [show cut (lineL t) 4 7 = mname (mo t) from by
      rw [show lineL t = ((dname (wd t)).take 3 ++ [32]) ++ (mname (mo t) ++ ([32] ++ (day2 (da t) ++ ([32] ++ (clockL t ++ ([32] ++ padL 4 (yr t))))))) by simp only [lineL, List.append_assoc]]
      exact piece (by simp only [List.length_append, b, List.length_cons, List.length_nil]) (by rw [a])]
    exact monthAt_name h2
  · rw [show cut (lineL t) 8 10 = day2 (da t) from by
      rw [show lineL t = ((dname (wd t)).take 3 ++ ([32] ++ (mname (mo t) ++ [32]))) ++ (day2 (da t) ++ ([32] ++ (clockL t ++ ([32] ++ padL 4 (yr t))))) by simp only [lineL, List.append_assoc]]
      exact piece (by simp only [List.length_append, a, b, List.length_cons, List.length_nil]) (by rw [e])]
    exact numL_day2 h3
  · rw [show lineL t = ((dname (wd t)).take 3 ++ ([32] ++ (mname (mo t) ++ ([32] ++ (day2 (da t) ++ [32]))))) ++ (clockL t ++ ([32] ++ padL 4 (yr t))) by simp only [lineL, List.append_assoc]]
    exact piece (by simp only [List.length_append, a, b, e, List.length_cons, List.length_nil]) (by rw [c])
/-- the last 22 bytes of the second form -/
def tailL (t : Int) : List Int := padL 2 (da t) ++ ([45] ++ (mname (mo t) ++ ([45] ++ (padL 2 (yr t) ++ ([32] ++ (clockL t ++ gmt))))))
theorem tail_length {t : Int} (h : isT t) : (tailL t).length = 22 := by
  have a := mname_length (parts h).2.1
  simp only [tailL, clockL, gmt, List.length_append, padL_length, List.length_cons, List.length_nil, a]
theorem long_tail {t : Int} (h : isT t) : (longL t).drop ((longL t).length - 22) = tailL t := by
  have e : longL t = (dname (wd t) ++ [44, 32]) ++ tailL t := by simp only [longL, tailL, List.append_assoc]
  have l := tail_length h
  rw [e]; exact List.drop_left' (by rw [List.length_append (as := dname (wd t) ++ [44, 32]), l]; omega)
theorem tail_at {t : Int} (h : isT t) : numL (cut (tailL t) 7 9) = yr t % 100 ∧ monthAt (cut (tailL t) 3 6) = mo t ∧ numL (cut (tailL t) 0 2) = da t ∧ cut (tailL t) 10 18 = clockL t := by
  obtain ⟨h1, h2, h3, h4, h5, h6⟩ := parts h
  have a := mname_length h2; have c := clock_length t
  refine ⟨?_, ?_, ?_, ?_⟩
  · rw [show cut (tailL t) 7 9 = padL 2 (yr t) from by
      rw [show tailL t = (padL 2 (da t) ++ ([45] ++ (mname (mo t) ++ [45]))) ++ (padL 2 (yr t) ++ ([32] ++ (clockL t ++ gmt))) by simp only [tailL, List.append_assoc]]
      exact piece (by simp only [List.length_append, padL_length, a, List.length_cons, List.length_nil]) (by rw [padL_length]), ← padL_two]
    exact numL_two _ (by omega) (by omega)
  · rw [show cut (tailL t) 3 6 = mname (mo t) from by
      rw [show tailL t = (padL 2 (da t) ++ [45]) ++ (mname (mo t) ++ ([45] ++ (padL 2 (yr t) ++ ([32] ++ (clockL t ++ gmt))))) by simp only [tailL, List.append_assoc]]
      exact piece (by simp only [List.length_append, padL_length, List.length_cons, List.length_nil]) (by rw [a])]
    exact monthAt_name h2
  · rw [show cut (tailL t) 0 2 = padL 2 (da t) from piece (A := []) (B := padL 2 (da t)) rfl (by rw [padL_length])]; exact numL_two _ (by omega) (by omega)
  · rw [show tailL t = (padL 2 (da t) ++ ([45] ++ (mname (mo t) ++ ([45] ++ (padL 2 (yr t) ++ [32]))))) ++ (clockL t ++ gmt) by simp only [tailL, List.append_assoc]]
    exact piece (by simp only [List.length_append, padL_length, a, List.length_cons, List.length_nil]) (by rw [c])
end Go.Proofs.YtgjbhdfncappdaaDoor.Places
