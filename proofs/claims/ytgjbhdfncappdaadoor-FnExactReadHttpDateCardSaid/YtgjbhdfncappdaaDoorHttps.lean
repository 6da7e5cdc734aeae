/- A text in one of three forms tells one time; no program in sight, no condition. -/
import Derived.Test.YtgjbhdfncappdaaDoorReads
namespace Go.Proofs.YtgjbhdfncappdaaDoor.Https
set_option linter.unusedVariables false
set_option linter.unusedSimpArgs false
open Go.Proofs.YtgjbhdfncappdaaDoor.Dates Go.Proofs.YtgjbhdfncappdaaDoor.Pads Go.Proofs.YtgjbhdfncappdaaDoor.Formats Go.Proofs.YtgjbhdfncappdaaDoor.Finds Go.Proofs.YtgjbhdfncappdaaDoor.Places Go.Proofs.YtgjbhdfncappdaaDoor.Reads
def isText (l : List Int) (t : Int) : Prop := isT t ∧ (l = httpL t ∨ (yr t ≤ 2069 ∧ l = longL t) ∨ l = lineL t)
def full (y : Int) : Int := if y ≥ 70 then y + 1900 else y + 2000
theorem full_yr {y : Int} (h0 : 1970 ≤ y) (h1 : y ≤ 2069) : full (y % 100) = y := by unfold full; split <;> omega
def full2 (y : Int) : Int := if y + 1900 < 1970 then y + 1900 + 100 else y + 1900
theorem full2_yr {y : Int} (h0 : 1970 ≤ y) (h1 : y ≤ 2069) : full2 (y % 100) = y := by unfold full2; split <;> omega
/-- the parts that a reader by places finds -/
structure P6 where
  y : Int
  m : Int
  d : Int
  h : Int
  mn : Int
  s : Int
def civ (t : Int) : P6 := ⟨yr t, mo t, da t, ho t, mi t, se t⟩
def clk3 (y m d : Int) (c : List Int) : P6 := ⟨y, m, d, numL (cut c 0 2), numL (cut c 3 5), numL (cut c 6 8)⟩
theorem clk3_clock {t : Int} (h : isT t) : clk3 (yr t) (mo t) (da t) (clockL t) = civ t := by
  obtain ⟨a, b, c⟩ := clock_at h; unfold clk3 civ; rw [a, b, c]
def byHttp (l : List Int) : P6 := clk3 (numL (cut l 12 16)) (monthAt (cut l 8 11)) (numL (cut l 5 7)) (cut l 17 25)
def byLine (l : List Int) : P6 := clk3 (numL (cut l 20 24)) (monthAt (cut l 4 7)) (numL (cut l 8 10)) (cut l 11 19)
def byTail (r : List Int) : P6 := clk3 (full (numL (cut r 7 9))) (monthAt (cut r 3 6)) (numL (cut r 0 2)) (cut r 10 18)
theorem byHttp_of {t : Int} (h : isT t) : byHttp (httpL t) = civ t := by
  obtain ⟨a, b, c, d⟩ := http_at h; unfold byHttp; rw [a, b, c, d]; exact clk3_clock h
theorem byLine_of {t : Int} (h : isT t) : byLine (lineL t) = civ t := by
  obtain ⟨a, b, c, d⟩ := line_at h; unfold byLine; rw [a, b, c, d]; exact clk3_clock h
theorem byTail_of {t : Int} (h : isT t) (hy : yr t ≤ 2069) : byTail (tailL t) = civ t := by
  obtain ⟨a, b, c, d⟩ := tail_at h; unfold byTail; rw [a, b, c, d, full_yr (parts h).1.1 hy]; exact clk3_clock h
def ok6 (p : P6) : Prop := okC p.y p.m p.d p.h p.mn p.s
instance (p : P6) : Decidable (ok6 p) := by unfold ok6; infer_instance
def secs6 (p : P6) : Int := secs p.y p.m p.d p.h p.mn p.s
theorem ok6_civ {t : Int} (h : isT t) : ok6 (civ t) := civ_ok h
theorem secs6_civ {t : Int} (h : isT t) : secs6 (civ t) = t := civ_secs h
theorem lens {l : List Int} {t : Int} (h : isText l t) : (l = httpL t ∧ l.length = 29) ∨ (yr t ≤ 2069 ∧ l = longL t ∧ 30 ≤ l.length ∧ l.length ≤ 33) ∨ (l = lineL t ∧ l.length = 24) := by
  obtain ⟨ht, rfl | ⟨hy, rfl⟩ | rfl⟩ := h
  · exact .inl ⟨rfl, http_length ht⟩
  · have a := long_length ht; have b := dname_length (wd_in t); exact .inr (.inl ⟨hy, rfl, by omega, by omega⟩)
  · exact .inr (.inr ⟨rfl, line_length ht⟩)
/-- the time that a text tells -/
def readT (l : List Int) : Int := if l.length = 29 then secs6 (byHttp l) else if l.length = 24 then secs6 (byLine l) else secs6 (byTail (l.drop (l.length - 22)))
theorem readT_of {l : List Int} {t : Int} (h : isText l t) : readT l = t := by
  have ht := h.1
  unfold readT
  rcases lens h with ⟨e, n⟩ | ⟨hy, e, n1, n2⟩ | ⟨e, n⟩
  · rw [if_pos n, e, byHttp_of ht]; exact secs6_civ ht
  · rw [if_neg (by omega), if_neg (by omega), e, long_tail ht, byTail_of ht hy]; exact secs6_civ ht
  · rw [if_neg (by omega), if_pos n, e, byLine_of ht]; exact secs6_civ ht
theorem text_one {l : List Int} {t t' : Int} (h : isText l t) (h' : isText l t') : t = t' := by rw [← readT_of h, ← readT_of h']
instance (l : List Int) (t : Int) : Decidable (isText l t) := by unfold isText; infer_instance
def rhd (l : List Int) : Int × Bool := if isText l (readT l) then (readT l, true) else (0, false)
theorem rhd_yes {l : List Int} {t : Int} (h : isText l t) : rhd l = (t, true) := by
  unfold rhd; rw [readT_of h, if_pos h]
theorem rhd_no {l : List Int} (h : ∀ t, ¬ isText l t) : rhd l = (0, false) := by
  unfold rhd; rw [if_neg (h _)]
/-! the parts that a reader by numbers finds -/
def isComma (l : List Int) : Bool := decide (0 ≤ idxL l 44)
def byNums (l : List Int) : List Int → P6
  | [n0, n1, n2, n3, n4] => if 0 ≤ idxL l 44 then ⟨if 0 ≤ idxL l 45 then full2 n1 else n1, monthIn (l.drop (idxL l 44).toNat), n0, n2, n3, n4⟩ else ⟨n4, monthIn (l.drop 3), n0, n1, n2, n3⟩
  | _ => ⟨0, 0, 0, 0, 0, 0⟩
theorem byNums_of {l : List Int} {t : Int} (h : isText l t) : (numsL l none).length = 5 ∧ byNums l (numsL l none) = civ t := by
  have ht := h.1
  obtain ⟨h1, h2, h3, h4, h5, h6⟩ := parts ht
  have hd := dname_length (wd_in t)
  have d3 := d3_length t
  rcases lens h with ⟨e, n⟩ | ⟨hy, e, n1, n2⟩ | ⟨e, n⟩
  · subst e
    rw [nums_http ht]
    refine ⟨rfl, ?_⟩
    simp only [byNums]
    rw [comma_http, if_pos (by decide), dash_http ht, if_neg (by decide)]
    have e3 : (httpL t).drop (3 : Int).toNat = [44, 32] ++ (padL 2 (da t) ++ ([32] ++ (mname (mo t) ++ ([32] ++ (padL 4 (yr t) ++ ([32] ++ (clockL t ++ gmt))))))) := by
      unfold httpL; exact List.drop_left' d3
    rw [e3, month_http ht]; rfl
  · subst e
    rw [nums_long ht]
    refine ⟨rfl, ?_⟩
    simp only [byNums]
    rw [comma_long, if_pos (by omega), if_pos dash_long]
    have e3 : (longL t).drop (((dname (wd t)).length : Int)).toNat = [44, 32] ++ (padL 2 (da t) ++ ([45] ++ (mname (mo t) ++ ([45] ++ (padL 2 (yr t) ++ ([32] ++ (clockL t ++ gmt))))))) := by
      unfold longL; exact List.drop_left' (by omega)
    rw [e3, month_long ht, full2_yr (by omega) hy]; rfl
  · subst e
    rw [nums_line ht]
    refine ⟨rfl, ?_⟩
    simp only [byNums]
    rw [comma_line ht, if_neg (by decide)]
    have e3 : (lineL t).drop 3 = [32] ++ (mname (mo t) ++ ([32] ++ (day2 (da t) ++ ([32] ++ (clockL t ++ ([32] ++ padL 4 (yr t))))))) := by
      unfold lineL; exact List.drop_left' d3
    rw [e3, month_line ht]; rfl
def httpT (t : Int) : List Int := if isT t then httpL t else []
def longT (t : Int) : List Int := if isT t ∧ yr t ≤ 2069 then longL t else []
def lineT (t : Int) : List Int := if isT t then lineL t else []
def stampT' (t : Int) : List Int := if isT t then stampL t else []
def warcT (t : Int) : List Int := if isT t then warcL t else []
theorem isText_of {l : List Int} {t : Int} (hl : l ≠ []) (h : httpT t = l ∨ longT t = l ∨ lineT t = l) : isText l t := by
  unfold httpT longT lineT at h
  rcases h with h | h | h
  · split at h
    · rename_i c; exact ⟨c, .inl h.symm⟩
    · exact absurd h.symm hl
  · split at h
    · rename_i c; exact ⟨c.1, .inr (.inl ⟨c.2, h.symm⟩)⟩
    · exact absurd h.symm hl
  · split at h
    · rename_i c; exact ⟨c, .inr (.inr h.symm)⟩
    · exact absurd h.symm hl
theorem texts_of {l : List Int} {t : Int} (h : isText l t) : httpT t = l ∨ longT t = l ∨ lineT t = l := by
  obtain ⟨ht, e | ⟨hy, e⟩ | e⟩ := h
  · left; unfold httpT; rw [if_pos ht, e]
  · right; left; unfold longT; rw [if_pos ⟨ht, hy⟩, e]
  · right; right; unfold lineT; rw [if_pos ht, e]
end Go.Proofs.YtgjbhdfncappdaaDoor.Https
