/- The law FnExactReadDec answers true for every text: both read it alike. No condition. -/
import Derived.Test.YtoaijdlablanfaaDoorQFnExactReadDecx1
import Derived.Test.YtoaijdlablanfaaDoorBase
namespace Go.Proofs.YtoaijdlablanfaaDoor.Pure
open Go.RowKit Go.Proofs.YtoaijdlablanfaaDoor.PFnExactReadDec Go.Proofs.YtoaijdlablanfaaDoorW.PrintWords Go.Proofs.YtoaijdlablanfaaDoorW.PrintLast Go.Proofs.YtoaijdlablanfaaDoorW.PrintMore Go.Proofs.YtoaijdlablanfaaDoor.Base
set_option linter.unusedVariables false
set_option linter.unusedSimpArgs false

/-! Numbers in decimal: the reference's DecText and the library's numeral -/
def decT (u : Nat) : ByteArray := ⟨(Lib.decDigits u).toArray⟩
theorem decT_small {u : Nat} (h : u < 10) : decT u = strOfNums [48 + (u : Int)] := by
  apply bytes_inj
  rw [bytes_strOf (by intro x hx; simp only [List.mem_singleton] at hx; omega)]
  unfold decT; rw [Lib.decDigits, dif_pos h]
  show [((UInt8.ofNat (48 + u)).toNat : Int)] = _
  rw [UInt8.toNat_ofNat']
  congr 1; omega
theorem decT_big {u : Nat} (h : ¬ u < 10) : decT u = decT (u / 10) ++ strOfNums [48 + ((u % 10 : Nat) : Int)] := by
  apply bytes_inj
  rw [bytes_append, bytes_strOf (by intro x hx; simp only [List.mem_singleton] at hx; omega)]
  have e : Lib.decDigits u = Lib.decDigits (u / 10) ++ [UInt8.ofNat (48 + u % 10)] := by rw [Lib.decDigits, dif_neg h]
  unfold decT; rw [e]
  show ((Lib.decDigits (u / 10) ++ [UInt8.ofNat (48 + u % 10)]).map fun b => (b.toNat : Int)) = (Lib.decDigits (u / 10)).map (fun b => (b.toNat : Int)) ++ _
  rw [List.map_append]
  congr 1
  show [((UInt8.ofNat (48 + u % 10)).toNat : Int)] = _
  rw [UInt8.toNat_ofNat']
  congr 1; omega
theorem decT_size : ∀ (f u : Nat), u < 10 ^ (f + 1) → (decT u).size ≤ f + 1
  | 0, u, h => by rw [decT_small (by simpa using h), size_strOf]; simp
  | f + 1, u, h => by
    by_cases c : u < 10
    · rw [decT_small c, size_strOf]; simp
    · have p : 10 ^ (f + 1 + 1) = 10 ^ (f + 1) * 10 := Nat.pow_succ ..
      have := decT_size f (u / 10) (by omega)
      rw [decT_big c, ByteArray.size_append, size_strOf]; simp only [List.length_cons, List.length_nil]; omega
theorem spec_decT : ∀ (f : Nat) (n : Int), 0 ≤ n → n ≤ 999999999999999 → n < 10 ^ (f + 1) → f ≤ 20 → Ev (fun k => spec_DecText.f k n) (decT n.toNat)
  | f, n, h0, h1, hf, hq => by
    refine Ev.step (fun k => spec_DecText.f.eq_2 n k) (Ev.neg (by omega) ?_)
    rw [show decide (n > 999999999999999) = false from decide_eq_false (by omega)]
    refine Ev.step (fun k => spec_DecText.j0.eq_2 n false k) (Ev.neg (by simp) ?_)
    by_cases c : n < 10
    · refine Ev.pos c ?_
      rw [w64 (by omega) (by omega), show (48 + n) % 256 = 48 + n by omega]
      rw [decT_small (by omega), show ((n.toNat : Nat) : Int) = n by omega]; exact Ev.now _
    · refine Ev.neg c ?_
      match f, hf, hq with
      | 0, hf, _ => have hf : n < 10 := by simpa using hf
                    exact absurd hf c
      | f + 1, hf, hq =>
        have p : (10 : Int) ^ (f + 1 + 1) = 10 ^ (f + 1) * 10 := Int.pow_succ ..
        have h2 : n / 10 < 10 ^ (f + 1) := by omega
        have ih := spec_decT f (n / 10) (by omega) (by omega) h2 (by omega)
        have e1 : wrap64 (Int.tdiv n 10) = n / 10 := by rw [Int.tdiv_eq_ediv_of_nonneg h0, w64 (by omega) (by omega)]
        have e2 : (wrap64 (48 + Int.tmod n 10)) % 256 = 48 + n % 10 := by rw [Int.tmod_eq_emod_of_nonneg h0, w64 (by omega) (by omega)]; omega
        have hz := decT_size f (n / 10).toNat (by
          have : (((n / 10).toNat : Nat) : Int) < ((10 ^ (f + 1) : Nat) : Int) := by
            rw [show (((n / 10).toNat : Nat) : Int) = n / 10 by omega]; push_cast; exact h2
          exact_mod_cast this)
        have eb := decT_big (u := n.toNat) (by omega)
        rw [show n.toNat / 10 = (n / 10).toNat by omega, show ((n.toNat % 10 : Nat) : Int) = n % 10 by omega] at eb
        rw [e1, e2]
        refine Ev.bind ih (Ev.told rfl (Ev.pos ?_ ?_))
        · rw [size_strOf]; simp only [List.length_cons, List.length_nil]; omega
        · rw [eb]; exact Ev.now _
theorem spec_decT_out {n : Int} (h : ¬ (0 ≤ n ∧ n ≤ 999999999999999)) : Ev (fun k => spec_DecText.f k n) (⟨#[]⟩ : ByteArray) := by
  refine Ev.step (fun k => spec_DecText.f.eq_2 n k) ?_
  by_cases c : n < 0
  · exact Ev.pos c (Ev.step (fun k => spec_DecText.j0.eq_2 n true k) (Ev.pos rfl (Ev.now _)))
  · refine Ev.neg c ?_
    rw [decide_eq_true (show n > 999999999999999 by omega)]
    exact Ev.step (fun k => spec_DecText.j0.eq_2 n true k) (Ev.pos rfl (Ev.now _))

/-! Digits read back: the reference's loop and the library's Atoi -/
def decread : List Int → Int → Option Int
  | [], n => some n
  | x :: r, n => if 48 ≤ x ∧ x ≤ 57 then decread r (10 * n + (x - 48)) else none
theorem decread_parse : ∀ (l : List UInt8) (acc k : Nat) (v : Int), l.length + k ≤ 15 → acc < 10 ^ k → decread (l.map fun b => (b.toNat : Int)) (acc : Int) = some v → Lib.parseUint10 acc l = .ok v.toNat ∧ 0 ≤ v ∧ v < 10 ^ (l.length + k)
  | [], acc, k, v, _, ha, h => by
    obtain rfl := Option.some.inj h
    refine ⟨by show _ = Lib.NumEnd.ok _; rw [Int.toNat_natCast]; rfl, by omega, ?_⟩
    rw [show ([] : List UInt8).length + k = k by simp]
    exact_mod_cast ha
  | c :: r, acc, k, v, hl, ha, h => by
    simp only [List.map_cons, decread] at h
    simp only [List.length_cons] at hl
    split at h
    · rename_i hc
      have p : 10 ^ k ≤ 10 ^ 14 := Nat.pow_le_pow_right (by decide) (by omega)
      have e : (10 : Nat) ^ 14 = 100000000000000 := by decide
      have q : 10 ^ (k + 1) = 10 ^ k * 10 := Nat.pow_succ ..
      have hv : 10 * (acc : Int) + ((c.toNat : Int) - 48) = ((acc * 10 + (c.toNat - 48) : Nat) : Int) := by omega
      rw [hv] at h
      have ih := decread_parse r (acc * 10 + (c.toNat - 48)) (k + 1) v (by omega) (by omega) h
      simp only [Lib.parseUint10]
      rw [if_pos (by omega), if_neg (by omega), if_neg (by omega)]
      rw [show r.length + (k + 1) = (c :: r).length + k by simp only [List.length_cons]; omega] at ih
      exact ih
    · cases h
theorem atoi_decread {l : List UInt8} {v : Int} (h0 : l ≠ []) (hl : l.length ≤ 15) (h : decread (l.map fun b => (b.toNat : Int)) 0 = some v) : Lib.atoiAll l = .ok v ∧ 0 ≤ v ∧ v ≤ 999999999999999 := by
  obtain ⟨h1, h2, h3⟩ := decread_parse l 0 0 v (by omega) (by decide) h
  have p : (10 : Int) ^ (l.length + 0) ≤ 10 ^ 15 := by
    have := Nat.pow_le_pow_right (show 0 < 10 by decide) (show l.length + 0 ≤ 15 by omega); exact_mod_cast this
  have e : (10 : Int) ^ 15 = 1000000000000000 := by decide
  have h4 : v ≤ 999999999999999 := by omega
  clear h3 p e
  refine ⟨?_, h2, h4⟩
  cases l with
  | nil => exact absurd rfl h0
  | cons c r =>
    have hc : 48 ≤ (c.toNat : Int) ∧ (c.toNat : Int) ≤ 57 := by
      simp only [List.map_cons, decread] at h
      split at h
      · assumption
      · cases h
    rw [Lib.atoiAll_plain c r (by omega) (by omega)]
    unfold Lib.parseMag
    rw [if_neg (by simp), h1]
    simp only [Lib.signless]
    rw [if_neg (by omega)]
    congr 1; omega
theorem decread_digs : ∀ (l : List Int) (n : Int), (∀ x ∈ l, 48 ≤ x ∧ x ≤ 57) → ∃ v, decread l n = some v
  | [], n, _ => ⟨n, rfl⟩
  | x :: r, n, h => by
    rw [decread, if_pos (h x (by simp))]
    exact decread_digs r _ fun y hy => h y (by simp [hy])
theorem decT_digs : ∀ (f u : Nat), u < 10 ^ (f + 1) → ∀ x ∈ bytesOf (decT u), 48 ≤ x ∧ x ≤ 57
  | 0, u, h => by
    have h : u < 10 := by simpa using h
    rw [decT_small h, bytes_strOf (by intro x hx; simp only [List.mem_singleton] at hx; omega)]
    intro x hx; simp only [List.mem_singleton] at hx; omega
  | f + 1, u, h => by
    by_cases c : u < 10
    · rw [decT_small c, bytes_strOf (by intro x hx; simp only [List.mem_singleton] at hx; omega)]
      intro x hx; simp only [List.mem_singleton] at hx; omega
    · have p : 10 ^ (f + 1 + 1) = 10 ^ (f + 1) * 10 := Nat.pow_succ ..
      rw [decT_big c, bytes_append, bytes_strOf (by intro x hx; simp only [List.mem_singleton] at hx; omega)]
      intro x hx
      rcases List.mem_append.mp hx with h1 | h1
      · exact decT_digs f (u / 10) (by omega) x h1
      · simp only [List.mem_singleton] at h1; omega
theorem decT_pos (u : Nat) : 1 ≤ (decT u).size := by
  by_cases c : u < 10
  · rw [decT_small c, size_strOf]; simp
  · rw [decT_big c, ByteArray.size_append, size_strOf]; simp
def rd (s : ByteArray) : Int × Bool :=
  if 1 ≤ s.size ∧ s.size ≤ 15 then
    match decread (bytesOf s) 0 with
    | some n => if decT n.toNat = s then (n, true) else (0, false)
    | none => (0, false)
  else (0, false)
theorem readDec_rd (s : ByteArray) : Foreign.readDec s = rd s := by
  unfold rd
  have hle : s.data.toList.length = s.size := rfl
  have no : (∀ n, decread (bytesOf s) 0 = some n → ¬ (1 ≤ s.size ∧ s.size ≤ 15)) → Foreign.readDec s = (0, false) := by
    intro hn
    unfold Foreign.readDec
    split
    · rename_i v hv
      rw [if_neg]
      rintro ⟨⟨h0, h1⟩, h2⟩
      have h2 : decT v.toNat = s := h2
      have b : v.toNat < 10 ^ (14 + 1) := by have : (10 : Nat) ^ (14 + 1) = 1000000000000000 := by decide
                                             omega
      obtain ⟨n, en⟩ := decread_digs (bytesOf s) 0 (by rw [← h2]; exact decT_digs 14 _ b)
      exact hn n en ⟨by rw [← h2]; exact decT_pos _, by rw [← h2]; exact decT_size 14 _ b⟩
    · rfl
  by_cases hz : 1 ≤ s.size ∧ s.size ≤ 15
  · rw [if_pos hz]
    cases hd : decread (bytesOf s) 0 with
    | none => exact no (by intro n h; rw [hd] at h; cases h)
    | some n =>
      obtain ⟨h1, h2, h3⟩ := atoi_decread (l := s.data.toList) (v := n) (by intro e; rw [e] at hle; simp at hle; omega) (by omega) hd
      unfold Foreign.readDec
      rw [h1]
      show (if (0 ≤ n ∧ n ≤ 999999999999999) ∧ decT n.toNat = s then (n, true) else (0, false)) = _
      by_cases e : decT n.toNat = s
      · rw [if_pos ⟨⟨h2, h3⟩, e⟩]; exact (if_pos e).symm
      · rw [if_neg fun c => e c.2]; exact (if_neg e).symm
  · rw [if_neg hz]
    exact no fun _ _ => hz
theorem decread_bd : ∀ (l : List Int) (n v : Int) (k : Nat), l.length + k ≤ 15 → 0 ≤ n → n < 10 ^ k → decread l n = some v → 0 ≤ v ∧ v ≤ 999999999999999
  | [], n, v, k, hk, h0, h1, h => by
    obtain rfl := Option.some.inj h
    have p : (10 : Int) ^ k ≤ 10 ^ 15 := by
      have := Nat.pow_le_pow_right (show 0 < 10 by decide) (show k ≤ 15 by simpa using hk); exact_mod_cast this
    have e : (10 : Int) ^ 15 = 1000000000000000 := by decide
    omega
  | x :: r, n, v, k, hk, h0, h1, h => by
    simp only [decread] at h
    simp only [List.length_cons] at hk
    split at h
    · have q : (10 : Int) ^ (k + 1) = 10 ^ k * 10 := Int.pow_succ ..
      exact decread_bd r _ v (k + 1) (by omega) (by omega) (by omega) h
    · cases h
theorem spec_rd_l0 (s : ByteArray) (hs : s.size ≤ 15) : ∀ (d i : Nat) (n : Int), i + d = s.size → 0 ≤ n → n < 10 ^ i →
    Ev (fun k => spec_ReadDec.l0 k s n (i : Int)) (match decread ((bytesOf s).drop i) n with | some n => if decT n.toNat = s then (n, true) else (0, false) | none => (0, false)) := by
  intro d
  induction d with
  | zero =>
    intro i n h h0 h1
    have p : (10 : Int) ^ i ≤ 10 ^ 15 := by
      have := Nat.pow_le_pow_right (show 0 < 10 by decide) (show i ≤ 15 by omega); exact_mod_cast this
    have e : (10 : Int) ^ 15 = 1000000000000000 := by decide
    have e' : (10 : Int) ^ (14 + 1) = 1000000000000000 := by decide
    refine Ev.step (fun k => spec_ReadDec.l0.eq_2 _ _ _ k) (Ev.neg (by omega) ?_)
    rw [List.drop_eq_nil_of_le (by rw [bytesOf_length]; omega)]
    refine Ev.bind (spec_decT 14 n h0 (by omega) (by omega) (by decide)) ?_
    simp only [decread]
    by_cases c : decT n.toNat = s
    · rw [if_pos c]; exact Ev.pos (toList_iff.mpr c) (Ev.now _)
    · rw [if_neg c]; exact Ev.neg (fun x => c (toList_iff.mp x)) (Ev.now _)
  | succ d ih =>
    intro i n h h0 h1
    have p : (10 : Int) ^ i ≤ 10 ^ 15 := by
      have := Nat.pow_le_pow_right (show 0 < 10 by decide) (show i ≤ 15 by omega); exact_mod_cast this
    have e : (10 : Int) ^ 15 = 1000000000000000 := by decide
    have q : (10 : Int) ^ (i + 1) = 10 ^ i * 10 := Int.pow_succ ..
    have hbt := bt_range s (i : Int)
    have hw : wrap64 ((i : Int) + 1) = ((i + 1 : Nat) : Int) := by rw [w64 (by omega) (by omega)]; omega
    refine Ev.step (fun k => spec_ReadDec.l0.eq_2 _ _ _ k) (Ev.pos (by omega) (Ev.pos (by omega) ?_))
    rw [drop_cons (by rw [bytesOf_length]; omega), ← bt_nat]
    have hg := fun (v : Int) (h0v : 0 ≤ v) (h1v : v < 10) => ih (i + 1) (10 * n + v) (by omega) (by omega) (by omega)
    rw [hw]
    generalize bt s (i : Int) = x at *
    simp only [decread]
    by_cases dg : 48 ≤ x ∧ x ≤ 57
    · have hd : spec_l1digit.f x = some true := by
        unfold spec_l1digit.f; rw [if_pos (by omega), decide_eq_true (by omega)]
      rw [if_pos dg]
      refine Ev.told hd (Ev.pos rfl ?_)
      have e2 : wrap64 (wrap64 (n * 10) + (x - 48) % 256) = 10 * n + (x - 48) := by
        rw [w64 (n := n * 10) (by omega) (by omega), w64 (by omega) (by omega)]; omega
      rw [e2]
      exact hg _ (by omega) (by omega)
    · have hd : spec_l1digit.f x = some false := by
        unfold spec_l1digit.f
        by_cases b : x ≥ 48
        · rw [if_pos b, decide_eq_false (by omega)]
        · rw [if_neg b]
      rw [if_neg dg]
      exact Ev.told hd (Ev.neg (by simp) (Ev.now _))
theorem spec_rd (s : ByteArray) : Ev (fun k => spec_ReadDec.f k s) (rd s) := by
  unfold spec_ReadDec.f rd
  by_cases z : (s.size : Int) = 0
  · rw [if_neg (by omega)]
    exact Ev.pos z (Ev.step (fun k => spec_ReadDec.j0.eq_2 _ _ k) (Ev.pos rfl (Ev.now _)))
  · refine Ev.neg z ?_
    by_cases b : (s.size : Int) > 15
    · rw [if_neg (by omega), decide_eq_true b]
      exact Ev.step (fun k => spec_ReadDec.j0.eq_2 _ _ k) (Ev.pos rfl (Ev.now _))
    · rw [if_pos (by omega), decide_eq_false b]
      refine Ev.step (fun k => spec_ReadDec.j0.eq_2 _ _ k) (Ev.neg (by simp) ?_)
      have := spec_rd_l0 s (by omega) s.size 0 0 (by omega) (by decide) (by decide)
      rw [List.drop_zero] at this
      exact this
theorem impl_rd {s : ByteArray} (h : s.size ≤ 140737488351232) : Foreign.impl_ReadDec.f s = some (rd s) := by
  unfold Foreign.impl_ReadDec.f
  rw [if_pos h, readDec_rd]

theorem FnExactReadDec : laws_FnExactReadDec.Pure := by
  intro s hs
  apply Ev.rounds
  unfold laws_FnExactReadDec.f
  by_cases h : (s.size : Int) > 1048576
  · exact Ev.pos h (Ev.now _)
  · refine Ev.neg h (Ev.bind (spec_rd s) (Ev.told (impl_rd hs) (Ev.pos rfl (Ev.neg (by simp) (Ev.now _)))))

end Go.Proofs.YtoaijdlablanfaaDoor.Pure
