/- What the program's HexText tells (the library's FormatInt at base sixteen), as a function that the printed walks may call; it wants the library's table of the places of a bit. No other condition. -/
import Derived.Test.YtikeagkcekkioaaDoorForDec
import Derived.Test.YtikeagkcekkioaaDoorFoldMem
import Derived.Outline
import Derived.Deep.WholeRow
namespace Go.Proofs.YtikeagkcekkioaaDoor.Foreign
set_option linter.unusedVariables false
set_option linter.unusedSimpArgs false
open Go.RowKit Go.Proofs.YtikeagkcekkioaaDoorW.PrintWords Go.Proofs.YtikeagkcekkioaaDoorW.PrintLast Go.Proofs.YtikeagkcekkioaaDoorW.PrintMore
theorem tz64_16 (w : World) (ht : Tab w) : Calls Tryd.prog 102 #[.int .u64 16] w fun e w' => e = .returned (.int .i64 4) ∧ w = w' := by
  have h0 := World.var?_cell (n := "math/bits.deBruijn64tab") (g := 5) (by kernel_rfl) ht.bru 15
  have h : w.cell? ⟨5, 15, none⟩ = some (.int .u8 4) := by rw [h0]; rfl
  clear h0 ht
  have e15 : IntKind.u64.wrap (Go.bits .and .u64 16 (IntKind.u64.wrap (-16)) * 285870213051353865) / 288230376151711744 = 15 := by kernel_rfl
  go_enter Tryd.func102, Tryd.ntmps102
  go_wp2
  go_ret
  exact ⟨rfl, rfl⟩
theorem tz_16 (w : World) (ht : Tab w) : Calls Tryd.prog 98 #[.int .u64 16] w fun e w' => e = .returned (.int .i64 4) ∧ w = w' := by
  have h := tz64_16 w ht
  clear ht
  go_enter Tryd.func98, Tryd.ntmps98
  go_wp2_with (go_at_call 102; refine h.mono ?_; rintro e w' ⟨rfl, rfl⟩)
  go_ret
  exact ⟨rfl, rfl⟩
theorem pow2_16 (w : World) : Calls Tryd.prog 97 #[.int .i64 16] w fun e w' => e = .returned (.bool true) ∧ w = w' := by
  have e0 : Go.bits .and .i64 16 15 = 0 := by kernel_rfl
  go_enter Tryd.func97, Tryd.ntmps97
  go_wp2
  go_ret
  exact ⟨rfl, rfl⟩
theorem BytesAt.zeros (w : World) (e : TypeId) (n : Nat) : BytesAt w (w.alloc (.cells (Array.replicate n (.int .u8 0)) e)) (List.replicate n 0) where
  below := (Below.refl _ _).alloc (Nat.le_refl _) _
  cell := by
    intro j hj
    simp only [List.length_replicate] at hj
    rw [World.cell?_alloc_at _ _ _ _ (by simp)]
    simp [hj, List.getD]
  free := by
    intro j hj
    exact World.frozen?_alloc_at _ _ _ _ rfl
theorem tail_text {w w1 : World} {l : List Int} (h : BytesAt w w1 l) (hb : ∀ x ∈ l, 0 ≤ x ∧ x < 256) (i : Nat) (hi : i ≤ l.length) (cap : Nat) :
    (convert 22 9 (.slice (some ⟨w.heap.size, i, none⟩) (l.length - i) cap)).run Tryd.prog w1 = .ok (.string (strOfNums (l.drop i))) w1 := by
  have hl : ((l.drop i).map fun x => UInt8.ofNat x.toNat).length = l.length - i := by simp
  have := run_convert_bytes_back (P := Tryd.prog) w1 22 9 5 ⟨w.heap.size, i, none⟩ cap ((l.drop i).map fun x => UInt8.ofNat x.toNat) Tryd.underlying22 Tryd.underlying5 Tryd.underlying9 (by
    intro j hj
    rw [hl] at hj
    have hc := h.cell (i + j) (by omega)
    have e : (Addr.add ⟨w.heap.size, i, none⟩ j : Addr) = ⟨w.heap.size, i + j, none⟩ := by simp [Addr.add]
    rw [e, hc]
    have hx := hb (l[i + j]) (List.getElem_mem (by omega))
    congr 2
    have hij : i + j < l.length := by omega
    simp [List.getD, List.getElem?_eq_getElem hij, UInt8.toNat_ofNat']
    omega)
  rw [hl] at this
  rw [this]; rfl
def hexD (d : Int) : Int := if d < 10 then 48 + d else 87 + d
def hexs (u : Nat) : List Int := if h : u < 16 then [hexD u] else hexs (u / 16) ++ [hexD ((u % 16 : Nat) : Int)]
theorem hexs_small {u : Nat} (h : u < 16) : hexs u = [hexD u] := by rw [hexs, dif_pos h]
theorem hexs_big {u : Nat} (h : ¬ u < 16) : hexs u = hexs (u / 16) ++ [hexD ((u % 16 : Nat) : Int)] := by rw [hexs, dif_neg h]
theorem hexD_bd {d : Int} (h0 : 0 ≤ d) (h1 : d < 16) : 48 ≤ hexD d ∧ hexD d ≤ 102 := by unfold hexD; split <;> omega
theorem slice65 (W : World) (b : Nat) (j : Nat) (h : j < 65) : (Instr.sliceAt 105 (.pointer (some ⟨b, 0, none⟩)) (some (.int .i64 (j : Int))) none none).run Tryd.prog W = .ok (.slice (some ⟨b, j, none⟩) (65 - j) (65 - j)) W := by
  have hal : Tryd.prog.arrayLen 105 = 65 := by kernel_rfl
  have hel : (sizeOf (Tryd.prog.elem 105)).run Tryd.prog W = .ok 1 W := by kernel_rfl
  rw [run_sliceAt_array_l W 105 ⟨b, 0, none⟩ (by kernel_rfl) .i64 (j : Int) (by omega) (by rw [hal]; omega)]
  rw [hal, hel]
  have hne : ¬ 65 = j := by omega
  simp [Addr.add, slicedAt, hne]
  exact fun h => h.symm
theorem dig_fin : ∀ i : Fin 16, (((⟨#[48, 49, 50, 51, 52, 53, 54, 55, 56, 57, 97, 98, 99, 100, 101, 102, 103, 104, 105, 106, 107, 108, 109, 110, 111, 112, 113, 114, 115, 116, 117, 118, 119, 120, 121, 122]⟩ : ByteArray)[i.val]'(Nat.lt_of_lt_of_le i.isLt (by decide))).toNat : Int) = hexD (i.val : Int) := by decide
theorem dig_at (v : Nat) (h : v < 16) : (((⟨#[48, 49, 50, 51, 52, 53, 54, 55, 56, 57, 97, 98, 99, 100, 101, 102, 103, 104, 105, 106, 107, 108, 109, 110, 111, 112, 113, 114, 115, 116, 117, 118, 119, 120, 121, 122]⟩ : ByteArray)[v]'(Nat.lt_of_lt_of_le h (by decide))).toNat : Int) = hexD (v : Int) := dig_fin ⟨v, h⟩
theorem and15 (v : Nat) (h : v < 268435456) : Go.bits .and .u64 (v : Int) 15 = ((v % 16 : Nat) : Int) := by
  have := bits_mask .u64 63 (by decide) (fun n h0 h1 => by rw [IntKind.wrap_u64]; omega) 4 (by decide) (v : Int) (Int.natCast_nonneg _) (by omega)
  rw [show (15 : Int) = 2 ^ 4 - 1 from rfl, this]
  omega
set_option maxHeartbeats 2000000 in
set_option maxRecDepth 100000 in
theorem formatBits_16 (u : Nat) (hu : u < 268435456) (w : World) (ht : Tab w) :
    Calls Tryd.prog 89 #[.slice none 0 0, .int .u64 (u : Int), .int .i64 16, .bool false, .bool false] w fun e w' => e = .returned (.tuple #[.slice none 0 0, .string (strOfNums (hexs u))]) ∧ Below w.heap.size w w' := by
  have HT : Aside (Tab w) := ht
  have hzv : ∀ W, (zeroValue 105).run Tryd.prog W = .ok (.agg (Array.replicate 65 (.int .u8 0))) W := (zero_of_info (show (Tryd.prog.info? 105).map (fun i => (i.zero, i.size)) = some (some (.agg (Array.replicate 65 (.int .u8 0))), 65) by kernel_rfl)).1
  clear ht
  go_enter Tryd.func89, Tryd.ntmps89
  go_wp2_with (first
    | (go_at_call 97; refine (pow2_16 _).mono ?_; rintro e w' ⟨rfl, rfl⟩)
    | (go_at_call 98; refine (tz_16 _ (HT.out.below ((Below.refl _ _).alloc (Nat.le_refl _) _))).mono ?_; rintro e w' ⟨rfl, rfl⟩))
  have HB0 : Aside (BytesAt w (w.alloc (.cells (Array.replicate 65 (.int .u8 0)) 105)) (List.replicate 65 0)) := BytesAt.zeros w _ 65
  go_loopg [1, 13] 6 (fun k s1 s13 wr => ∃ (v j : Nat) (L : List Int), v < 16 ^ (k + 1) ∧ s1 = .int .u64 (v : Int) ∧ s13 = .int .i64 ((j : Int) + 1) ∧ j = 58 + k ∧ k ≤ 6 ∧ L.length = 65 ∧ Aside (BytesAt w wr L) ∧ Aside (hexs u = hexs v ++ L.drop (j + 1)) ∧ Aside (∀ x ∈ L, 0 ≤ x ∧ x < 256))
  case atStart => exact ⟨u, 64, List.replicate 65 0, by simpa using hu, rfl, rfl, rfl, by omega, by simp, HB0, (by show hexs u = _; simp), (by show ∀ x ∈ _, _; intro x hx; have := List.eq_of_mem_replicate hx; omega)⟩
  case round =>
    obtain ⟨v, j, L, hv, rfl, rfl, hj, hk, hL, HB, HX, HR⟩ := hrel
    have hcell := HB.out.cell j (by omega)
    have hfree := HB.out.free j (by omega)
    by_cases c : v < 16
    · have v0 : (0 : Int) ≤ (v : Int) := by omega
      have v1 : ¬ (16 : Int) ≤ (v : Int) := by omega
      have v2 : (v : Int) < 36 := by omega
      have j0 : (j : Int) < 65 := by omega
      clear hj
      have hsl : ∀ W, (Instr.sliceAt 105 (.pointer (some ⟨w.heap.size, 0, none⟩)) (some (.int .i64 (j : Int))) none none).run Tryd.prog W = .ok (.slice (some ⟨w.heap.size, j, none⟩) (65 - j) (65 - j)) W := fun W => slice65 W _ j (by omega)
      have HC : Aside (v < 16) := c
      have HL : Aside (L.length = 65) := hL
      clear c hL
      go_wp2
      obtain ⟨dg, hdg⟩ : ∃ dg : Nat, ((⟨#[48, 49, 50, 51, 52, 53, 54, 55, 56, 57, 97, 98, 99, 100, 101, 102, 103, 104, 105, 106, 107, 108, 109, 110, 111, 112, 113, 114, 115, 116, 117, 118, 119, 120, 121, 122]⟩ : ByteArray)[v]'(Nat.lt_of_lt_of_le HC.out (by decide))).toNat = dg := ⟨_, rfl⟩
      rw [hdg]
      have HD : Aside ((dg : Int) = hexD (v : Int)) := by show _ = _; rw [← hdg]; exact dig_at v HC.out
      clear hdg
      have hb := hexD_bd (d := (v : Int)) (by omega) (by have := HC.out; omega)
      have HB2 := HB.out.set j (by rw [HL.out]; omega) (dg : Int)
      have hcv := tail_text HB2 (by
        intro x hx
        rcases List.mem_or_eq_of_mem_set hx with h | h
        · exact HR.out x h
        · rw [h, HD.out]; omega) j (by rw [List.length_set, HL.out]; omega) (65 - j)
      rw [List.length_set, HL.out] at hcv
      have HE : Aside ((L.set j (dg : Int)).drop j = hexs u) := by
        show _ = _
        rw [HX.out, hexs_small HC.out, ← HD.out, List.drop_eq_getElem_cons (by rw [List.length_set, HL.out]; omega), List.getElem_set_self, List.drop_set_of_lt (by omega)]
        rfl
      rw [HE.out] at hcv
      have HBB : Aside (Below w.heap.size w (wr.setCell ⟨w.heap.size, j, none⟩ (.int .u8 (dg : Int)))) := HB2.below
      clear HB2 hb
      go_wp2
      rw [hcv]
      simp only [Result.andThen]
      rw [Oper.upon_value]
      go_wp2
      go_ret2
      exact ⟨rfl, HBB.out⟩
    · have v1 : (16 : Int) ≤ (v : Int) := by omega
      cases gk with
      | zero => exact absurd hv (by simpa using c)
      | succ g =>
        have e1 : Go.bits .and .u64 (v : Int) 15 = ((v % 16 : Nat) : Int) := and15 v (by
          have : 16 ^ (g + 1 + 1) ≤ 16 ^ 7 := Nat.pow_le_pow_right (by decide) (by omega)
          have e : (16 : Nat) ^ 7 = 268435456 := by decide
          omega)
        have j0 : (j : Int) < 65 := by omega
        have HJ : Aside (j = 58 + (g + 1)) := hj
        have HV : Aside (v < 16 ^ (g + 1 + 1)) := hv
        have HL : Aside (L.length = 65) := hL
        have HC : Aside (¬ v < 16) := c
        clear hj hv hL c hk
        have r0 : (0 : Int) ≤ ((v % 16 : Nat) : Int) := by omega
        have r1 : ((v % 16 : Nat) : Int) < 36 := by omega
        have HM : Aside (v % 16 < 16) := Nat.mod_lt _ (by decide)
        go_wp2
        obtain ⟨dg, hdg⟩ : ∃ dg : Nat, ((⟨#[48, 49, 50, 51, 52, 53, 54, 55, 56, 57, 97, 98, 99, 100, 101, 102, 103, 104, 105, 106, 107, 108, 109, 110, 111, 112, 113, 114, 115, 116, 117, 118, 119, 120, 121, 122]⟩ : ByteArray)[v % 16]'(Nat.lt_of_lt_of_le HM.out (by decide))).toNat = dg := ⟨_, rfl⟩
        rw [hdg]
        have HD : Aside ((dg : Int) = hexD ((v % 16 : Nat) : Int)) := by show _ = _; rw [← hdg]; exact dig_at (v % 16) HM.out
        clear hdg
        have hb := hexD_bd (d := ((v % 16 : Nat) : Int)) (by omega) (by omega)
        have HB2 : Aside (BytesAt w (wr.setCell ⟨w.heap.size, j, none⟩ (.int .u8 (dg : Int))) (L.set j (dg : Int))) := HB.out.set j (by rw [HL.out]; omega) (dg : Int)
        have HR2 : Aside (∀ x ∈ L.set j (dg : Int), 0 ≤ x ∧ x < 256) := by
          show ∀ x ∈ _, _
          intro x hx
          rcases List.mem_or_eq_of_mem_set hx with h | h
          · exact HR.out x h
          · rw [h, HD.out]; omega
        clear hb
        have HX2 : Aside (hexs u = hexs (v / 16) ++ (L.set j (dg : Int)).drop j) := by
          show _ = _
          rw [HX.out, hexs_big HC.out, ← HD.out, List.drop_eq_getElem_cons (l := L.set j (dg : Int)) (by rw [List.length_set, HL.out]; omega), List.getElem_set_self, List.drop_set_of_lt (by omega)]
          simp
        go_roundg g
        case measure => omega
        case rel =>
          have p : 16 ^ (g + 1 + 1) = 16 ^ (g + 1) * 16 := Nat.pow_succ ..
          have hv := HV.out
          have hj := HJ.out
          refine ⟨v / 16, j - 1, L.set j (dg : Int), by omega, by go_num, by first | go_num | (congr 1; omega), by omega, by omega, by rw [List.length_set, HL.out], HB2, ?_, HR2⟩
          rw [show j - 1 + 1 = j by omega]
          exact HX2
theorem formatInt_16 (u : Nat) (hu : u < 268435456) (w : World) (ht : Tab w) : Calls Tryd.prog 73 #[.int .i64 (u : Int), .int .i64 16] w fun e w' => e = .returned (.string (strOfNums (hexs u))) ∧ Below w.heap.size w w' := by
  have h := formatBits_16 u hu w ht
  have hn : ¬ (u : Int) < 0 := by omega
  clear ht
  go_enter Tryd.func73, Tryd.ntmps73
  go_wp2_with (go_at_call 89; refine h.mono ?_; rintro e w' ⟨rfl, hb⟩)
  go_ret
  exact ⟨rfl, hb⟩
theorem formatInt_c (u : Nat) (hu : u < 268435456) (w : World) (ht : Tab w) : Calls Tryd.prog 53 #[.int .i64 (u : Int), .int .i64 16] w fun e w' => e = .returned (.string (strOfNums (hexs u))) ∧ Below w.heap.size w w' := by
  have h := formatInt_16 u hu w ht
  clear ht
  go_enter Tryd.func53, Tryd.ntmps53
  go_wp2_with (go_at_call 73; refine h.mono ?_; rintro e w' ⟨rfl, hb⟩)
  go_ret
  exact ⟨rfl, hb⟩
def hexT (n : Int) : ByteArray := if 0 ≤ n ∧ n ≤ 268435455 then strOfNums (hexs n.toNat) else ⟨#[]⟩
def impl_HexText.f (n : Int) : Option ByteArray := some (hexT n)
theorem impl_HexText.calls (n : Int) (r : ByteArray) (w : World) (ht : Tab w) (h : impl_HexText.f n = some r) : Calls Tryd.prog 26 #[.int .i64 n] w fun e w' => e = .returned (.string r) ∧ Below w.heap.size w w' := by
  obtain rfl := Option.some.inj h
  clear h
  by_cases hn : 0 ≤ n ∧ n ≤ 268435455
  · obtain ⟨u, rfl⟩ := Int.eq_ofNat_of_zero_le hn.1
    have e : hexT (u : Int) = strOfNums (hexs u) := by unfold hexT; rw [if_pos hn]; rfl
    rw [e]; clear e
    have h := formatInt_c u (by omega) w ht
    have h0 : (0 : Int) ≤ (u : Int) := hn.1
    have h1 : (u : Int) ≤ 268435455 := hn.2
    clear ht hn
    go_enter Tryd.func26, Tryd.ntmps26
    go_wp2_with (first | (go_at_call 53; refine h.mono ?_; rintro e w' ⟨rfl, hb⟩) | go_in)
    go_ret
    exact ⟨rfl, hb⟩
  · have e : hexT n = ⟨#[]⟩ := by unfold hexT; rw [if_neg hn]
    rw [e]; clear e ht
    by_cases h0 : 0 ≤ n
    · have h1 : ¬ n ≤ 268435455 := fun h' => hn ⟨h0, h'⟩
      clear hn
      go_enter Tryd.func26, Tryd.ntmps26
      go_wp2_with go_in
      go_ret
      exact ⟨rfl, Below.refl _ _⟩
    · clear hn
      go_enter Tryd.func26, Tryd.ntmps26
      go_wp2_with go_in
      go_ret
      exact ⟨rfl, Below.refl _ _⟩
end Go.Proofs.YtikeagkcekkioaaDoor.Foreign
