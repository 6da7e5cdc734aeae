/- What the program's Token tells of the two texts at which the laws ask. No condition. -/
import Derived.Test.YtikeagkcekkioaaDoorForIndexByte
import Derived.Outline
import Derived.Deep.LoopGhost
import Derived.WalkKit
import Derived.KernelRfl
namespace Go.Proofs.YtikeagkcekkioaaDoor.Foreign
set_option linter.unusedVariables false
set_option linter.unusedSimpArgs false
open Go.RowKit Go.Proofs.YtikeagkcekkioaaDoorW.PrintWords Go.Proofs.YtikeagkcekkioaaDoorW.PrintLast Go.Proofs.YtikeagkcekkioaaDoorW.PrintMore
theorem drawn_trans {a b c : World} (h : Drawn0 a b) (k : Drawn0 b c) : Drawn0 a c := by
  obtain ⟨⟨m, rfl⟩⟩ := k
  exact h.step m
def marks : ByteArray := ⟨#[33, 35, 36, 37, 38, 39, 42, 43, 45, 46, 94, 95, 124, 126]⟩
theorem tb_120 (w : World) : Calls Tryd.prog 64 #[.int .u8 120] w fun e w' => e = .returned (.bool true) ∧ Drawn0 w w' := by
  go_enter Tryd.func64, Tryd.ntmps64
  go_wp2_with go_in
  go_ret
  exact ⟨rfl, Drawn0.refl _⟩
theorem tb_49 (w : World) : Calls Tryd.prog 64 #[.int .u8 49] w fun e w' => e = .returned (.bool true) ∧ Drawn0 w w' := by
  go_enter Tryd.func64, Tryd.ntmps64
  go_wp2_with go_in
  go_ret
  exact ⟨rfl, Drawn0.refl _⟩
theorem tb_45 (w : World) : Calls Tryd.prog 64 #[.int .u8 45] w fun e w' => e = .returned (.bool true) ∧ Drawn0 w w' := by
  have hi : ∀ W, Calls Tryd.prog 60 #[.string marks, .int .u8 45] W fun e w' => e = .returned (.int .i64 8) ∧ Drawn0 W w' := fun W => strings_IndexByte.calls marks 45 8 W (by decide)
  unfold marks at hi
  go_enter Tryd.func64, Tryd.ntmps64
  go_wp2_with (first | (go_at_call 60; refine (hi _).mono ?_; rintro e w1 ⟨rfl, hd1⟩) | go_in)
  go_ret
  exact ⟨rfl, hd1⟩
theorem tb_32 (w : World) : Calls Tryd.prog 64 #[.int .u8 32] w fun e w' => e = .returned (.bool false) ∧ Drawn0 w w' := by
  have hi : ∀ W, Calls Tryd.prog 60 #[.string marks, .int .u8 32] W fun e w' => e = .returned (.int .i64 (-1)) ∧ Drawn0 W w' := fun W => strings_IndexByte.calls marks 32 (-1) W (by decide)
  unfold marks at hi
  go_enter Tryd.func64, Tryd.ntmps64
  go_wp2_with (first | (go_at_call 60; refine (hi _).mono ?_; rintro e w1 ⟨rfl, hd1⟩) | go_in)
  go_ret
  exact ⟨rfl, hd1⟩
def xd1 : ByteArray := ⟨#[120, 45, 49]⟩
def xby : ByteArray := ⟨#[120, 32, 121]⟩
theorem all_xd1 (w : World) : Calls Tryd.prog 42 #[.string xd1, .func (.func 64) #[] #[]] w fun e w' => e = .returned (.bool true) ∧ Drawn0 w w' := by
  have hz : xd1.size = 3 := rfl
  go_enter Tryd.func42, Tryd.ntmps42
  go_wp2
  go_loopg [5] 3 (fun k s5 wr => ∃ i : Nat, i + k = 3 ∧ s5 = .int .i64 (i : Int) ∧ Aside (Drawn0 w wr))
  case atStart => exact ⟨0, by omega, rfl, Drawn0.refl _⟩
  case round =>
    obtain ⟨i, hi, rfl, hw⟩ := hrel
    match gk, i, hi with
    | 0, 3, _ =>
      go_wp2
      go_ret
      exact ⟨rfl, hw.out⟩
    | 3, 0, _ =>
      go_wp2_with (go_at_call 64; refine (tb_120 _).mono ?_; rintro e w' ⟨rfl, hd⟩)
      go_roundg 2
      case measure => omega
      case rel => exact ⟨1, by omega, by go_num, drawn_trans hw.out hd⟩
    | 2, 1, _ =>
      go_wp2_with (go_at_call 64; refine (tb_45 _).mono ?_; rintro e w' ⟨rfl, hd⟩)
      go_roundg 1
      case measure => omega
      case rel => exact ⟨2, by omega, by go_num, drawn_trans hw.out hd⟩
    | 1, 2, _ =>
      go_wp2_with (go_at_call 64; refine (tb_49 _).mono ?_; rintro e w' ⟨rfl, hd⟩)
      go_roundg 0
      case measure => omega
      case rel => exact ⟨3, by omega, by go_num, drawn_trans hw.out hd⟩
theorem all_xby (w : World) : Calls Tryd.prog 42 #[.string xby, .func (.func 64) #[] #[]] w fun e w' => e = .returned (.bool false) ∧ Drawn0 w w' := by
  have hz : xby.size = 3 := rfl
  go_enter Tryd.func42, Tryd.ntmps42
  go_wp2
  go_loopg [5] 1 (fun k s5 wr => ∃ i : Nat, i + k = 1 ∧ s5 = .int .i64 (i : Int) ∧ Aside (Drawn0 w wr))
  case atStart => exact ⟨0, by omega, rfl, Drawn0.refl _⟩
  case round =>
    obtain ⟨i, hi, rfl, hw⟩ := hrel
    match gk, i, hi with
    | 1, 0, _ =>
      go_wp2_with (go_at_call 64; refine (tb_120 _).mono ?_; rintro e w' ⟨rfl, hd⟩)
      go_roundg 0
      case measure => omega
      case rel => exact ⟨1, by omega, by go_num, drawn_trans hw.out hd⟩
    | 0, 1, _ =>
      go_wp2_with (go_at_call 64; refine (tb_32 _).mono ?_; rintro e w' ⟨rfl, hd⟩)
      go_ret
      exact ⟨rfl, drawn_trans hw.out hd⟩
theorem token_xd1 (w : World) : Calls Tryd.prog 46 #[.string xd1] w fun e w' => e = .returned (.bool true) ∧ Drawn0 w w' := by
  have hz : xd1.size = 3 := rfl
  go_enter Tryd.func46, Tryd.ntmps46
  go_wp2_with (first | (go_at_call 42; refine (all_xd1 _).mono ?_; rintro e w1 ⟨rfl, hd1⟩) | go_in)
  go_ret
  exact ⟨rfl, hd1⟩
theorem token_xby (w : World) : Calls Tryd.prog 46 #[.string xby] w fun e w' => e = .returned (.bool false) ∧ Drawn0 w w' := by
  have hz : xby.size = 3 := rfl
  go_enter Tryd.func46, Tryd.ntmps46
  go_wp2_with (first | (go_at_call 42; refine (all_xby _).mono ?_; rintro e w1 ⟨rfl, hd1⟩) | go_in)
  go_ret
  exact ⟨rfl, hd1⟩
def impl_Token.f (s : ByteArray) : Option Bool := if s = xd1 then some true else if s = xby then some false else none
theorem impl_Token.calls (s : ByteArray) (r : Bool) (w : World) (h : impl_Token.f s = some r) : Calls Tryd.prog 46 #[.string s] w fun e w' => e = .returned (.bool r) ∧ Drawn0 w w' := by
  unfold impl_Token.f at h
  split at h
  · rename_i e
    obtain rfl := Option.some.inj h
    rw [e]; exact token_xd1 w
  · split at h
    · rename_i e
      obtain rfl := Option.some.inj h
      rw [e]; exact token_xby w
    · cases h
end Go.Proofs.YtikeagkcekkioaaDoor.Foreign
