/- What the library's IndexByte tells, as a function that the printed walks may call. No condition. -/
import Derived.Test.YtoaijdlablanfaaProg
import Derived.Test.YtoaijdlablanfaaVMore
import Derived.Below
import Derived.Deep.Draws
import Derived.Lib.Bytealg
import Derived.Tactics
namespace Go.Proofs.Ytoaijdlablanfaa.Foreign
open Go.RowKit Go.Proofs.YtoaijdlablanfaaV.PrintWords Go.Proofs.YtoaijdlablanfaaV.PrintLast Go.Proofs.YtoaijdlablanfaaV.PrintMore
def strings_IndexByte.f (a0 : ByteArray) (a1 : Int) : Option Int := some (Lib.indexByte a0.data.toList a1.toNat.toUInt8)
set_option maxRecDepth 100000 in
theorem inner_IndexByte (s : ByteArray) (c : Int) (w : World) :
    Calls Try.prog 89 #[.string s, .int .u8 c] w fun e w' => e = .returned (.int .i64 (Lib.indexByte s.data.toList c.toNat.toUInt8)) ∧ Drawn0 w w' := by
  go_enter Try.func89, Try.ntmps89
  go_wp2
  rw [run_callFunc_extern Try.func90 (by kernel_rfl) (by kernel_rfl) (by kernel_rfl) (e := Extern.BytealgIndexByte.indexByte) (by kernel_rfl), Lib.run_indexByteString]
  simp only [Result.andThen]
  rw [Oper.upon_value]
  go_wp2
  go_ret
  exact ⟨rfl, by repeat (first | exact Drawn0.refl _ | apply Drawn0.step)⟩
set_option maxRecDepth 100000 in
theorem strings_IndexByte.calls (a0 : ByteArray) (a1 : Int) (r : Int) (w : World) (h : strings_IndexByte.f a0 a1 = some r) :
    Calls Try.prog 84 #[.string a0, .int .u8 a1] w fun e w' => e = .returned (.int .i64 r) ∧ Drawn0 w w' := by
  obtain rfl := Option.some.inj h
  go_enter Try.func84, Try.ntmps84
  go_wp2_with (first | (go_at_call 89; refine (inner_IndexByte a0 a1 _).mono ?_; rintro e w1 ⟨rfl, hd1⟩) | go_in)
  go_ret
  exact ⟨rfl, by first | exact hd1 | exact Drawn0.step hd1 | exact Drawn0.trans (by repeat (first | exact Drawn0.refl _ | apply Drawn0.step)) hd1⟩
end Go.Proofs.Ytoaijdlablanfaa.Foreign
