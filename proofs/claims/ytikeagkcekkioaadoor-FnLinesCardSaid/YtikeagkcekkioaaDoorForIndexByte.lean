/- What the library's IndexByte tells, as a function that the printed walks may call. No condition. -/
import Derived.Test.YtikeagkcekkioaaDoorProg
import Derived.Test.YtikeagkcekkioaaDoorWMore
import Derived.Below
import Derived.Deep.Draws
import Derived.Lib.Bytealg
import Derived.Tactics
namespace Go.Proofs.YtikeagkcekkioaaDoor.Foreign
open Go.RowKit Go.Proofs.YtikeagkcekkioaaDoorW.PrintWords Go.Proofs.YtikeagkcekkioaaDoorW.PrintLast Go.Proofs.YtikeagkcekkioaaDoorW.PrintMore
def strings_IndexByte.f (a0 : ByteArray) (a1 : Int) : Option Int := some (Lib.indexByte a0.data.toList a1.toNat.toUInt8)
set_option maxRecDepth 100000 in
theorem inner_IndexByte (s : ByteArray) (c : Int) (w : World) :
    Calls Tryd.prog 75 #[.string s, .int .u8 c] w fun e w' => e = .returned (.int .i64 (Lib.indexByte s.data.toList c.toNat.toUInt8)) ∧ Drawn0 w w' := by
  go_enter Tryd.func75, Tryd.ntmps75
  go_wp2
  rw [run_callFunc_extern Tryd.func90 (by kernel_rfl) (by kernel_rfl) (by kernel_rfl) (e := Extern.BytealgIndexByte.indexByte) (by kernel_rfl), Lib.run_indexByteString]
  simp only [Result.andThen]
  rw [Oper.upon_value]
  go_wp2
  go_ret
  exact ⟨rfl, by repeat (first | exact Drawn0.refl _ | apply Drawn0.step)⟩
set_option maxRecDepth 100000 in
theorem strings_IndexByte.calls (a0 : ByteArray) (a1 : Int) (r : Int) (w : World) (h : strings_IndexByte.f a0 a1 = some r) :
    Calls Tryd.prog 60 #[.string a0, .int .u8 a1] w fun e w' => e = .returned (.int .i64 r) ∧ Drawn0 w w' := by
  obtain rfl := Option.some.inj h
  go_enter Tryd.func60, Tryd.ntmps60
  go_wp2_with (first | (go_at_call 75; refine (inner_IndexByte a0 a1 _).mono ?_; rintro e w1 ⟨rfl, hd1⟩) | go_in)
  go_ret
  exact ⟨rfl, by first | exact hd1 | exact Drawn0.step hd1 | exact Drawn0.trans (by repeat (first | exact Drawn0.refl _ | apply Drawn0.step)) hd1⟩
end Go.Proofs.YtikeagkcekkioaaDoor.Foreign
