/-
  No cell of these rows narrows 'for every input' (looked for: loops, veiled, ifaces, maps, wideKeys, modest, calm, conditions, laid).
  DERIVED. THE GIVEN ROWS OF THIS SEAT. 9 by the template 'for every input the law returns true; each argument reads behind the call as it read before'; 0 by the template 'total and deterministic' (their statements: YtoaijdlablanfaaTotals.lean).
  GIVEN WITH THE SEED: the statements are not yours to turn. If you find one false, say at which input.
  Laid BY PROGRAM, IN A SANDBOX (cutbox-rows.mjs): the forced cells as the released guide's own fill.sh prints them over the translation bc70a5e6bf8f1b02… (all of the seat's roots in one cut). By AI agents, Wed Nov 11 2026. No macro, syntax, notation, axiom, sorry.
-/
import Derived.Test.YtoaijdlablanfaaChecked
import GoSem.Claim
import GoSem.ClaimJoined
import GoSem.ClaimMapViews
import Derived.JoinedTies
import Derived.KernelRfl
namespace Go.Proofs.Ytoaijdlablanfaa
/- THE CELL 'sum', in the pinned program and in every row, IS THE sha256 OF THE DUMP (.gsa) THAT YtoaijdlablanfaaProg.lean LOADS. Nothing in Lean hashes anything: it is a label: what it is worth is what the hold of that sum in a sandbox is worth. -/
noncomputable def Try.pinned : Pinned := { name := "ytoaijdlablanfaa", sum := "bc70a5e6bf8f1b02d69b07d11a24ab1f9cefcc8835d21445bf21143a2396e3b8", checked := Try.checked }
namespace Rows
def none {H : Type} : Left H := { results := [], args := [] }

/-- 'laws.FnExactTakeLine': WHATEVER THE INPUT: true; the input reads as it did. -/
def fnExactTakeLineSpec : ChangeSpec := { name := "fnExactTakeLine", fn := fun _ => fun
  | [d] => { results := [.lit (.bool true)], args := [d] }
  | _ => none }
def fnExactTakeLineRow : OpenClaim := { program := "ytoaijdlablanfaa", sum := "bc70a5e6bf8f1b02d69b07d11a24ab1f9cefcc8835d21445bf21143a2396e3b8", func := "loop.example/g00651/laws.FnExactTakeLine", spec := "fnExactTakeLine", inPlace := ["internal/bytealg.IndexByteString", "internal/bytealg.IndexString"], named := ["internal/bytealg.MaxLen"], apart := false }
def FnExactTakeLineSaid : Prop := fnExactTakeLineRow.holds Try.pinned (OpenSpec.ofChange fnExactTakeLineSpec)

/-- ITS FALSE NEIGHBOUR: 'it returns false'. Refute it at one input. -/
def fnExactTakeLineWrong : ChangeSpec := { name := "fnExactTakeLine", fn := fun _ => fun
  | [d] => { results := [.lit (.bool false)], args := [d] }
  | _ => none }
def FnExactTakeLineWrongFalsely : Prop := fnExactTakeLineRow.holds Try.pinned (OpenSpec.ofChange fnExactTakeLineWrong)

/-- 'laws.FnExactSha1': WHATEVER THE INPUT: true; the input reads as it did. -/
def fnExactSha1Spec : ChangeSpec := { name := "fnExactSha1", fn := fun _ => fun
  | [d] => { results := [.lit (.bool true)], args := [d] }
  | _ => none }
def fnExactSha1Row : OpenClaim := { program := "ytoaijdlablanfaa", sum := "bc70a5e6bf8f1b02d69b07d11a24ab1f9cefcc8835d21445bf21143a2396e3b8", func := "loop.example/g00651/laws.FnExactSha1", spec := "fnExactSha1", apart := false }
def FnExactSha1Said : Prop := fnExactSha1Row.holds Try.pinned (OpenSpec.ofChange fnExactSha1Spec)

/-- ITS FALSE NEIGHBOUR: 'it returns false'. Refute it at one input. -/
def fnExactSha1Wrong : ChangeSpec := { name := "fnExactSha1", fn := fun _ => fun
  | [d] => { results := [.lit (.bool false)], args := [d] }
  | _ => none }
def FnExactSha1WrongFalsely : Prop := fnExactSha1Row.holds Try.pinned (OpenSpec.ofChange fnExactSha1Wrong)

/-- 'laws.FnExactShaEnd': WHATEVER THE INPUT: true; the input reads as it did. -/
def fnExactShaEndSpec : ChangeSpec := { name := "fnExactShaEnd", fn := fun _ => fun
  | [d] => { results := [.lit (.bool true)], args := [d] }
  | _ => none }
def fnExactShaEndRow : OpenClaim := { program := "ytoaijdlablanfaa", sum := "bc70a5e6bf8f1b02d69b07d11a24ab1f9cefcc8835d21445bf21143a2396e3b8", func := "loop.example/g00651/laws.FnExactShaEnd", spec := "fnExactShaEnd", apart := false }
def FnExactShaEndSaid : Prop := fnExactShaEndRow.holds Try.pinned (OpenSpec.ofChange fnExactShaEndSpec)

/-- ITS FALSE NEIGHBOUR: 'it returns false'. Refute it at one input. -/
def fnExactShaEndWrong : ChangeSpec := { name := "fnExactShaEnd", fn := fun _ => fun
  | [d] => { results := [.lit (.bool false)], args := [d] }
  | _ => none }
def FnExactShaEndWrongFalsely : Prop := fnExactShaEndRow.holds Try.pinned (OpenSpec.ofChange fnExactShaEndWrong)

/-- 'laws.FnExactShaAdd': WHATEVER THE INPUT: true; the input reads as it did. -/
def fnExactShaAddSpec : ChangeSpec := { name := "fnExactShaAdd", fn := fun _ => fun
  | [d1, d2] => { results := [.lit (.bool true)], args := [d1, d2] }
  | _ => none }
def fnExactShaAddRow : OpenClaim := { program := "ytoaijdlablanfaa", sum := "bc70a5e6bf8f1b02d69b07d11a24ab1f9cefcc8835d21445bf21143a2396e3b8", func := "loop.example/g00651/laws.FnExactShaAdd", spec := "fnExactShaAdd", apart := false }
def FnExactShaAddSaid : Prop := fnExactShaAddRow.holds Try.pinned (OpenSpec.ofChange fnExactShaAddSpec)

/-- ITS FALSE NEIGHBOUR: 'it returns false'. Refute it at one input. -/
def fnExactShaAddWrong : ChangeSpec := { name := "fnExactShaAdd", fn := fun _ => fun
  | [d1, d2] => { results := [.lit (.bool false)], args := [d1, d2] }
  | _ => none }
def FnExactShaAddWrongFalsely : Prop := fnExactShaAddRow.holds Try.pinned (OpenSpec.ofChange fnExactShaAddWrong)

/-- 'laws.FnExactLabel': WHATEVER THE INPUT: true; the input reads as it did. -/
def fnExactLabelSpec : ChangeSpec := { name := "fnExactLabel", fn := fun _ => fun
  | [d] => { results := [.lit (.bool true)], args := [d] }
  | _ => none }
def fnExactLabelRow : OpenClaim := { program := "ytoaijdlablanfaa", sum := "bc70a5e6bf8f1b02d69b07d11a24ab1f9cefcc8835d21445bf21143a2396e3b8", func := "loop.example/g00651/laws.FnExactLabel", spec := "fnExactLabel", apart := false }
def FnExactLabelSaid : Prop := fnExactLabelRow.holds Try.pinned (OpenSpec.ofChange fnExactLabelSpec)

/-- ITS FALSE NEIGHBOUR: 'it returns false'. Refute it at one input. -/
def fnExactLabelWrong : ChangeSpec := { name := "fnExactLabel", fn := fun _ => fun
  | [d] => { results := [.lit (.bool false)], args := [d] }
  | _ => none }
def FnExactLabelWrongFalsely : Prop := fnExactLabelRow.holds Try.pinned (OpenSpec.ofChange fnExactLabelWrong)

/-- 'laws.FnTurns': WHATEVER THE INPUT: true; the input reads as it did. -/
def fnTurnsSpec : ChangeSpec := { name := "fnTurns", fn := fun _ => fun
  | [d] => { results := [.lit (.bool true)], args := [d] }
  | _ => none }
def fnTurnsRow : OpenClaim := { program := "ytoaijdlablanfaa", sum := "bc70a5e6bf8f1b02d69b07d11a24ab1f9cefcc8835d21445bf21143a2396e3b8", func := "loop.example/g00651/laws.FnTurns", spec := "fnTurns", apart := false }
def FnTurnsSaid : Prop := fnTurnsRow.holds Try.pinned (OpenSpec.ofChange fnTurnsSpec)

/-- ITS FALSE NEIGHBOUR: 'it returns false'. Refute it at one input. -/
def fnTurnsWrong : ChangeSpec := { name := "fnTurns", fn := fun _ => fun
  | [d] => { results := [.lit (.bool false)], args := [d] }
  | _ => none }
def FnTurnsWrongFalsely : Prop := fnTurnsRow.holds Try.pinned (OpenSpec.ofChange fnTurnsWrong)

/-- 'laws.FnStreams': WHATEVER THE INPUT: true; the input reads as it did. -/
def fnStreamsSpec : ChangeSpec := { name := "fnStreams", fn := fun _ => fun
  | [d] => { results := [.lit (.bool true)], args := [d] }
  | _ => none }
def fnStreamsRow : OpenClaim := { program := "ytoaijdlablanfaa", sum := "bc70a5e6bf8f1b02d69b07d11a24ab1f9cefcc8835d21445bf21143a2396e3b8", func := "loop.example/g00651/laws.FnStreams", spec := "fnStreams", apart := false }
def FnStreamsSaid : Prop := fnStreamsRow.holds Try.pinned (OpenSpec.ofChange fnStreamsSpec)

/-- ITS FALSE NEIGHBOUR: 'it returns false'. Refute it at one input. -/
def fnStreamsWrong : ChangeSpec := { name := "fnStreams", fn := fun _ => fun
  | [d] => { results := [.lit (.bool false)], args := [d] }
  | _ => none }
def FnStreamsWrongFalsely : Prop := fnStreamsRow.holds Try.pinned (OpenSpec.ofChange fnStreamsWrong)

/-- 'laws.FnBlocks': WHATEVER THE INPUT: true; the input reads as it did. -/
def fnBlocksSpec : ChangeSpec := { name := "fnBlocks", fn := fun _ => fun
  | [d] => { results := [.lit (.bool true)], args := [d] }
  | _ => none }
def fnBlocksRow : OpenClaim := { program := "ytoaijdlablanfaa", sum := "bc70a5e6bf8f1b02d69b07d11a24ab1f9cefcc8835d21445bf21143a2396e3b8", func := "loop.example/g00651/laws.FnBlocks", spec := "fnBlocks", apart := false }
def FnBlocksSaid : Prop := fnBlocksRow.holds Try.pinned (OpenSpec.ofChange fnBlocksSpec)

/-- ITS FALSE NEIGHBOUR: 'it returns false'. Refute it at one input. -/
def fnBlocksWrong : ChangeSpec := { name := "fnBlocks", fn := fun _ => fun
  | [d] => { results := [.lit (.bool false)], args := [d] }
  | _ => none }
def FnBlocksWrongFalsely : Prop := fnBlocksRow.holds Try.pinned (OpenSpec.ofChange fnBlocksWrong)

/-- 'laws.FnLabels': WHATEVER THE INPUT: true; the input reads as it did. -/
def fnLabelsSpec : ChangeSpec := { name := "fnLabels", fn := fun _ => fun
  | [d] => { results := [.lit (.bool true)], args := [d] }
  | _ => none }
def fnLabelsRow : OpenClaim := { program := "ytoaijdlablanfaa", sum := "bc70a5e6bf8f1b02d69b07d11a24ab1f9cefcc8835d21445bf21143a2396e3b8", func := "loop.example/g00651/laws.FnLabels", spec := "fnLabels", inPlace := ["internal/bytealg.IndexByteString"], apart := false }
def FnLabelsSaid : Prop := fnLabelsRow.holds Try.pinned (OpenSpec.ofChange fnLabelsSpec)

/-- ITS FALSE NEIGHBOUR: 'it returns false'. Refute it at one input. -/
def fnLabelsWrong : ChangeSpec := { name := "fnLabels", fn := fun _ => fun
  | [d] => { results := [.lit (.bool false)], args := [d] }
  | _ => none }
def FnLabelsWrongFalsely : Prop := fnLabelsRow.holds Try.pinned (OpenSpec.ofChange fnLabelsWrong)

/- THE SECOND FORM. 'bulk': how many values and letters a reading holds, each counted each time it is reached (what is shared counts as often as it is met; a slice's spare places count too). A statement '..UptoSaid' is the law's where the arguments, and the package variables that the reading takes, are together of bulk at most 1048576: NARROWER than '..Said'. Prove '..Said' where nothing that the law and all that it calls make is longer than what came in: it says more and counts as full. Else prove '..UptoSaid'. A law counts once. -/
mutual
def uptoBulk {H : Type} : DataW H → Nat
  | .lit (.string bytes) => bytes.length + 1
  | .lit _ => 1
  | .nil => 1
  | .ptr d => uptoBulk d + 1
  | .slice elems spare => uptoBulkAll elems + uptoBulkAll spare + 1
  | .agg parts => uptoBulkAll parts + 1
  | .iface _ d => uptoBulk d + 1
  | .map entries => uptoBulkEntries entries + 1
  | .held _ => 1
def uptoBulkAll {H : Type} : List (DataW H) → Nat
  | [] => 0
  | d :: r => uptoBulk d + uptoBulkAll r
def uptoBulkEntries {H : Type} : List (Lit × DataW H) → Nat
  | [] => 0
  | x :: r => uptoBulkEntry x + uptoBulkEntries r
def uptoBulkEntry {H : Type} : Lit × DataW H → Nat
  | (.string bytes, d) => bytes.length + uptoBulk d + 1
  | (_, d) => uptoBulk d + 1
 end
def uptoSmall : (H : Type) → List (DataW H) → Bool := fun _ ds => decide (uptoBulkAll ds ≤ 1048576)
def OpenSpec.upto (s : _root_.Go.ChangeSpec) : _root_.Go.OpenSpec := { _root_.Go.OpenSpec.ofChange s with cond := some uptoSmall }

/-- 'laws.FnExactTakeLine', WHERE WHAT IT READS IS OF BULK AT MOST 1048576: true; the input reads as it did. -/
def fnExactTakeLineUptoRow : OpenClaim := { program := "ytoaijdlablanfaa", sum := "bc70a5e6bf8f1b02d69b07d11a24ab1f9cefcc8835d21445bf21143a2396e3b8", func := "loop.example/g00651/laws.FnExactTakeLine", spec := "fnExactTakeLine", inPlace := ["internal/bytealg.IndexByteString", "internal/bytealg.IndexString"], named := ["internal/bytealg.MaxLen"], apart := false, narrowed := true }
def FnExactTakeLineUptoSaid : Prop := fnExactTakeLineUptoRow.holds Try.pinned (OpenSpec.upto fnExactTakeLineSpec)

/-- 'laws.FnExactSha1', WHERE WHAT IT READS IS OF BULK AT MOST 1048576: true; the input reads as it did. -/
def fnExactSha1UptoRow : OpenClaim := { program := "ytoaijdlablanfaa", sum := "bc70a5e6bf8f1b02d69b07d11a24ab1f9cefcc8835d21445bf21143a2396e3b8", func := "loop.example/g00651/laws.FnExactSha1", spec := "fnExactSha1", apart := false, narrowed := true }
def FnExactSha1UptoSaid : Prop := fnExactSha1UptoRow.holds Try.pinned (OpenSpec.upto fnExactSha1Spec)

/-- 'laws.FnExactShaEnd', WHERE WHAT IT READS IS OF BULK AT MOST 1048576: true; the input reads as it did. -/
def fnExactShaEndUptoRow : OpenClaim := { program := "ytoaijdlablanfaa", sum := "bc70a5e6bf8f1b02d69b07d11a24ab1f9cefcc8835d21445bf21143a2396e3b8", func := "loop.example/g00651/laws.FnExactShaEnd", spec := "fnExactShaEnd", apart := false, narrowed := true }
def FnExactShaEndUptoSaid : Prop := fnExactShaEndUptoRow.holds Try.pinned (OpenSpec.upto fnExactShaEndSpec)

/-- 'laws.FnExactShaAdd', WHERE WHAT IT READS IS OF BULK AT MOST 1048576: true; the input reads as it did. -/
def fnExactShaAddUptoRow : OpenClaim := { program := "ytoaijdlablanfaa", sum := "bc70a5e6bf8f1b02d69b07d11a24ab1f9cefcc8835d21445bf21143a2396e3b8", func := "loop.example/g00651/laws.FnExactShaAdd", spec := "fnExactShaAdd", apart := false, narrowed := true }
def FnExactShaAddUptoSaid : Prop := fnExactShaAddUptoRow.holds Try.pinned (OpenSpec.upto fnExactShaAddSpec)

/-- 'laws.FnExactLabel', WHERE WHAT IT READS IS OF BULK AT MOST 1048576: true; the input reads as it did. -/
def fnExactLabelUptoRow : OpenClaim := { program := "ytoaijdlablanfaa", sum := "bc70a5e6bf8f1b02d69b07d11a24ab1f9cefcc8835d21445bf21143a2396e3b8", func := "loop.example/g00651/laws.FnExactLabel", spec := "fnExactLabel", apart := false, narrowed := true }
def FnExactLabelUptoSaid : Prop := fnExactLabelUptoRow.holds Try.pinned (OpenSpec.upto fnExactLabelSpec)

/-- 'laws.FnTurns', WHERE WHAT IT READS IS OF BULK AT MOST 1048576: true; the input reads as it did. -/
def fnTurnsUptoRow : OpenClaim := { program := "ytoaijdlablanfaa", sum := "bc70a5e6bf8f1b02d69b07d11a24ab1f9cefcc8835d21445bf21143a2396e3b8", func := "loop.example/g00651/laws.FnTurns", spec := "fnTurns", apart := false, narrowed := true }
def FnTurnsUptoSaid : Prop := fnTurnsUptoRow.holds Try.pinned (OpenSpec.upto fnTurnsSpec)

/-- 'laws.FnStreams', WHERE WHAT IT READS IS OF BULK AT MOST 1048576: true; the input reads as it did. -/
def fnStreamsUptoRow : OpenClaim := { program := "ytoaijdlablanfaa", sum := "bc70a5e6bf8f1b02d69b07d11a24ab1f9cefcc8835d21445bf21143a2396e3b8", func := "loop.example/g00651/laws.FnStreams", spec := "fnStreams", apart := false, narrowed := true }
def FnStreamsUptoSaid : Prop := fnStreamsUptoRow.holds Try.pinned (OpenSpec.upto fnStreamsSpec)

/-- 'laws.FnBlocks', WHERE WHAT IT READS IS OF BULK AT MOST 1048576: true; the input reads as it did. -/
def fnBlocksUptoRow : OpenClaim := { program := "ytoaijdlablanfaa", sum := "bc70a5e6bf8f1b02d69b07d11a24ab1f9cefcc8835d21445bf21143a2396e3b8", func := "loop.example/g00651/laws.FnBlocks", spec := "fnBlocks", apart := false, narrowed := true }
def FnBlocksUptoSaid : Prop := fnBlocksUptoRow.holds Try.pinned (OpenSpec.upto fnBlocksSpec)

/-- 'laws.FnLabels', WHERE WHAT IT READS IS OF BULK AT MOST 1048576: true; the input reads as it did. -/
def fnLabelsUptoRow : OpenClaim := { program := "ytoaijdlablanfaa", sum := "bc70a5e6bf8f1b02d69b07d11a24ab1f9cefcc8835d21445bf21143a2396e3b8", func := "loop.example/g00651/laws.FnLabels", spec := "fnLabels", inPlace := ["internal/bytealg.IndexByteString"], apart := false, narrowed := true }
def FnLabelsUptoSaid : Prop := fnLabelsUptoRow.holds Try.pinned (OpenSpec.upto fnLabelsSpec)

end Rows
end Go.Proofs.Ytoaijdlablanfaa
