/-
  No cell of these rows narrows 'for every input' (looked for: loops, veiled, ifaces, maps, wideKeys, modest, calm, conditions, laid).
  DERIVED. THE GIVEN ROWS OF THIS SEAT. 12 by the template 'for every input the law returns true; each argument reads behind the call as it read before'; 0 by the template 'total and deterministic' (their statements: YtmplhlimccgcdaaTotals.lean).
  GIVEN WITH THE SEED: the statements are not yours to turn. If you find one false, say at which input.
  Laid BY PROGRAM, IN A SANDBOX (cutbox-rows.mjs): the forced cells as the released guide's own fill.sh prints them over the translation 3cc4af030a940da4… (all of the seat's roots in one cut). By AI agents, Wed Nov 11 2026. No macro, syntax, notation, axiom, sorry.
-/
import Derived.Test.YtmplhlimccgcdaaChecked
import GoSem.Claim
import GoSem.ClaimJoined
import GoSem.ClaimMapViews
import Derived.JoinedTies
import Derived.KernelRfl
namespace Go.Proofs.Ytmplhlimccgcdaa
/- THE CELL 'sum', in the pinned program and in every row, IS THE sha256 OF THE DUMP (.gsa) THAT YtmplhlimccgcdaaProg.lean LOADS. Nothing in Lean hashes anything: it is a label: what it is worth is what the hold of that sum in a sandbox is worth. -/
noncomputable def Try.pinned : Pinned := { name := "ytmplhlimccgcdaa", sum := "3cc4af030a940da4c62e704f934e3f18399ceddfd74f28f1c0f78567392f254a", checked := Try.checked }
namespace Rows
def none {H : Type} : Left H := { results := [], args := [] }

/-- 'laws.FnExactReadHex': WHATEVER THE INPUT: true; the input reads as it did. -/
def fnExactReadHexSpec : ChangeSpec := { name := "fnExactReadHex", fn := fun _ => fun
  | [d] => { results := [.lit (.bool true)], args := [d] }
  | _ => none }
def fnExactReadHexRow : OpenClaim := { program := "ytmplhlimccgcdaa", sum := "3cc4af030a940da4c62e704f934e3f18399ceddfd74f28f1c0f78567392f254a", func := "loop.example/g00651/laws.FnExactReadHex", spec := "fnExactReadHex", apart := false }
def FnExactReadHexSaid : Prop := fnExactReadHexRow.holds Try.pinned (OpenSpec.ofChange fnExactReadHexSpec)

/-- ITS FALSE NEIGHBOUR: 'it returns false'. Refute it at one input. -/
def fnExactReadHexWrong : ChangeSpec := { name := "fnExactReadHex", fn := fun _ => fun
  | [d] => { results := [.lit (.bool false)], args := [d] }
  | _ => none }
def FnExactReadHexWrongFalsely : Prop := fnExactReadHexRow.holds Try.pinned (OpenSpec.ofChange fnExactReadHexWrong)

/-- 'laws.FnExactShaNew': WHATEVER THE INPUT: true; the input reads as it did. -/
def fnExactShaNewSpec : ChangeSpec := { name := "fnExactShaNew", fn := fun _ => fun
  | [] => { results := [.lit (.bool true)], args := [] }
  | _ => none }
def fnExactShaNewRow : OpenClaim := { program := "ytmplhlimccgcdaa", sum := "3cc4af030a940da4c62e704f934e3f18399ceddfd74f28f1c0f78567392f254a", func := "loop.example/g00651/laws.FnExactShaNew", spec := "fnExactShaNew", apart := false }
def FnExactShaNewSaid : Prop := fnExactShaNewRow.holds Try.pinned (OpenSpec.ofChange fnExactShaNewSpec)

/-- ITS FALSE NEIGHBOUR: 'it returns false'. Refute it at one input. -/
def fnExactShaNewWrong : ChangeSpec := { name := "fnExactShaNew", fn := fun _ => fun
  | [] => { results := [.lit (.bool false)], args := [] }
  | _ => none }
def FnExactShaNewWrongFalsely : Prop := fnExactShaNewRow.holds Try.pinned (OpenSpec.ofChange fnExactShaNewWrong)

/-- 'laws.FnExactSchedule': WHATEVER THE INPUT: true; the input reads as it did. -/
def fnExactScheduleSpec : ChangeSpec := { name := "fnExactSchedule", fn := fun _ => fun
  | [d] => { results := [.lit (.bool true)], args := [d] }
  | _ => none }
def fnExactScheduleRow : OpenClaim := { program := "ytmplhlimccgcdaa", sum := "3cc4af030a940da4c62e704f934e3f18399ceddfd74f28f1c0f78567392f254a", func := "loop.example/g00651/laws.FnExactSchedule", spec := "fnExactSchedule", apart := false }
def FnExactScheduleSaid : Prop := fnExactScheduleRow.holds Try.pinned (OpenSpec.ofChange fnExactScheduleSpec)

/-- ITS FALSE NEIGHBOUR: 'it returns false'. Refute it at one input. -/
def fnExactScheduleWrong : ChangeSpec := { name := "fnExactSchedule", fn := fun _ => fun
  | [d] => { results := [.lit (.bool false)], args := [d] }
  | _ => none }
def FnExactScheduleWrongFalsely : Prop := fnExactScheduleRow.holds Try.pinned (OpenSpec.ofChange fnExactScheduleWrong)

/-- 'laws.FnExactSecondsOf': WHATEVER THE INPUT: true; the input reads as it did. -/
def fnExactSecondsOfSpec : ChangeSpec := { name := "fnExactSecondsOf", fn := fun _ => fun
  | [d] => { results := [.lit (.bool true)], args := [d] }
  | _ => none }
def fnExactSecondsOfRow : OpenClaim := { program := "ytmplhlimccgcdaa", sum := "3cc4af030a940da4c62e704f934e3f18399ceddfd74f28f1c0f78567392f254a", func := "loop.example/g00651/laws.FnExactSecondsOf", spec := "fnExactSecondsOf", apart := false }
def FnExactSecondsOfSaid : Prop := fnExactSecondsOfRow.holds Try.pinned (OpenSpec.ofChange fnExactSecondsOfSpec)

/-- ITS FALSE NEIGHBOUR: 'it returns false'. Refute it at one input. -/
def fnExactSecondsOfWrong : ChangeSpec := { name := "fnExactSecondsOf", fn := fun _ => fun
  | [d] => { results := [.lit (.bool false)], args := [d] }
  | _ => none }
def FnExactSecondsOfWrongFalsely : Prop := fnExactSecondsOfRow.holds Try.pinned (OpenSpec.ofChange fnExactSecondsOfWrong)

/-- 'laws.FnExactShaOk': WHATEVER THE INPUT: true; the input reads as it did. -/
def fnExactShaOkSpec : ChangeSpec := { name := "fnExactShaOk", fn := fun _ => fun
  | [d] => { results := [.lit (.bool true)], args := [d] }
  | _ => none }
def fnExactShaOkRow : OpenClaim := { program := "ytmplhlimccgcdaa", sum := "3cc4af030a940da4c62e704f934e3f18399ceddfd74f28f1c0f78567392f254a", func := "loop.example/g00651/laws.FnExactShaOk", spec := "fnExactShaOk", apart := false }
def FnExactShaOkSaid : Prop := fnExactShaOkRow.holds Try.pinned (OpenSpec.ofChange fnExactShaOkSpec)

/-- ITS FALSE NEIGHBOUR: 'it returns false'. Refute it at one input. -/
def fnExactShaOkWrong : ChangeSpec := { name := "fnExactShaOk", fn := fun _ => fun
  | [d] => { results := [.lit (.bool false)], args := [d] }
  | _ => none }
def FnExactShaOkWrongFalsely : Prop := fnExactShaOkRow.holds Try.pinned (OpenSpec.ofChange fnExactShaOkWrong)

/-- 'laws.FnExactCivilOf': WHATEVER THE INPUT: true; the input reads as it did. -/
def fnExactCivilOfSpec : ChangeSpec := { name := "fnExactCivilOf", fn := fun _ => fun
  | [d] => { results := [.lit (.bool true)], args := [d] }
  | _ => none }
def fnExactCivilOfRow : OpenClaim := { program := "ytmplhlimccgcdaa", sum := "3cc4af030a940da4c62e704f934e3f18399ceddfd74f28f1c0f78567392f254a", func := "loop.example/g00651/laws.FnExactCivilOf", spec := "fnExactCivilOf", apart := false }
def FnExactCivilOfSaid : Prop := fnExactCivilOfRow.holds Try.pinned (OpenSpec.ofChange fnExactCivilOfSpec)

/-- ITS FALSE NEIGHBOUR: 'it returns false'. Refute it at one input. -/
def fnExactCivilOfWrong : ChangeSpec := { name := "fnExactCivilOf", fn := fun _ => fun
  | [d] => { results := [.lit (.bool false)], args := [d] }
  | _ => none }
def FnExactCivilOfWrongFalsely : Prop := fnExactCivilOfRow.holds Try.pinned (OpenSpec.ofChange fnExactCivilOfWrong)

/-- 'laws.FnExactStoreOk': WHATEVER THE INPUT: true; the input reads as it did. -/
def fnExactStoreOkSpec : ChangeSpec := { name := "fnExactStoreOk", fn := fun _ => fun
  | [d] => { results := [.lit (.bool true)], args := [d] }
  | _ => none }
def fnExactStoreOkRow : OpenClaim := { program := "ytmplhlimccgcdaa", sum := "3cc4af030a940da4c62e704f934e3f18399ceddfd74f28f1c0f78567392f254a", func := "loop.example/g00651/laws.FnExactStoreOk", spec := "fnExactStoreOk", apart := false }
def FnExactStoreOkSaid : Prop := fnExactStoreOkRow.holds Try.pinned (OpenSpec.ofChange fnExactStoreOkSpec)

/-- ITS FALSE NEIGHBOUR: 'it returns false'. Refute it at one input. -/
def fnExactStoreOkWrong : ChangeSpec := { name := "fnExactStoreOk", fn := fun _ => fun
  | [d] => { results := [.lit (.bool false)], args := [d] }
  | _ => none }
def FnExactStoreOkWrongFalsely : Prop := fnExactStoreOkRow.holds Try.pinned (OpenSpec.ofChange fnExactStoreOkWrong)

/-- 'laws.FnExactLoose': WHATEVER THE INPUT: true; the input reads as it did. -/
def fnExactLooseSpec : ChangeSpec := { name := "fnExactLoose", fn := fun _ => fun
  | [d] => { results := [.lit (.bool true)], args := [d] }
  | _ => none }
def fnExactLooseRow : OpenClaim := { program := "ytmplhlimccgcdaa", sum := "3cc4af030a940da4c62e704f934e3f18399ceddfd74f28f1c0f78567392f254a", func := "loop.example/g00651/laws.FnExactLoose", spec := "fnExactLoose", apart := false }
def FnExactLooseSaid : Prop := fnExactLooseRow.holds Try.pinned (OpenSpec.ofChange fnExactLooseSpec)

/-- ITS FALSE NEIGHBOUR: 'it returns false'. Refute it at one input. -/
def fnExactLooseWrong : ChangeSpec := { name := "fnExactLoose", fn := fun _ => fun
  | [d] => { results := [.lit (.bool false)], args := [d] }
  | _ => none }
def FnExactLooseWrongFalsely : Prop := fnExactLooseRow.holds Try.pinned (OpenSpec.ofChange fnExactLooseWrong)

/-- 'laws.FnExactCompress': WHATEVER THE INPUT: true; the input reads as it did. -/
def fnExactCompressSpec : ChangeSpec := { name := "fnExactCompress", fn := fun _ => fun
  | [d1, d2] => { results := [.lit (.bool true)], args := [d1, d2] }
  | _ => none }
def fnExactCompressRow : OpenClaim := { program := "ytmplhlimccgcdaa", sum := "3cc4af030a940da4c62e704f934e3f18399ceddfd74f28f1c0f78567392f254a", func := "loop.example/g00651/laws.FnExactCompress", spec := "fnExactCompress", apart := false }
def FnExactCompressSaid : Prop := fnExactCompressRow.holds Try.pinned (OpenSpec.ofChange fnExactCompressSpec)

/-- ITS FALSE NEIGHBOUR: 'it returns false'. Refute it at one input. -/
def fnExactCompressWrong : ChangeSpec := { name := "fnExactCompress", fn := fun _ => fun
  | [d1, d2] => { results := [.lit (.bool false)], args := [d1, d2] }
  | _ => none }
def FnExactCompressWrongFalsely : Prop := fnExactCompressRow.holds Try.pinned (OpenSpec.ofChange fnExactCompressWrong)

/-- 'laws.FnExactReadBase32': WHATEVER THE INPUT: true; the input reads as it did. -/
def fnExactReadBase32Spec : ChangeSpec := { name := "fnExactReadBase32", fn := fun _ => fun
  | [d] => { results := [.lit (.bool true)], args := [d] }
  | _ => none }
def fnExactReadBase32Row : OpenClaim := { program := "ytmplhlimccgcdaa", sum := "3cc4af030a940da4c62e704f934e3f18399ceddfd74f28f1c0f78567392f254a", func := "loop.example/g00651/laws.FnExactReadBase32", spec := "fnExactReadBase32", inPlace := ["internal/bytealg.IndexByteString"], apart := false }
def FnExactReadBase32Said : Prop := fnExactReadBase32Row.holds Try.pinned (OpenSpec.ofChange fnExactReadBase32Spec)

/-- ITS FALSE NEIGHBOUR: 'it returns false'. Refute it at one input. -/
def fnExactReadBase32Wrong : ChangeSpec := { name := "fnExactReadBase32", fn := fun _ => fun
  | [d] => { results := [.lit (.bool false)], args := [d] }
  | _ => none }
def FnExactReadBase32WrongFalsely : Prop := fnExactReadBase32Row.holds Try.pinned (OpenSpec.ofChange fnExactReadBase32Wrong)

/-- 'laws.FnExactReadLabel': WHATEVER THE INPUT: true; the input reads as it did. -/
def fnExactReadLabelSpec : ChangeSpec := { name := "fnExactReadLabel", fn := fun _ => fun
  | [d] => { results := [.lit (.bool true)], args := [d] }
  | _ => none }
def fnExactReadLabelRow : OpenClaim := { program := "ytmplhlimccgcdaa", sum := "3cc4af030a940da4c62e704f934e3f18399ceddfd74f28f1c0f78567392f254a", func := "loop.example/g00651/laws.FnExactReadLabel", spec := "fnExactReadLabel", inPlace := ["internal/bytealg.IndexByteString"], apart := false }
def FnExactReadLabelSaid : Prop := fnExactReadLabelRow.holds Try.pinned (OpenSpec.ofChange fnExactReadLabelSpec)

/-- ITS FALSE NEIGHBOUR: 'it returns false'. Refute it at one input. -/
def fnExactReadLabelWrong : ChangeSpec := { name := "fnExactReadLabel", fn := fun _ => fun
  | [d] => { results := [.lit (.bool false)], args := [d] }
  | _ => none }
def FnExactReadLabelWrongFalsely : Prop := fnExactReadLabelRow.holds Try.pinned (OpenSpec.ofChange fnExactReadLabelWrong)

/-- 'laws.FnExactToken': WHATEVER THE INPUT: true; the input reads as it did. -/
def fnExactTokenSpec : ChangeSpec := { name := "fnExactToken", fn := fun _ => fun
  | [d] => { results := [.lit (.bool true)], args := [d] }
  | _ => none }
def fnExactTokenRow : OpenClaim := { program := "ytmplhlimccgcdaa", sum := "3cc4af030a940da4c62e704f934e3f18399ceddfd74f28f1c0f78567392f254a", func := "loop.example/g00651/laws.FnExactToken", spec := "fnExactToken", inPlace := ["internal/bytealg.IndexByteString"], unfollowed := true, recurses := true, apart := false }
def FnExactTokenSaid : Prop := fnExactTokenRow.holds Try.pinned (OpenSpec.ofChange fnExactTokenSpec)

/-- ITS FALSE NEIGHBOUR: 'it returns false'. Refute it at one input. -/
def fnExactTokenWrong : ChangeSpec := { name := "fnExactToken", fn := fun _ => fun
  | [d] => { results := [.lit (.bool false)], args := [d] }
  | _ => none }
def FnExactTokenWrongFalsely : Prop := fnExactTokenRow.holds Try.pinned (OpenSpec.ofChange fnExactTokenWrong)

/- THE SECOND FORM. 'bulk': how many values and letters a reading holds, each counted each time it is reached (what is shared counts as often as it is met; a slice's spare places count too). A statement '..UptoSaid' is the law's where the arguments, and the package variables that the reading takes, are together of bulk at most 1048576: NARROWER than '..Said'. Prove '..Said' where nothing that the law and all that it calls make is longer than what came in: it says more and counts as full. Else prove '..UptoSaid'. A law counts once. -/
mutual
def uptoBulk {H : Type} : DataW H → Nat
  | .lit (.string bytes) => bytes.length + 1
  | .lit _ => 1
  | .nil => 1
  | .ptr d => uptoBulk d + 1
  | .slice elems spare => uptoBulkAll elems + uptoBulkAll spare + 1
  | .agg parts => uptoBulkAll parts + 1
  | .iface _ d => uptoBulk d + 1
  | .map entries => uptoBulkEntries entries + 1
  | .held _ => 1
def uptoBulkAll {H : Type} : List (DataW H) → Nat
  | [] => 0
  | d :: r => uptoBulk d + uptoBulkAll r
def uptoBulkEntries {H : Type} : List (Lit × DataW H) → Nat
  | [] => 0
  | x :: r => uptoBulkEntry x + uptoBulkEntries r
def uptoBulkEntry {H : Type} : Lit × DataW H → Nat
  | (.string bytes, d) => bytes.length + uptoBulk d + 1
  | (_, d) => uptoBulk d + 1
 end
def uptoSmall : (H : Type) → List (DataW H) → Bool := fun _ ds => decide (uptoBulkAll ds ≤ 1048576)
def OpenSpec.upto (s : _root_.Go.ChangeSpec) : _root_.Go.OpenSpec := { _root_.Go.OpenSpec.ofChange s with cond := some uptoSmall }

/-- 'laws.FnExactReadHex', WHERE WHAT IT READS IS OF BULK AT MOST 1048576: true; the input reads as it did. -/
def fnExactReadHexUptoRow : OpenClaim := { program := "ytmplhlimccgcdaa", sum := "3cc4af030a940da4c62e704f934e3f18399ceddfd74f28f1c0f78567392f254a", func := "loop.example/g00651/laws.FnExactReadHex", spec := "fnExactReadHex", apart := false, narrowed := true }
def FnExactReadHexUptoSaid : Prop := fnExactReadHexUptoRow.holds Try.pinned (OpenSpec.upto fnExactReadHexSpec)

/-- 'laws.FnExactShaNew', WHERE WHAT IT READS IS OF BULK AT MOST 1048576: true; the input reads as it did. -/
def fnExactShaNewUptoRow : OpenClaim := { program := "ytmplhlimccgcdaa", sum := "3cc4af030a940da4c62e704f934e3f18399ceddfd74f28f1c0f78567392f254a", func := "loop.example/g00651/laws.FnExactShaNew", spec := "fnExactShaNew", apart := false, narrowed := true }
def FnExactShaNewUptoSaid : Prop := fnExactShaNewUptoRow.holds Try.pinned (OpenSpec.upto fnExactShaNewSpec)

/-- 'laws.FnExactSchedule', WHERE WHAT IT READS IS OF BULK AT MOST 1048576: true; the input reads as it did. -/
def fnExactScheduleUptoRow : OpenClaim := { program := "ytmplhlimccgcdaa", sum := "3cc4af030a940da4c62e704f934e3f18399ceddfd74f28f1c0f78567392f254a", func := "loop.example/g00651/laws.FnExactSchedule", spec := "fnExactSchedule", apart := false, narrowed := true }
def FnExactScheduleUptoSaid : Prop := fnExactScheduleUptoRow.holds Try.pinned (OpenSpec.upto fnExactScheduleSpec)

/-- 'laws.FnExactSecondsOf', WHERE WHAT IT READS IS OF BULK AT MOST 1048576: true; the input reads as it did. -/
def fnExactSecondsOfUptoRow : OpenClaim := { program := "ytmplhlimccgcdaa", sum := "3cc4af030a940da4c62e704f934e3f18399ceddfd74f28f1c0f78567392f254a", func := "loop.example/g00651/laws.FnExactSecondsOf", spec := "fnExactSecondsOf", apart := false, narrowed := true }
def FnExactSecondsOfUptoSaid : Prop := fnExactSecondsOfUptoRow.holds Try.pinned (OpenSpec.upto fnExactSecondsOfSpec)

/-- 'laws.FnExactShaOk', WHERE WHAT IT READS IS OF BULK AT MOST 1048576: true; the input reads as it did. -/
def fnExactShaOkUptoRow : OpenClaim := { program := "ytmplhlimccgcdaa", sum := "3cc4af030a940da4c62e704f934e3f18399ceddfd74f28f1c0f78567392f254a", func := "loop.example/g00651/laws.FnExactShaOk", spec := "fnExactShaOk", apart := false, narrowed := true }
def FnExactShaOkUptoSaid : Prop := fnExactShaOkUptoRow.holds Try.pinned (OpenSpec.upto fnExactShaOkSpec)

/-- 'laws.FnExactCivilOf', WHERE WHAT IT READS IS OF BULK AT MOST 1048576: true; the input reads as it did. -/
def fnExactCivilOfUptoRow : OpenClaim := { program := "ytmplhlimccgcdaa", sum := "3cc4af030a940da4c62e704f934e3f18399ceddfd74f28f1c0f78567392f254a", func := "loop.example/g00651/laws.FnExactCivilOf", spec := "fnExactCivilOf", apart := false, narrowed := true }
def FnExactCivilOfUptoSaid : Prop := fnExactCivilOfUptoRow.holds Try.pinned (OpenSpec.upto fnExactCivilOfSpec)

/-- 'laws.FnExactStoreOk', WHERE WHAT IT READS IS OF BULK AT MOST 1048576: true; the input reads as it did. -/
def fnExactStoreOkUptoRow : OpenClaim := { program := "ytmplhlimccgcdaa", sum := "3cc4af030a940da4c62e704f934e3f18399ceddfd74f28f1c0f78567392f254a", func := "loop.example/g00651/laws.FnExactStoreOk", spec := "fnExactStoreOk", apart := false, narrowed := true }
def FnExactStoreOkUptoSaid : Prop := fnExactStoreOkUptoRow.holds Try.pinned (OpenSpec.upto fnExactStoreOkSpec)

/-- 'laws.FnExactLoose', WHERE WHAT IT READS IS OF BULK AT MOST 1048576: true; the input reads as it did. -/
def fnExactLooseUptoRow : OpenClaim := { program := "ytmplhlimccgcdaa", sum := "3cc4af030a940da4c62e704f934e3f18399ceddfd74f28f1c0f78567392f254a", func := "loop.example/g00651/laws.FnExactLoose", spec := "fnExactLoose", apart := false, narrowed := true }
def FnExactLooseUptoSaid : Prop := fnExactLooseUptoRow.holds Try.pinned (OpenSpec.upto fnExactLooseSpec)

/-- 'laws.FnExactCompress', WHERE WHAT IT READS IS OF BULK AT MOST 1048576: true; the input reads as it did. -/
def fnExactCompressUptoRow : OpenClaim := { program := "ytmplhlimccgcdaa", sum := "3cc4af030a940da4c62e704f934e3f18399ceddfd74f28f1c0f78567392f254a", func := "loop.example/g00651/laws.FnExactCompress", spec := "fnExactCompress", apart := false, narrowed := true }
def FnExactCompressUptoSaid : Prop := fnExactCompressUptoRow.holds Try.pinned (OpenSpec.upto fnExactCompressSpec)

/-- 'laws.FnExactReadBase32', WHERE WHAT IT READS IS OF BULK AT MOST 1048576: true; the input reads as it did. -/
def fnExactReadBase32UptoRow : OpenClaim := { program := "ytmplhlimccgcdaa", sum := "3cc4af030a940da4c62e704f934e3f18399ceddfd74f28f1c0f78567392f254a", func := "loop.example/g00651/laws.FnExactReadBase32", spec := "fnExactReadBase32", inPlace := ["internal/bytealg.IndexByteString"], apart := false, narrowed := true }
def FnExactReadBase32UptoSaid : Prop := fnExactReadBase32UptoRow.holds Try.pinned (OpenSpec.upto fnExactReadBase32Spec)

/-- 'laws.FnExactReadLabel', WHERE WHAT IT READS IS OF BULK AT MOST 1048576: true; the input reads as it did. -/
def fnExactReadLabelUptoRow : OpenClaim := { program := "ytmplhlimccgcdaa", sum := "3cc4af030a940da4c62e704f934e3f18399ceddfd74f28f1c0f78567392f254a", func := "loop.example/g00651/laws.FnExactReadLabel", spec := "fnExactReadLabel", inPlace := ["internal/bytealg.IndexByteString"], apart := false, narrowed := true }
def FnExactReadLabelUptoSaid : Prop := fnExactReadLabelUptoRow.holds Try.pinned (OpenSpec.upto fnExactReadLabelSpec)

/-- 'laws.FnExactToken', WHERE WHAT IT READS IS OF BULK AT MOST 1048576: true; the input reads as it did. -/
def fnExactTokenUptoRow : OpenClaim := { program := "ytmplhlimccgcdaa", sum := "3cc4af030a940da4c62e704f934e3f18399ceddfd74f28f1c0f78567392f254a", func := "loop.example/g00651/laws.FnExactToken", spec := "fnExactToken", inPlace := ["internal/bytealg.IndexByteString"], unfollowed := true, recurses := true, apart := false, narrowed := true }
def FnExactTokenUptoSaid : Prop := fnExactTokenUptoRow.holds Try.pinned (OpenSpec.upto fnExactTokenSpec)

end Rows
end Go.Proofs.Ytmplhlimccgcdaa
