/-
  No cell of these rows narrows 'for every input' (looked for: loops, veiled, ifaces, maps, wideKeys, modest, calm, conditions, laid).
  DERIVED. THE GIVEN ROWS OF THIS SEAT. 12 by the template 'for every input the law returns true; each argument reads behind the call as it read before'; 0 by the template 'total and deterministic' (their statements: YtcehnamlnbhhnaaTotals.lean).
  GIVEN WITH THE SEED: the statements are not yours to turn. If you find one false, say at which input.
  Laid BY PROGRAM, IN A SANDBOX (cutbox-rows.mjs): the forced cells as the released guide's own fill.sh prints them over the translation 49398b0c70f6800b… (all of the seat's roots in one cut). By AI agents, Wed Nov 11 2026. No macro, syntax, notation, axiom, sorry.
-/
import Derived.Test.YtcehnamlnbhhnaaChecked
import GoSem.Claim
import GoSem.ClaimJoined
import GoSem.ClaimMapViews
import Derived.JoinedTies
import Derived.KernelRfl
namespace Go.Proofs.Ytcehnamlnbhhnaa
/- THE CELL 'sum', in the pinned program and in every row, IS THE sha256 OF THE DUMP (.gsa) THAT YtcehnamlnbhhnaaProg.lean LOADS. Nothing in Lean hashes anything: it is a label: what it is worth is what the hold of that sum in a sandbox is worth. -/
noncomputable def Try.pinned : Pinned := { name := "ytcehnamlnbhhnaa", sum := "49398b0c70f6800b1bbe02d9d0766a028ee5285ef17cd098ace2d67101b4a018", checked := Try.checked }
namespace Rows
def none {H : Type} : Left H := { results := [], args := [] }

/-- 'laws.FnExactConstants': WHATEVER THE INPUT: true; the input reads as it did. -/
def fnExactConstantsSpec : ChangeSpec := { name := "fnExactConstants", fn := fun _ => fun
  | [] => { results := [.lit (.bool true)], args := [] }
  | _ => none }
def fnExactConstantsRow : OpenClaim := { program := "ytcehnamlnbhhnaa", sum := "49398b0c70f6800b1bbe02d9d0766a028ee5285ef17cd098ace2d67101b4a018", func := "loop.example/g00651/laws.FnExactConstants", spec := "fnExactConstants", apart := false }
def FnExactConstantsSaid : Prop := fnExactConstantsRow.holds Try.pinned (OpenSpec.ofChange fnExactConstantsSpec)

/-- ITS FALSE NEIGHBOUR: 'it returns false'. Refute it at one input. -/
def fnExactConstantsWrong : ChangeSpec := { name := "fnExactConstants", fn := fun _ => fun
  | [] => { results := [.lit (.bool false)], args := [] }
  | _ => none }
def FnExactConstantsWrongFalsely : Prop := fnExactConstantsRow.holds Try.pinned (OpenSpec.ofChange fnExactConstantsWrong)

/-- 'laws.FnExactWeekday': WHATEVER THE INPUT: true; the input reads as it did. -/
def fnExactWeekdaySpec : ChangeSpec := { name := "fnExactWeekday", fn := fun _ => fun
  | [d] => { results := [.lit (.bool true)], args := [d] }
  | _ => none }
def fnExactWeekdayRow : OpenClaim := { program := "ytcehnamlnbhhnaa", sum := "49398b0c70f6800b1bbe02d9d0766a028ee5285ef17cd098ace2d67101b4a018", func := "loop.example/g00651/laws.FnExactWeekday", spec := "fnExactWeekday", apart := false }
def FnExactWeekdaySaid : Prop := fnExactWeekdayRow.holds Try.pinned (OpenSpec.ofChange fnExactWeekdaySpec)

/-- ITS FALSE NEIGHBOUR: 'it returns false'. Refute it at one input. -/
def fnExactWeekdayWrong : ChangeSpec := { name := "fnExactWeekday", fn := fun _ => fun
  | [d] => { results := [.lit (.bool false)], args := [d] }
  | _ => none }
def FnExactWeekdayWrongFalsely : Prop := fnExactWeekdayRow.holds Try.pinned (OpenSpec.ofChange fnExactWeekdayWrong)

/-- 'laws.FnExactCurOk': WHATEVER THE INPUT: true; the input reads as it did. -/
def fnExactCurOkSpec : ChangeSpec := { name := "fnExactCurOk", fn := fun _ => fun
  | [d] => { results := [.lit (.bool true)], args := [d] }
  | _ => none }
def fnExactCurOkRow : OpenClaim := { program := "ytcehnamlnbhhnaa", sum := "49398b0c70f6800b1bbe02d9d0766a028ee5285ef17cd098ace2d67101b4a018", func := "loop.example/g00651/laws.FnExactCurOk", spec := "fnExactCurOk", apart := false }
def FnExactCurOkSaid : Prop := fnExactCurOkRow.holds Try.pinned (OpenSpec.ofChange fnExactCurOkSpec)

/-- ITS FALSE NEIGHBOUR: 'it returns false'. Refute it at one input. -/
def fnExactCurOkWrong : ChangeSpec := { name := "fnExactCurOk", fn := fun _ => fun
  | [d] => { results := [.lit (.bool false)], args := [d] }
  | _ => none }
def FnExactCurOkWrongFalsely : Prop := fnExactCurOkRow.holds Try.pinned (OpenSpec.ofChange fnExactCurOkWrong)

/-- 'laws.FnExactTurn': WHATEVER THE INPUT: true; the input reads as it did. -/
def fnExactTurnSpec : ChangeSpec := { name := "fnExactTurn", fn := fun _ => fun
  | [d1, d2] => { results := [.lit (.bool true)], args := [d1, d2] }
  | _ => none }
def fnExactTurnRow : OpenClaim := { program := "ytcehnamlnbhhnaa", sum := "49398b0c70f6800b1bbe02d9d0766a028ee5285ef17cd098ace2d67101b4a018", func := "loop.example/g00651/laws.FnExactTurn", spec := "fnExactTurn", apart := false }
def FnExactTurnSaid : Prop := fnExactTurnRow.holds Try.pinned (OpenSpec.ofChange fnExactTurnSpec)

/-- ITS FALSE NEIGHBOUR: 'it returns false'. Refute it at one input. -/
def fnExactTurnWrong : ChangeSpec := { name := "fnExactTurn", fn := fun _ => fun
  | [d1, d2] => { results := [.lit (.bool false)], args := [d1, d2] }
  | _ => none }
def FnExactTurnWrongFalsely : Prop := fnExactTurnRow.holds Try.pinned (OpenSpec.ofChange fnExactTurnWrong)

/-- 'laws.FnExactTrim': WHATEVER THE INPUT: true; the input reads as it did. -/
def fnExactTrimSpec : ChangeSpec := { name := "fnExactTrim", fn := fun _ => fun
  | [d] => { results := [.lit (.bool true)], args := [d] }
  | _ => none }
def fnExactTrimRow : OpenClaim := { program := "ytcehnamlnbhhnaa", sum := "49398b0c70f6800b1bbe02d9d0766a028ee5285ef17cd098ace2d67101b4a018", func := "loop.example/g00651/laws.FnExactTrim", spec := "fnExactTrim", apart := false }
def FnExactTrimSaid : Prop := fnExactTrimRow.holds Try.pinned (OpenSpec.ofChange fnExactTrimSpec)

/-- ITS FALSE NEIGHBOUR: 'it returns false'. Refute it at one input. -/
def fnExactTrimWrong : ChangeSpec := { name := "fnExactTrim", fn := fun _ => fun
  | [d] => { results := [.lit (.bool false)], args := [d] }
  | _ => none }
def FnExactTrimWrongFalsely : Prop := fnExactTrimRow.holds Try.pinned (OpenSpec.ofChange fnExactTrimWrong)

/-- 'laws.FnExactFold': WHATEVER THE INPUT: true; the input reads as it did. -/
def fnExactFoldSpec : ChangeSpec := { name := "fnExactFold", fn := fun _ => fun
  | [d] => { results := [.lit (.bool true)], args := [d] }
  | _ => none }
def fnExactFoldRow : OpenClaim := { program := "ytcehnamlnbhhnaa", sum := "49398b0c70f6800b1bbe02d9d0766a028ee5285ef17cd098ace2d67101b4a018", func := "loop.example/g00651/laws.FnExactFold", spec := "fnExactFold", apart := false }
def FnExactFoldSaid : Prop := fnExactFoldRow.holds Try.pinned (OpenSpec.ofChange fnExactFoldSpec)

/-- ITS FALSE NEIGHBOUR: 'it returns false'. Refute it at one input. -/
def fnExactFoldWrong : ChangeSpec := { name := "fnExactFold", fn := fun _ => fun
  | [d] => { results := [.lit (.bool false)], args := [d] }
  | _ => none }
def FnExactFoldWrongFalsely : Prop := fnExactFoldRow.holds Try.pinned (OpenSpec.ofChange fnExactFoldWrong)

/-- 'laws.FnExactSameFold': WHATEVER THE INPUT: true; the input reads as it did. -/
def fnExactSameFoldSpec : ChangeSpec := { name := "fnExactSameFold", fn := fun _ => fun
  | [d1, d2] => { results := [.lit (.bool true)], args := [d1, d2] }
  | _ => none }
def fnExactSameFoldRow : OpenClaim := { program := "ytcehnamlnbhhnaa", sum := "49398b0c70f6800b1bbe02d9d0766a028ee5285ef17cd098ace2d67101b4a018", func := "loop.example/g00651/laws.FnExactSameFold", spec := "fnExactSameFold", apart := false }
def FnExactSameFoldSaid : Prop := fnExactSameFoldRow.holds Try.pinned (OpenSpec.ofChange fnExactSameFoldSpec)

/-- ITS FALSE NEIGHBOUR: 'it returns false'. Refute it at one input. -/
def fnExactSameFoldWrong : ChangeSpec := { name := "fnExactSameFold", fn := fun _ => fun
  | [d1, d2] => { results := [.lit (.bool false)], args := [d1, d2] }
  | _ => none }
def FnExactSameFoldWrongFalsely : Prop := fnExactSameFoldRow.holds Try.pinned (OpenSpec.ofChange fnExactSameFoldWrong)

/-- 'laws.FnExactTakeN': WHATEVER THE INPUT: true; the input reads as it did. -/
def fnExactTakeNSpec : ChangeSpec := { name := "fnExactTakeN", fn := fun _ => fun
  | [d1, d2] => { results := [.lit (.bool true)], args := [d1, d2] }
  | _ => none }
def fnExactTakeNRow : OpenClaim := { program := "ytcehnamlnbhhnaa", sum := "49398b0c70f6800b1bbe02d9d0766a028ee5285ef17cd098ace2d67101b4a018", func := "loop.example/g00651/laws.FnExactTakeN", spec := "fnExactTakeN", apart := false }
def FnExactTakeNSaid : Prop := fnExactTakeNRow.holds Try.pinned (OpenSpec.ofChange fnExactTakeNSpec)

/-- ITS FALSE NEIGHBOUR: 'it returns false'. Refute it at one input. -/
def fnExactTakeNWrong : ChangeSpec := { name := "fnExactTakeN", fn := fun _ => fun
  | [d1, d2] => { results := [.lit (.bool false)], args := [d1, d2] }
  | _ => none }
def FnExactTakeNWrongFalsely : Prop := fnExactTakeNRow.holds Try.pinned (OpenSpec.ofChange fnExactTakeNWrong)

/-- 'laws.FnExactQuote': WHATEVER THE INPUT: true; the input reads as it did. -/
def fnExactQuoteSpec : ChangeSpec := { name := "fnExactQuote", fn := fun _ => fun
  | [d] => { results := [.lit (.bool true)], args := [d] }
  | _ => none }
def fnExactQuoteRow : OpenClaim := { program := "ytcehnamlnbhhnaa", sum := "49398b0c70f6800b1bbe02d9d0766a028ee5285ef17cd098ace2d67101b4a018", func := "loop.example/g00651/laws.FnExactQuote", spec := "fnExactQuote", unfollowed := true, recurses := true, apart := false }
def FnExactQuoteSaid : Prop := fnExactQuoteRow.holds Try.pinned (OpenSpec.ofChange fnExactQuoteSpec)

/-- ITS FALSE NEIGHBOUR: 'it returns false'. Refute it at one input. -/
def fnExactQuoteWrong : ChangeSpec := { name := "fnExactQuote", fn := fun _ => fun
  | [d] => { results := [.lit (.bool false)], args := [d] }
  | _ => none }
def FnExactQuoteWrongFalsely : Prop := fnExactQuoteRow.holds Try.pinned (OpenSpec.ofChange fnExactQuoteWrong)

/-- 'laws.FnExactBase32': WHATEVER THE INPUT: true; the input reads as it did. -/
def fnExactBase32Spec : ChangeSpec := { name := "fnExactBase32", fn := fun _ => fun
  | [d] => { results := [.lit (.bool true)], args := [d] }
  | _ => none }
def fnExactBase32Row : OpenClaim := { program := "ytcehnamlnbhhnaa", sum := "49398b0c70f6800b1bbe02d9d0766a028ee5285ef17cd098ace2d67101b4a018", func := "loop.example/g00651/laws.FnExactBase32", spec := "fnExactBase32", apart := false }
def FnExactBase32Said : Prop := fnExactBase32Row.holds Try.pinned (OpenSpec.ofChange fnExactBase32Spec)

/-- ITS FALSE NEIGHBOUR: 'it returns false'. Refute it at one input. -/
def fnExactBase32Wrong : ChangeSpec := { name := "fnExactBase32", fn := fun _ => fun
  | [d] => { results := [.lit (.bool false)], args := [d] }
  | _ => none }
def FnExactBase32WrongFalsely : Prop := fnExactBase32Row.holds Try.pinned (OpenSpec.ofChange fnExactBase32Wrong)

/-- 'laws.FnExactCivilOk': WHATEVER THE INPUT: true; the input reads as it did. -/
def fnExactCivilOkSpec : ChangeSpec := { name := "fnExactCivilOk", fn := fun _ => fun
  | [d] => { results := [.lit (.bool true)], args := [d] }
  | _ => none }
def fnExactCivilOkRow : OpenClaim := { program := "ytcehnamlnbhhnaa", sum := "49398b0c70f6800b1bbe02d9d0766a028ee5285ef17cd098ace2d67101b4a018", func := "loop.example/g00651/laws.FnExactCivilOk", spec := "fnExactCivilOk", apart := false }
def FnExactCivilOkSaid : Prop := fnExactCivilOkRow.holds Try.pinned (OpenSpec.ofChange fnExactCivilOkSpec)

/-- ITS FALSE NEIGHBOUR: 'it returns false'. Refute it at one input. -/
def fnExactCivilOkWrong : ChangeSpec := { name := "fnExactCivilOk", fn := fun _ => fun
  | [d] => { results := [.lit (.bool false)], args := [d] }
  | _ => none }
def FnExactCivilOkWrongFalsely : Prop := fnExactCivilOkRow.holds Try.pinned (OpenSpec.ofChange fnExactCivilOkWrong)

/-- 'laws.FnExactUnquote': WHATEVER THE INPUT: true; the input reads as it did. -/
def fnExactUnquoteSpec : ChangeSpec := { name := "fnExactUnquote", fn := fun _ => fun
  | [d] => { results := [.lit (.bool true)], args := [d] }
  | _ => none }
def fnExactUnquoteRow : OpenClaim := { program := "ytcehnamlnbhhnaa", sum := "49398b0c70f6800b1bbe02d9d0766a028ee5285ef17cd098ace2d67101b4a018", func := "loop.example/g00651/laws.FnExactUnquote", spec := "fnExactUnquote", apart := false }
def FnExactUnquoteSaid : Prop := fnExactUnquoteRow.holds Try.pinned (OpenSpec.ofChange fnExactUnquoteSpec)

/-- ITS FALSE NEIGHBOUR: 'it returns false'. Refute it at one input. -/
def fnExactUnquoteWrong : ChangeSpec := { name := "fnExactUnquote", fn := fun _ => fun
  | [d] => { results := [.lit (.bool false)], args := [d] }
  | _ => none }
def FnExactUnquoteWrongFalsely : Prop := fnExactUnquoteRow.holds Try.pinned (OpenSpec.ofChange fnExactUnquoteWrong)

/- THE SECOND FORM. 'bulk': how many values and letters a reading holds, each counted each time it is reached (what is shared counts as often as it is met; a slice's spare places count too). A statement '..UptoSaid' is the law's where the arguments, and the package variables that the reading takes, are together of bulk at most 1048576: NARROWER than '..Said'. Prove '..Said' where nothing that the law and all that it calls make is longer than what came in: it says more and counts as full. Else prove '..UptoSaid'. A law counts once. -/
mutual
def uptoBulk {H : Type} : DataW H → Nat
  | .lit (.string bytes) => bytes.length + 1
  | .lit _ => 1
  | .nil => 1
  | .ptr d => uptoBulk d + 1
  | .slice elems spare => uptoBulkAll elems + uptoBulkAll spare + 1
  | .agg parts => uptoBulkAll parts + 1
  | .iface _ d => uptoBulk d + 1
  | .map entries => uptoBulkEntries entries + 1
  | .held _ => 1
def uptoBulkAll {H : Type} : List (DataW H) → Nat
  | [] => 0
  | d :: r => uptoBulk d + uptoBulkAll r
def uptoBulkEntries {H : Type} : List (Lit × DataW H) → Nat
  | [] => 0
  | x :: r => uptoBulkEntry x + uptoBulkEntries r
def uptoBulkEntry {H : Type} : Lit × DataW H → Nat
  | (.string bytes, d) => bytes.length + uptoBulk d + 1
  | (_, d) => uptoBulk d + 1
 end
def uptoSmall : (H : Type) → List (DataW H) → Bool := fun _ ds => decide (uptoBulkAll ds ≤ 1048576)
def OpenSpec.upto (s : _root_.Go.ChangeSpec) : _root_.Go.OpenSpec := { _root_.Go.OpenSpec.ofChange s with cond := some uptoSmall }

/-- 'laws.FnExactConstants', WHERE WHAT IT READS IS OF BULK AT MOST 1048576: true; the input reads as it did. -/
def fnExactConstantsUptoRow : OpenClaim := { program := "ytcehnamlnbhhnaa", sum := "49398b0c70f6800b1bbe02d9d0766a028ee5285ef17cd098ace2d67101b4a018", func := "loop.example/g00651/laws.FnExactConstants", spec := "fnExactConstants", apart := false, narrowed := true }
def FnExactConstantsUptoSaid : Prop := fnExactConstantsUptoRow.holds Try.pinned (OpenSpec.upto fnExactConstantsSpec)

/-- 'laws.FnExactWeekday', WHERE WHAT IT READS IS OF BULK AT MOST 1048576: true; the input reads as it did. -/
def fnExactWeekdayUptoRow : OpenClaim := { program := "ytcehnamlnbhhnaa", sum := "49398b0c70f6800b1bbe02d9d0766a028ee5285ef17cd098ace2d67101b4a018", func := "loop.example/g00651/laws.FnExactWeekday", spec := "fnExactWeekday", apart := false, narrowed := true }
def FnExactWeekdayUptoSaid : Prop := fnExactWeekdayUptoRow.holds Try.pinned (OpenSpec.upto fnExactWeekdaySpec)

/-- 'laws.FnExactCurOk', WHERE WHAT IT READS IS OF BULK AT MOST 1048576: true; the input reads as it did. -/
def fnExactCurOkUptoRow : OpenClaim := { program := "ytcehnamlnbhhnaa", sum := "49398b0c70f6800b1bbe02d9d0766a028ee5285ef17cd098ace2d67101b4a018", func := "loop.example/g00651/laws.FnExactCurOk", spec := "fnExactCurOk", apart := false, narrowed := true }
def FnExactCurOkUptoSaid : Prop := fnExactCurOkUptoRow.holds Try.pinned (OpenSpec.upto fnExactCurOkSpec)

/-- 'laws.FnExactTurn', WHERE WHAT IT READS IS OF BULK AT MOST 1048576: true; the input reads as it did. -/
def fnExactTurnUptoRow : OpenClaim := { program := "ytcehnamlnbhhnaa", sum := "49398b0c70f6800b1bbe02d9d0766a028ee5285ef17cd098ace2d67101b4a018", func := "loop.example/g00651/laws.FnExactTurn", spec := "fnExactTurn", apart := false, narrowed := true }
def FnExactTurnUptoSaid : Prop := fnExactTurnUptoRow.holds Try.pinned (OpenSpec.upto fnExactTurnSpec)

/-- 'laws.FnExactTrim', WHERE WHAT IT READS IS OF BULK AT MOST 1048576: true; the input reads as it did. -/
def fnExactTrimUptoRow : OpenClaim := { program := "ytcehnamlnbhhnaa", sum := "49398b0c70f6800b1bbe02d9d0766a028ee5285ef17cd098ace2d67101b4a018", func := "loop.example/g00651/laws.FnExactTrim", spec := "fnExactTrim", apart := false, narrowed := true }
def FnExactTrimUptoSaid : Prop := fnExactTrimUptoRow.holds Try.pinned (OpenSpec.upto fnExactTrimSpec)

/-- 'laws.FnExactFold', WHERE WHAT IT READS IS OF BULK AT MOST 1048576: true; the input reads as it did. -/
def fnExactFoldUptoRow : OpenClaim := { program := "ytcehnamlnbhhnaa", sum := "49398b0c70f6800b1bbe02d9d0766a028ee5285ef17cd098ace2d67101b4a018", func := "loop.example/g00651/laws.FnExactFold", spec := "fnExactFold", apart := false, narrowed := true }
def FnExactFoldUptoSaid : Prop := fnExactFoldUptoRow.holds Try.pinned (OpenSpec.upto fnExactFoldSpec)

/-- 'laws.FnExactSameFold', WHERE WHAT IT READS IS OF BULK AT MOST 1048576: true; the input reads as it did. -/
def fnExactSameFoldUptoRow : OpenClaim := { program := "ytcehnamlnbhhnaa", sum := "49398b0c70f6800b1bbe02d9d0766a028ee5285ef17cd098ace2d67101b4a018", func := "loop.example/g00651/laws.FnExactSameFold", spec := "fnExactSameFold", apart := false, narrowed := true }
def FnExactSameFoldUptoSaid : Prop := fnExactSameFoldUptoRow.holds Try.pinned (OpenSpec.upto fnExactSameFoldSpec)

/-- 'laws.FnExactTakeN', WHERE WHAT IT READS IS OF BULK AT MOST 1048576: true; the input reads as it did. -/
def fnExactTakeNUptoRow : OpenClaim := { program := "ytcehnamlnbhhnaa", sum := "49398b0c70f6800b1bbe02d9d0766a028ee5285ef17cd098ace2d67101b4a018", func := "loop.example/g00651/laws.FnExactTakeN", spec := "fnExactTakeN", apart := false, narrowed := true }
def FnExactTakeNUptoSaid : Prop := fnExactTakeNUptoRow.holds Try.pinned (OpenSpec.upto fnExactTakeNSpec)

/-- 'laws.FnExactQuote', WHERE WHAT IT READS IS OF BULK AT MOST 1048576: true; the input reads as it did. -/
def fnExactQuoteUptoRow : OpenClaim := { program := "ytcehnamlnbhhnaa", sum := "49398b0c70f6800b1bbe02d9d0766a028ee5285ef17cd098ace2d67101b4a018", func := "loop.example/g00651/laws.FnExactQuote", spec := "fnExactQuote", unfollowed := true, recurses := true, apart := false, narrowed := true }
def FnExactQuoteUptoSaid : Prop := fnExactQuoteUptoRow.holds Try.pinned (OpenSpec.upto fnExactQuoteSpec)

/-- 'laws.FnExactBase32', WHERE WHAT IT READS IS OF BULK AT MOST 1048576: true; the input reads as it did. -/
def fnExactBase32UptoRow : OpenClaim := { program := "ytcehnamlnbhhnaa", sum := "49398b0c70f6800b1bbe02d9d0766a028ee5285ef17cd098ace2d67101b4a018", func := "loop.example/g00651/laws.FnExactBase32", spec := "fnExactBase32", apart := false, narrowed := true }
def FnExactBase32UptoSaid : Prop := fnExactBase32UptoRow.holds Try.pinned (OpenSpec.upto fnExactBase32Spec)

/-- 'laws.FnExactCivilOk', WHERE WHAT IT READS IS OF BULK AT MOST 1048576: true; the input reads as it did. -/
def fnExactCivilOkUptoRow : OpenClaim := { program := "ytcehnamlnbhhnaa", sum := "49398b0c70f6800b1bbe02d9d0766a028ee5285ef17cd098ace2d67101b4a018", func := "loop.example/g00651/laws.FnExactCivilOk", spec := "fnExactCivilOk", apart := false, narrowed := true }
def FnExactCivilOkUptoSaid : Prop := fnExactCivilOkUptoRow.holds Try.pinned (OpenSpec.upto fnExactCivilOkSpec)

/-- 'laws.FnExactUnquote', WHERE WHAT IT READS IS OF BULK AT MOST 1048576: true; the input reads as it did. -/
def fnExactUnquoteUptoRow : OpenClaim := { program := "ytcehnamlnbhhnaa", sum := "49398b0c70f6800b1bbe02d9d0766a028ee5285ef17cd098ace2d67101b4a018", func := "loop.example/g00651/laws.FnExactUnquote", spec := "fnExactUnquote", apart := false, narrowed := true }
def FnExactUnquoteUptoSaid : Prop := fnExactUnquoteUptoRow.holds Try.pinned (OpenSpec.upto fnExactUnquoteSpec)

end Rows
end Go.Proofs.Ytcehnamlnbhhnaa
