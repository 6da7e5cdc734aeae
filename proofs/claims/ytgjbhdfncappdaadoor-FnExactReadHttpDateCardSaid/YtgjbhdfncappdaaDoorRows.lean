/-
  NARROWER THAN 'FOR EVERY INPUT', by the rows' own cells (each row's printed sentence says how): FnExactStamp: laid · FnExactWarcDate: laid · FnStamps: laid · FnCivils: laid · FnExactHttpDate: laid · FnExactLongDate: laid · FnExactLineDate: laid · FnExactReadStamp: laid · FnExactReadHttpDate: laid · FnExactReadWarcDate: laid · FnDates: laid.
  DERIVED. THE GIVEN ROWS OF THIS SEAT. 11 by the template 'for every input the law returns true; each argument reads behind the call as it read before'; 0 by the template 'total and deterministic' (their statements: YtgjbhdfncappdaaDoorTotals.lean).
  GIVEN WITH THE SEED: the statements are not yours to turn. If you find one false, say at which input.
  Laid BY PROGRAM, IN A SANDBOX (cutbox-rows.mjs): the forced cells as the released guide's own fill.sh prints them over the translation 42d5c7902c6dd92d… (all of the seat's roots in one cut). By AI agents, Wed Nov 11 2026. No macro, syntax, notation, axiom, sorry.
-/
import Derived.Test.YtgjbhdfncappdaaDoorChecked
import GoSem.Claim
import GoSem.ClaimJoined
import GoSem.ClaimMapViews
import Derived.JoinedTies
import Derived.KernelRfl
namespace Go.Proofs.YtgjbhdfncappdaaDoor
/- THE CELL 'sum', in the pinned program and in every row, IS THE sha256 OF THE DUMP (.gsa) THAT YtgjbhdfncappdaaDoorProg.lean LOADS. Nothing in Lean hashes anything: it is a label: what it is worth is what the hold of that sum in a sandbox is worth. -/
noncomputable def Tryd.pinned : Pinned := { name := "ytgjbhdfncappdaadoor", sum := "42d5c7902c6dd92d0e4e8af62f7a5b21a4e42a863cbfd4c82134ca325f211c43", checked := Tryd.checked }
namespace Rows
def none {H : Type} : Left H := { results := [], args := [] }

/- WHAT THE LISTED PACKAGE-LEVEL VARIABLES READ AS WHEN THE CALL BEGINS. Each datum BY PROGRAM (the guide's laid-datum.mjs) off the statement by which the dump's own 'gosem.cut.vars' lays the variable. In a bare row this is a premise. The card (YtgjbhdfncappdaaDoorCards.lean) ties it to the program's text. -/
def laid_math_bits_deBruijn32tab {H : Type} : DataW H := .agg [.lit (.int .u8 0), .lit (.int .u8 1), .lit (.int .u8 28), .lit (.int .u8 2), .lit (.int .u8 29), .lit (.int .u8 14), .lit (.int .u8 24), .lit (.int .u8 3), .lit (.int .u8 30), .lit (.int .u8 22), .lit (.int .u8 20), .lit (.int .u8 15), .lit (.int .u8 25), .lit (.int .u8 17), .lit (.int .u8 4), .lit (.int .u8 8), .lit (.int .u8 31), .lit (.int .u8 27), .lit (.int .u8 13), .lit (.int .u8 23), .lit (.int .u8 21), .lit (.int .u8 19), .lit (.int .u8 16), .lit (.int .u8 7), .lit (.int .u8 26), .lit (.int .u8 12), .lit (.int .u8 18), .lit (.int .u8 6), .lit (.int .u8 11), .lit (.int .u8 5), .lit (.int .u8 10), .lit (.int .u8 9)]
def laid_math_bits_deBruijn64tab {H : Type} : DataW H := .agg [.lit (.int .u8 0), .lit (.int .u8 1), .lit (.int .u8 56), .lit (.int .u8 2), .lit (.int .u8 57), .lit (.int .u8 49), .lit (.int .u8 28), .lit (.int .u8 3), .lit (.int .u8 61), .lit (.int .u8 58), .lit (.int .u8 42), .lit (.int .u8 50), .lit (.int .u8 38), .lit (.int .u8 29), .lit (.int .u8 17), .lit (.int .u8 4), .lit (.int .u8 62), .lit (.int .u8 47), .lit (.int .u8 59), .lit (.int .u8 36), .lit (.int .u8 45), .lit (.int .u8 43), .lit (.int .u8 51), .lit (.int .u8 22), .lit (.int .u8 53), .lit (.int .u8 39), .lit (.int .u8 33), .lit (.int .u8 30), .lit (.int .u8 24), .lit (.int .u8 18), .lit (.int .u8 12), .lit (.int .u8 5), .lit (.int .u8 63), .lit (.int .u8 55), .lit (.int .u8 48), .lit (.int .u8 27), .lit (.int .u8 60), .lit (.int .u8 41), .lit (.int .u8 37), .lit (.int .u8 16), .lit (.int .u8 46), .lit (.int .u8 35), .lit (.int .u8 44), .lit (.int .u8 21), .lit (.int .u8 52), .lit (.int .u8 32), .lit (.int .u8 23), .lit (.int .u8 11), .lit (.int .u8 54), .lit (.int .u8 26), .lit (.int .u8 40), .lit (.int .u8 15), .lit (.int .u8 34), .lit (.int .u8 20), .lit (.int .u8 31), .lit (.int .u8 10), .lit (.int .u8 25), .lit (.int .u8 14), .lit (.int .u8 19), .lit (.int .u8 9), .lit (.int .u8 13), .lit (.int .u8 8), .lit (.int .u8 7), .lit (.int .u8 6)]
def laid_internal_strconv_uint64pow10 {H : Type} : DataW H := .agg [.lit (.int .u64 1), .lit (.int .u64 10), .lit (.int .u64 100), .lit (.int .u64 1000), .lit (.int .u64 10000), .lit (.int .u64 100000), .lit (.int .u64 1000000), .lit (.int .u64 10000000), .lit (.int .u64 100000000), .lit (.int .u64 1000000000), .lit (.int .u64 10000000000), .lit (.int .u64 100000000000), .lit (.int .u64 1000000000000), .lit (.int .u64 10000000000000), .lit (.int .u64 100000000000000), .lit (.int .u64 1000000000000000), .lit (.int .u64 10000000000000000), .lit (.int .u64 100000000000000000), .lit (.int .u64 1000000000000000000), .lit (.int .u64 10000000000000000000)]
def laid_strconv_ErrRange {H : Type} : DataW H := .iface "*errors.errorString" (.ptr (.agg [.lit (.string [118, 97, 108, 117, 101, 32, 111, 117, 116, 32, 111, 102, 32, 114, 97, 110, 103, 101])]))
def laid_strconv_ErrSyntax {H : Type} : DataW H := .iface "*errors.errorString" (.ptr (.agg [.lit (.string [105, 110, 118, 97, 108, 105, 100, 32, 115, 121, 110, 116, 97, 120])]))

/-- 'laws.FnExactStamp': WHATEVER THE INPUT: true; the input reads as it did. -/
def fnExactStampSpec : ChangeSpec := { name := "fnExactStamp", fn := fun _ => fun
  | [d] => { results := [.lit (.bool true)], args := [d] }
  | _ => none }
def fnExactStampRow : OpenClaim := { program := "ytgjbhdfncappdaadoor", sum := "42d5c7902c6dd92d0e4e8af62f7a5b21a4e42a863cbfd4c82134ca325f211c43", func := "loop.example/g00651/laws.FnExactStamp", spec := "fnExactStamp", recurses := true, named := ["internal/strconv.uint64pow10", "math/bits.deBruijn32tab", "math/bits.deBruijn64tab"], apart := false, laid := [("math/bits.deBruijn32tab", laid_math_bits_deBruijn32tab), ("math/bits.deBruijn64tab", laid_math_bits_deBruijn64tab), ("internal/strconv.uint64pow10", laid_internal_strconv_uint64pow10)] }
def FnExactStampSaid : Prop := fnExactStampRow.holds Tryd.pinned (OpenSpec.ofChange fnExactStampSpec)

/-- ITS FALSE NEIGHBOUR: 'it returns false'. Refute it at one input. -/
def fnExactStampWrong : ChangeSpec := { name := "fnExactStamp", fn := fun _ => fun
  | [d] => { results := [.lit (.bool false)], args := [d] }
  | _ => none }
def FnExactStampWrongFalsely : Prop := fnExactStampRow.holds Tryd.pinned (OpenSpec.ofChange fnExactStampWrong)

/-- 'laws.FnExactWarcDate': WHATEVER THE INPUT: true; the input reads as it did. -/
def fnExactWarcDateSpec : ChangeSpec := { name := "fnExactWarcDate", fn := fun _ => fun
  | [d] => { results := [.lit (.bool true)], args := [d] }
  | _ => none }
def fnExactWarcDateRow : OpenClaim := { program := "ytgjbhdfncappdaadoor", sum := "42d5c7902c6dd92d0e4e8af62f7a5b21a4e42a863cbfd4c82134ca325f211c43", func := "loop.example/g00651/laws.FnExactWarcDate", spec := "fnExactWarcDate", recurses := true, named := ["internal/strconv.uint64pow10", "math/bits.deBruijn32tab", "math/bits.deBruijn64tab"], apart := false, laid := [("math/bits.deBruijn32tab", laid_math_bits_deBruijn32tab), ("math/bits.deBruijn64tab", laid_math_bits_deBruijn64tab), ("internal/strconv.uint64pow10", laid_internal_strconv_uint64pow10)] }
def FnExactWarcDateSaid : Prop := fnExactWarcDateRow.holds Tryd.pinned (OpenSpec.ofChange fnExactWarcDateSpec)

/-- ITS FALSE NEIGHBOUR: 'it returns false'. Refute it at one input. -/
def fnExactWarcDateWrong : ChangeSpec := { name := "fnExactWarcDate", fn := fun _ => fun
  | [d] => { results := [.lit (.bool false)], args := [d] }
  | _ => none }
def FnExactWarcDateWrongFalsely : Prop := fnExactWarcDateRow.holds Tryd.pinned (OpenSpec.ofChange fnExactWarcDateWrong)

/-- 'laws.FnStamps': WHATEVER THE INPUT: true; the input reads as it did. -/
def fnStampsSpec : ChangeSpec := { name := "fnStamps", fn := fun _ => fun
  | [d] => { results := [.lit (.bool true)], args := [d] }
  | _ => none }
def fnStampsRow : OpenClaim := { program := "ytgjbhdfncappdaadoor", sum := "42d5c7902c6dd92d0e4e8af62f7a5b21a4e42a863cbfd4c82134ca325f211c43", func := "loop.example/g00651/laws.FnStamps", spec := "fnStamps", named := ["internal/strconv.uint64pow10", "math/bits.deBruijn32tab", "math/bits.deBruijn64tab"], apart := false, laid := [("math/bits.deBruijn32tab", laid_math_bits_deBruijn32tab), ("math/bits.deBruijn64tab", laid_math_bits_deBruijn64tab), ("internal/strconv.uint64pow10", laid_internal_strconv_uint64pow10)] }
def FnStampsSaid : Prop := fnStampsRow.holds Tryd.pinned (OpenSpec.ofChange fnStampsSpec)

/-- ITS FALSE NEIGHBOUR: 'it returns false'. Refute it at one input. -/
def fnStampsWrong : ChangeSpec := { name := "fnStamps", fn := fun _ => fun
  | [d] => { results := [.lit (.bool false)], args := [d] }
  | _ => none }
def FnStampsWrongFalsely : Prop := fnStampsRow.holds Tryd.pinned (OpenSpec.ofChange fnStampsWrong)

/-- 'laws.FnCivils': WHATEVER THE INPUT: true; the input reads as it did. -/
def fnCivilsSpec : ChangeSpec := { name := "fnCivils", fn := fun _ => fun
  | [d] => { results := [.lit (.bool true)], args := [d] }
  | _ => none }
def fnCivilsRow : OpenClaim := { program := "ytgjbhdfncappdaadoor", sum := "42d5c7902c6dd92d0e4e8af62f7a5b21a4e42a863cbfd4c82134ca325f211c43", func := "loop.example/g00651/laws.FnCivils", spec := "fnCivils", named := ["internal/strconv.uint64pow10", "math/bits.deBruijn32tab", "math/bits.deBruijn64tab"], apart := false, laid := [("math/bits.deBruijn32tab", laid_math_bits_deBruijn32tab), ("math/bits.deBruijn64tab", laid_math_bits_deBruijn64tab), ("internal/strconv.uint64pow10", laid_internal_strconv_uint64pow10)] }
def FnCivilsSaid : Prop := fnCivilsRow.holds Tryd.pinned (OpenSpec.ofChange fnCivilsSpec)

/-- ITS FALSE NEIGHBOUR: 'it returns false'. Refute it at one input. -/
def fnCivilsWrong : ChangeSpec := { name := "fnCivils", fn := fun _ => fun
  | [d] => { results := [.lit (.bool false)], args := [d] }
  | _ => none }
def FnCivilsWrongFalsely : Prop := fnCivilsRow.holds Tryd.pinned (OpenSpec.ofChange fnCivilsWrong)

/-- 'laws.FnExactHttpDate': WHATEVER THE INPUT: true; the input reads as it did. -/
def fnExactHttpDateSpec : ChangeSpec := { name := "fnExactHttpDate", fn := fun _ => fun
  | [d] => { results := [.lit (.bool true)], args := [d] }
  | _ => none }
def fnExactHttpDateRow : OpenClaim := { program := "ytgjbhdfncappdaadoor", sum := "42d5c7902c6dd92d0e4e8af62f7a5b21a4e42a863cbfd4c82134ca325f211c43", func := "loop.example/g00651/laws.FnExactHttpDate", spec := "fnExactHttpDate", recurses := true, named := ["internal/strconv.uint64pow10", "math/bits.deBruijn32tab", "math/bits.deBruijn64tab"], apart := false, laid := [("math/bits.deBruijn32tab", laid_math_bits_deBruijn32tab), ("math/bits.deBruijn64tab", laid_math_bits_deBruijn64tab), ("internal/strconv.uint64pow10", laid_internal_strconv_uint64pow10)] }
def FnExactHttpDateSaid : Prop := fnExactHttpDateRow.holds Tryd.pinned (OpenSpec.ofChange fnExactHttpDateSpec)

/-- ITS FALSE NEIGHBOUR: 'it returns false'. Refute it at one input. -/
def fnExactHttpDateWrong : ChangeSpec := { name := "fnExactHttpDate", fn := fun _ => fun
  | [d] => { results := [.lit (.bool false)], args := [d] }
  | _ => none }
def FnExactHttpDateWrongFalsely : Prop := fnExactHttpDateRow.holds Tryd.pinned (OpenSpec.ofChange fnExactHttpDateWrong)

/-- 'laws.FnExactLongDate': WHATEVER THE INPUT: true; the input reads as it did. -/
def fnExactLongDateSpec : ChangeSpec := { name := "fnExactLongDate", fn := fun _ => fun
  | [d] => { results := [.lit (.bool true)], args := [d] }
  | _ => none }
def fnExactLongDateRow : OpenClaim := { program := "ytgjbhdfncappdaadoor", sum := "42d5c7902c6dd92d0e4e8af62f7a5b21a4e42a863cbfd4c82134ca325f211c43", func := "loop.example/g00651/laws.FnExactLongDate", spec := "fnExactLongDate", recurses := true, named := ["internal/strconv.uint64pow10", "math/bits.deBruijn32tab", "math/bits.deBruijn64tab"], apart := false, laid := [("math/bits.deBruijn32tab", laid_math_bits_deBruijn32tab), ("math/bits.deBruijn64tab", laid_math_bits_deBruijn64tab), ("internal/strconv.uint64pow10", laid_internal_strconv_uint64pow10)] }
def FnExactLongDateSaid : Prop := fnExactLongDateRow.holds Tryd.pinned (OpenSpec.ofChange fnExactLongDateSpec)

/-- ITS FALSE NEIGHBOUR: 'it returns false'. Refute it at one input. -/
def fnExactLongDateWrong : ChangeSpec := { name := "fnExactLongDate", fn := fun _ => fun
  | [d] => { results := [.lit (.bool false)], args := [d] }
  | _ => none }
def FnExactLongDateWrongFalsely : Prop := fnExactLongDateRow.holds Tryd.pinned (OpenSpec.ofChange fnExactLongDateWrong)

/-- 'laws.FnExactLineDate': WHATEVER THE INPUT: true; the input reads as it did. -/
def fnExactLineDateSpec : ChangeSpec := { name := "fnExactLineDate", fn := fun _ => fun
  | [d] => { results := [.lit (.bool true)], args := [d] }
  | _ => none }
def fnExactLineDateRow : OpenClaim := { program := "ytgjbhdfncappdaadoor", sum := "42d5c7902c6dd92d0e4e8af62f7a5b21a4e42a863cbfd4c82134ca325f211c43", func := "loop.example/g00651/laws.FnExactLineDate", spec := "fnExactLineDate", recurses := true, named := ["internal/strconv.uint64pow10", "math/bits.deBruijn32tab", "math/bits.deBruijn64tab"], apart := false, laid := [("math/bits.deBruijn32tab", laid_math_bits_deBruijn32tab), ("math/bits.deBruijn64tab", laid_math_bits_deBruijn64tab), ("internal/strconv.uint64pow10", laid_internal_strconv_uint64pow10)] }
def FnExactLineDateSaid : Prop := fnExactLineDateRow.holds Tryd.pinned (OpenSpec.ofChange fnExactLineDateSpec)

/-- ITS FALSE NEIGHBOUR: 'it returns false'. Refute it at one input. -/
def fnExactLineDateWrong : ChangeSpec := { name := "fnExactLineDate", fn := fun _ => fun
  | [d] => { results := [.lit (.bool false)], args := [d] }
  | _ => none }
def FnExactLineDateWrongFalsely : Prop := fnExactLineDateRow.holds Tryd.pinned (OpenSpec.ofChange fnExactLineDateWrong)

/-- 'laws.FnExactReadStamp': WHATEVER THE INPUT: true; the input reads as it did. -/
def fnExactReadStampSpec : ChangeSpec := { name := "fnExactReadStamp", fn := fun _ => fun
  | [d] => { results := [.lit (.bool true)], args := [d] }
  | _ => none }
def fnExactReadStampRow : OpenClaim := { program := "ytgjbhdfncappdaadoor", sum := "42d5c7902c6dd92d0e4e8af62f7a5b21a4e42a863cbfd4c82134ca325f211c43", func := "loop.example/g00651/laws.FnExactReadStamp", spec := "fnExactReadStamp", unfollowed := true, recurses := true, named := ["strconv.ErrSyntax", "strconv.ErrRange", "internal/strconv.uint64pow10", "math/bits.deBruijn32tab", "math/bits.deBruijn64tab"], apart := false, laid := [("math/bits.deBruijn32tab", laid_math_bits_deBruijn32tab), ("math/bits.deBruijn64tab", laid_math_bits_deBruijn64tab), ("internal/strconv.uint64pow10", laid_internal_strconv_uint64pow10), ("strconv.ErrRange", laid_strconv_ErrRange), ("strconv.ErrSyntax", laid_strconv_ErrSyntax)] }
def FnExactReadStampSaid : Prop := fnExactReadStampRow.holds Tryd.pinned (OpenSpec.ofChange fnExactReadStampSpec)

/-- ITS FALSE NEIGHBOUR: 'it returns false'. Refute it at one input. -/
def fnExactReadStampWrong : ChangeSpec := { name := "fnExactReadStamp", fn := fun _ => fun
  | [d] => { results := [.lit (.bool false)], args := [d] }
  | _ => none }
def FnExactReadStampWrongFalsely : Prop := fnExactReadStampRow.holds Tryd.pinned (OpenSpec.ofChange fnExactReadStampWrong)

/-- 'laws.FnExactReadHttpDate': WHATEVER THE INPUT: true; the input reads as it did. -/
def fnExactReadHttpDateSpec : ChangeSpec := { name := "fnExactReadHttpDate", fn := fun _ => fun
  | [d] => { results := [.lit (.bool true)], args := [d] }
  | _ => none }
def fnExactReadHttpDateRow : OpenClaim := { program := "ytgjbhdfncappdaadoor", sum := "42d5c7902c6dd92d0e4e8af62f7a5b21a4e42a863cbfd4c82134ca325f211c43", func := "loop.example/g00651/laws.FnExactReadHttpDate", spec := "fnExactReadHttpDate", inPlace := ["internal/bytealg.IndexByteString", "internal/bytealg.IndexString"], recurses := true, named := ["internal/bytealg.MaxLen", "internal/strconv.uint64pow10", "math/bits.deBruijn32tab", "math/bits.deBruijn64tab"], apart := false, laid := [("math/bits.deBruijn32tab", laid_math_bits_deBruijn32tab), ("math/bits.deBruijn64tab", laid_math_bits_deBruijn64tab), ("internal/strconv.uint64pow10", laid_internal_strconv_uint64pow10)] }
def FnExactReadHttpDateSaid : Prop := fnExactReadHttpDateRow.holds Tryd.pinned (OpenSpec.ofChange fnExactReadHttpDateSpec)

/-- ITS FALSE NEIGHBOUR: 'it returns false'. Refute it at one input. -/
def fnExactReadHttpDateWrong : ChangeSpec := { name := "fnExactReadHttpDate", fn := fun _ => fun
  | [d] => { results := [.lit (.bool false)], args := [d] }
  | _ => none }
def FnExactReadHttpDateWrongFalsely : Prop := fnExactReadHttpDateRow.holds Tryd.pinned (OpenSpec.ofChange fnExactReadHttpDateWrong)

/-- 'laws.FnExactReadWarcDate': WHATEVER THE INPUT: true; the input reads as it did. -/
def fnExactReadWarcDateSpec : ChangeSpec := { name := "fnExactReadWarcDate", fn := fun _ => fun
  | [d] => { results := [.lit (.bool true)], args := [d] }
  | _ => none }
def fnExactReadWarcDateRow : OpenClaim := { program := "ytgjbhdfncappdaadoor", sum := "42d5c7902c6dd92d0e4e8af62f7a5b21a4e42a863cbfd4c82134ca325f211c43", func := "loop.example/g00651/laws.FnExactReadWarcDate", spec := "fnExactReadWarcDate", unfollowed := true, recurses := true, named := ["strconv.ErrSyntax", "strconv.ErrRange", "internal/strconv.uint64pow10", "math/bits.deBruijn32tab", "math/bits.deBruijn64tab"], apart := false, laid := [("math/bits.deBruijn32tab", laid_math_bits_deBruijn32tab), ("math/bits.deBruijn64tab", laid_math_bits_deBruijn64tab), ("internal/strconv.uint64pow10", laid_internal_strconv_uint64pow10), ("strconv.ErrRange", laid_strconv_ErrRange), ("strconv.ErrSyntax", laid_strconv_ErrSyntax)] }
def FnExactReadWarcDateSaid : Prop := fnExactReadWarcDateRow.holds Tryd.pinned (OpenSpec.ofChange fnExactReadWarcDateSpec)

/-- ITS FALSE NEIGHBOUR: 'it returns false'. Refute it at one input. -/
def fnExactReadWarcDateWrong : ChangeSpec := { name := "fnExactReadWarcDate", fn := fun _ => fun
  | [d] => { results := [.lit (.bool false)], args := [d] }
  | _ => none }
def FnExactReadWarcDateWrongFalsely : Prop := fnExactReadWarcDateRow.holds Tryd.pinned (OpenSpec.ofChange fnExactReadWarcDateWrong)

/-- 'laws.FnDates': WHATEVER THE INPUT: true; the input reads as it did. -/
def fnDatesSpec : ChangeSpec := { name := "fnDates", fn := fun _ => fun
  | [d] => { results := [.lit (.bool true)], args := [d] }
  | _ => none }
def fnDatesRow : OpenClaim := { program := "ytgjbhdfncappdaadoor", sum := "42d5c7902c6dd92d0e4e8af62f7a5b21a4e42a863cbfd4c82134ca325f211c43", func := "loop.example/g00651/laws.FnDates", spec := "fnDates", inPlace := ["internal/bytealg.IndexByteString", "internal/bytealg.IndexString"], unfollowed := true, recurses := true, named := ["internal/strconv.uint64pow10", "math/bits.deBruijn32tab", "math/bits.deBruijn64tab", "internal/bytealg.MaxLen", "strconv.ErrSyntax", "strconv.ErrRange"], apart := false, laid := [("math/bits.deBruijn32tab", laid_math_bits_deBruijn32tab), ("math/bits.deBruijn64tab", laid_math_bits_deBruijn64tab), ("internal/strconv.uint64pow10", laid_internal_strconv_uint64pow10), ("strconv.ErrRange", laid_strconv_ErrRange), ("strconv.ErrSyntax", laid_strconv_ErrSyntax)] }
def FnDatesSaid : Prop := fnDatesRow.holds Tryd.pinned (OpenSpec.ofChange fnDatesSpec)

/-- ITS FALSE NEIGHBOUR: 'it returns false'. Refute it at one input. -/
def fnDatesWrong : ChangeSpec := { name := "fnDates", fn := fun _ => fun
  | [d] => { results := [.lit (.bool false)], args := [d] }
  | _ => none }
def FnDatesWrongFalsely : Prop := fnDatesRow.holds Tryd.pinned (OpenSpec.ofChange fnDatesWrong)

/- THE SECOND FORM. 'bulk': how many values and letters a reading holds, each counted each time it is reached (what is shared counts as often as it is met; a slice's spare places count too). A statement '..UptoSaid' is the law's where the arguments, and the package variables that the reading takes, are together of bulk at most 1048576: NARROWER than '..Said'. Prove '..Said' where nothing that the law and all that it calls make is longer than what came in: it says more and counts as full. Else prove '..UptoSaid'. A law counts once. -/
mutual
def uptoBulk {H : Type} : DataW H → Nat
  | .lit (.string bytes) => bytes.length + 1
  | .lit _ => 1
  | .nil => 1
  | .ptr d => uptoBulk d + 1
  | .slice elems spare => uptoBulkAll elems + uptoBulkAll spare + 1
  | .agg parts => uptoBulkAll parts + 1
  | .iface _ d => uptoBulk d + 1
  | .map entries => uptoBulkEntries entries + 1
  | .held _ => 1
def uptoBulkAll {H : Type} : List (DataW H) → Nat
  | [] => 0
  | d :: r => uptoBulk d + uptoBulkAll r
def uptoBulkEntries {H : Type} : List (Lit × DataW H) → Nat
  | [] => 0
  | x :: r => uptoBulkEntry x + uptoBulkEntries r
def uptoBulkEntry {H : Type} : Lit × DataW H → Nat
  | (.string bytes, d) => bytes.length + uptoBulk d + 1
  | (_, d) => uptoBulk d + 1
 end
def uptoSmall : (H : Type) → List (DataW H) → Bool := fun _ ds => decide (uptoBulkAll ds ≤ 1048576)
def OpenSpec.upto (s : _root_.Go.ChangeSpec) : _root_.Go.OpenSpec := { _root_.Go.OpenSpec.ofChange s with cond := some uptoSmall }

/-- 'laws.FnExactStamp', WHERE WHAT IT READS IS OF BULK AT MOST 1048576: true; the input reads as it did. -/
def fnExactStampUptoRow : OpenClaim := { program := "ytgjbhdfncappdaadoor", sum := "42d5c7902c6dd92d0e4e8af62f7a5b21a4e42a863cbfd4c82134ca325f211c43", func := "loop.example/g00651/laws.FnExactStamp", spec := "fnExactStamp", recurses := true, named := ["internal/strconv.uint64pow10", "math/bits.deBruijn32tab", "math/bits.deBruijn64tab"], apart := false, laid := [("math/bits.deBruijn32tab", laid_math_bits_deBruijn32tab), ("math/bits.deBruijn64tab", laid_math_bits_deBruijn64tab), ("internal/strconv.uint64pow10", laid_internal_strconv_uint64pow10)], narrowed := true }
def FnExactStampUptoSaid : Prop := fnExactStampUptoRow.holds Tryd.pinned (OpenSpec.upto fnExactStampSpec)

/-- 'laws.FnExactWarcDate', WHERE WHAT IT READS IS OF BULK AT MOST 1048576: true; the input reads as it did. -/
def fnExactWarcDateUptoRow : OpenClaim := { program := "ytgjbhdfncappdaadoor", sum := "42d5c7902c6dd92d0e4e8af62f7a5b21a4e42a863cbfd4c82134ca325f211c43", func := "loop.example/g00651/laws.FnExactWarcDate", spec := "fnExactWarcDate", recurses := true, named := ["internal/strconv.uint64pow10", "math/bits.deBruijn32tab", "math/bits.deBruijn64tab"], apart := false, laid := [("math/bits.deBruijn32tab", laid_math_bits_deBruijn32tab), ("math/bits.deBruijn64tab", laid_math_bits_deBruijn64tab), ("internal/strconv.uint64pow10", laid_internal_strconv_uint64pow10)], narrowed := true }
def FnExactWarcDateUptoSaid : Prop := fnExactWarcDateUptoRow.holds Tryd.pinned (OpenSpec.upto fnExactWarcDateSpec)

/-- 'laws.FnStamps', WHERE WHAT IT READS IS OF BULK AT MOST 1048576: true; the input reads as it did. -/
def fnStampsUptoRow : OpenClaim := { program := "ytgjbhdfncappdaadoor", sum := "42d5c7902c6dd92d0e4e8af62f7a5b21a4e42a863cbfd4c82134ca325f211c43", func := "loop.example/g00651/laws.FnStamps", spec := "fnStamps", named := ["internal/strconv.uint64pow10", "math/bits.deBruijn32tab", "math/bits.deBruijn64tab"], apart := false, laid := [("math/bits.deBruijn32tab", laid_math_bits_deBruijn32tab), ("math/bits.deBruijn64tab", laid_math_bits_deBruijn64tab), ("internal/strconv.uint64pow10", laid_internal_strconv_uint64pow10)], narrowed := true }
def FnStampsUptoSaid : Prop := fnStampsUptoRow.holds Tryd.pinned (OpenSpec.upto fnStampsSpec)

/-- 'laws.FnCivils', WHERE WHAT IT READS IS OF BULK AT MOST 1048576: true; the input reads as it did. -/
def fnCivilsUptoRow : OpenClaim := { program := "ytgjbhdfncappdaadoor", sum := "42d5c7902c6dd92d0e4e8af62f7a5b21a4e42a863cbfd4c82134ca325f211c43", func := "loop.example/g00651/laws.FnCivils", spec := "fnCivils", named := ["internal/strconv.uint64pow10", "math/bits.deBruijn32tab", "math/bits.deBruijn64tab"], apart := false, laid := [("math/bits.deBruijn32tab", laid_math_bits_deBruijn32tab), ("math/bits.deBruijn64tab", laid_math_bits_deBruijn64tab), ("internal/strconv.uint64pow10", laid_internal_strconv_uint64pow10)], narrowed := true }
def FnCivilsUptoSaid : Prop := fnCivilsUptoRow.holds Tryd.pinned (OpenSpec.upto fnCivilsSpec)

/-- 'laws.FnExactHttpDate', WHERE WHAT IT READS IS OF BULK AT MOST 1048576: true; the input reads as it did. -/
def fnExactHttpDateUptoRow : OpenClaim := { program := "ytgjbhdfncappdaadoor", sum := "42d5c7902c6dd92d0e4e8af62f7a5b21a4e42a863cbfd4c82134ca325f211c43", func := "loop.example/g00651/laws.FnExactHttpDate", spec := "fnExactHttpDate", recurses := true, named := ["internal/strconv.uint64pow10", "math/bits.deBruijn32tab", "math/bits.deBruijn64tab"], apart := false, laid := [("math/bits.deBruijn32tab", laid_math_bits_deBruijn32tab), ("math/bits.deBruijn64tab", laid_math_bits_deBruijn64tab), ("internal/strconv.uint64pow10", laid_internal_strconv_uint64pow10)], narrowed := true }
def FnExactHttpDateUptoSaid : Prop := fnExactHttpDateUptoRow.holds Tryd.pinned (OpenSpec.upto fnExactHttpDateSpec)

/-- 'laws.FnExactLongDate', WHERE WHAT IT READS IS OF BULK AT MOST 1048576: true; the input reads as it did. -/
def fnExactLongDateUptoRow : OpenClaim := { program := "ytgjbhdfncappdaadoor", sum := "42d5c7902c6dd92d0e4e8af62f7a5b21a4e42a863cbfd4c82134ca325f211c43", func := "loop.example/g00651/laws.FnExactLongDate", spec := "fnExactLongDate", recurses := true, named := ["internal/strconv.uint64pow10", "math/bits.deBruijn32tab", "math/bits.deBruijn64tab"], apart := false, laid := [("math/bits.deBruijn32tab", laid_math_bits_deBruijn32tab), ("math/bits.deBruijn64tab", laid_math_bits_deBruijn64tab), ("internal/strconv.uint64pow10", laid_internal_strconv_uint64pow10)], narrowed := true }
def FnExactLongDateUptoSaid : Prop := fnExactLongDateUptoRow.holds Tryd.pinned (OpenSpec.upto fnExactLongDateSpec)

/-- 'laws.FnExactLineDate', WHERE WHAT IT READS IS OF BULK AT MOST 1048576: true; the input reads as it did. -/
def fnExactLineDateUptoRow : OpenClaim := { program := "ytgjbhdfncappdaadoor", sum := "42d5c7902c6dd92d0e4e8af62f7a5b21a4e42a863cbfd4c82134ca325f211c43", func := "loop.example/g00651/laws.FnExactLineDate", spec := "fnExactLineDate", recurses := true, named := ["internal/strconv.uint64pow10", "math/bits.deBruijn32tab", "math/bits.deBruijn64tab"], apart := false, laid := [("math/bits.deBruijn32tab", laid_math_bits_deBruijn32tab), ("math/bits.deBruijn64tab", laid_math_bits_deBruijn64tab), ("internal/strconv.uint64pow10", laid_internal_strconv_uint64pow10)], narrowed := true }
def FnExactLineDateUptoSaid : Prop := fnExactLineDateUptoRow.holds Tryd.pinned (OpenSpec.upto fnExactLineDateSpec)

/-- 'laws.FnExactReadStamp', WHERE WHAT IT READS IS OF BULK AT MOST 1048576: true; the input reads as it did. -/
def fnExactReadStampUptoRow : OpenClaim := { program := "ytgjbhdfncappdaadoor", sum := "42d5c7902c6dd92d0e4e8af62f7a5b21a4e42a863cbfd4c82134ca325f211c43", func := "loop.example/g00651/laws.FnExactReadStamp", spec := "fnExactReadStamp", unfollowed := true, recurses := true, named := ["strconv.ErrSyntax", "strconv.ErrRange", "internal/strconv.uint64pow10", "math/bits.deBruijn32tab", "math/bits.deBruijn64tab"], apart := false, laid := [("math/bits.deBruijn32tab", laid_math_bits_deBruijn32tab), ("math/bits.deBruijn64tab", laid_math_bits_deBruijn64tab), ("internal/strconv.uint64pow10", laid_internal_strconv_uint64pow10), ("strconv.ErrRange", laid_strconv_ErrRange), ("strconv.ErrSyntax", laid_strconv_ErrSyntax)], narrowed := true }
def FnExactReadStampUptoSaid : Prop := fnExactReadStampUptoRow.holds Tryd.pinned (OpenSpec.upto fnExactReadStampSpec)

/-- 'laws.FnExactReadHttpDate', WHERE WHAT IT READS IS OF BULK AT MOST 1048576: true; the input reads as it did. -/
def fnExactReadHttpDateUptoRow : OpenClaim := { program := "ytgjbhdfncappdaadoor", sum := "42d5c7902c6dd92d0e4e8af62f7a5b21a4e42a863cbfd4c82134ca325f211c43", func := "loop.example/g00651/laws.FnExactReadHttpDate", spec := "fnExactReadHttpDate", inPlace := ["internal/bytealg.IndexByteString", "internal/bytealg.IndexString"], recurses := true, named := ["internal/bytealg.MaxLen", "internal/strconv.uint64pow10", "math/bits.deBruijn32tab", "math/bits.deBruijn64tab"], apart := false, laid := [("math/bits.deBruijn32tab", laid_math_bits_deBruijn32tab), ("math/bits.deBruijn64tab", laid_math_bits_deBruijn64tab), ("internal/strconv.uint64pow10", laid_internal_strconv_uint64pow10)], narrowed := true }
def FnExactReadHttpDateUptoSaid : Prop := fnExactReadHttpDateUptoRow.holds Tryd.pinned (OpenSpec.upto fnExactReadHttpDateSpec)

/-- 'laws.FnExactReadWarcDate', WHERE WHAT IT READS IS OF BULK AT MOST 1048576: true; the input reads as it did. -/
def fnExactReadWarcDateUptoRow : OpenClaim := { program := "ytgjbhdfncappdaadoor", sum := "42d5c7902c6dd92d0e4e8af62f7a5b21a4e42a863cbfd4c82134ca325f211c43", func := "loop.example/g00651/laws.FnExactReadWarcDate", spec := "fnExactReadWarcDate", unfollowed := true, recurses := true, named := ["strconv.ErrSyntax", "strconv.ErrRange", "internal/strconv.uint64pow10", "math/bits.deBruijn32tab", "math/bits.deBruijn64tab"], apart := false, laid := [("math/bits.deBruijn32tab", laid_math_bits_deBruijn32tab), ("math/bits.deBruijn64tab", laid_math_bits_deBruijn64tab), ("internal/strconv.uint64pow10", laid_internal_strconv_uint64pow10), ("strconv.ErrRange", laid_strconv_ErrRange), ("strconv.ErrSyntax", laid_strconv_ErrSyntax)], narrowed := true }
def FnExactReadWarcDateUptoSaid : Prop := fnExactReadWarcDateUptoRow.holds Tryd.pinned (OpenSpec.upto fnExactReadWarcDateSpec)

/-- 'laws.FnDates', WHERE WHAT IT READS IS OF BULK AT MOST 1048576: true; the input reads as it did. -/
def fnDatesUptoRow : OpenClaim := { program := "ytgjbhdfncappdaadoor", sum := "42d5c7902c6dd92d0e4e8af62f7a5b21a4e42a863cbfd4c82134ca325f211c43", func := "loop.example/g00651/laws.FnDates", spec := "fnDates", inPlace := ["internal/bytealg.IndexByteString", "internal/bytealg.IndexString"], unfollowed := true, recurses := true, named := ["internal/strconv.uint64pow10", "math/bits.deBruijn32tab", "math/bits.deBruijn64tab", "internal/bytealg.MaxLen", "strconv.ErrSyntax", "strconv.ErrRange"], apart := false, laid := [("math/bits.deBruijn32tab", laid_math_bits_deBruijn32tab), ("math/bits.deBruijn64tab", laid_math_bits_deBruijn64tab), ("internal/strconv.uint64pow10", laid_internal_strconv_uint64pow10), ("strconv.ErrRange", laid_strconv_ErrRange), ("strconv.ErrSyntax", laid_strconv_ErrSyntax)], narrowed := true }
def FnDatesUptoSaid : Prop := fnDatesUptoRow.holds Tryd.pinned (OpenSpec.upto fnDatesSpec)

end Rows
end Go.Proofs.YtgjbhdfncappdaaDoor
