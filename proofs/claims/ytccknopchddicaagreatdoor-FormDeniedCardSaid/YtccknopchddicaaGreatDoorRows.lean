/-
  NARROWER THAN 'FOR EVERY INPUT', by the rows' own cells (each row's printed sentence says how): FormDenied: laid · FormSides: laid · FormUnrolled: laid · FormDistributed: laid · FormCrossed: laid · FormAbsorbed: laid · FormTwice: laid · FormTurned: laid · FormLettersParted: laid.
  DERIVED. THE GIVEN ROWS OF THIS SEAT. 9 by the template 'for every input the law returns true; each argument reads behind the call as it read before'; 0 by the template 'total and deterministic' (their statements: YtccknopchddicaaGreatDoorTotals.lean).
  GIVEN WITH THE SEED: the statements are not yours to turn. If you find one false, say at which input.
  Laid BY PROGRAM, IN A SANDBOX (cutbox-rows.mjs): the forced cells as the released guide's own fill.sh prints them over the translation 2ebd973c86571dd0… (all of the seat's roots in one cut). By AI agents, Wed Nov 11 2026. No macro, syntax, notation, axiom, sorry.
-/
import Derived.Test.YtccknopchddicaaGreatDoorChecked
import GoSem.PinnedTables
import GoSem.Claim
import GoSem.ClaimJoined
import GoSem.ClaimMapViews
import Derived.JoinedTies
import Derived.KernelRfl
namespace Go.Proofs.YtccknopchddicaaGreatDoor
/- THE CELL 'sum', in the pinned program and in every row, IS THE sha256 OF THE DUMP (.gsa) THAT YtccknopchddicaaGreatDoorProg.lean LOADS. Nothing in Lean hashes anything: it is a label: what it is worth is what the hold of that sum in a sandbox is worth. -/
noncomputable def Tryz.pinned : Pinned := { name := "ytccknopchddicaagreatdoor", sum := "2ebd973c86571dd0fd18f84f2a856e435f295e21a9829a8b38ba5d8dafb5a39b", checked := Tryz.checked }
namespace Rows
def none {H : Type} : Left H := { results := [], args := [] }

/- WHAT THE LISTED PACKAGE-LEVEL VARIABLES READ AS WHEN THE CALL BEGINS. Each datum BY PROGRAM (the guide's laid-datum.mjs) off the statement by which the dump's own 'gosem.cut.vars' lays the variable. In a bare row this is a premise. The card (YtccknopchddicaaGreatDoorCards.lean) ties it to the program's text. -/
def laid_unicode_utf8_acceptRanges {H : Type} : DataW H := .agg [.agg [.lit (.int .u8 128), .lit (.int .u8 191)], .agg [.lit (.int .u8 160), .lit (.int .u8 191)], .agg [.lit (.int .u8 128), .lit (.int .u8 159)], .agg [.lit (.int .u8 144), .lit (.int .u8 191)], .agg [.lit (.int .u8 128), .lit (.int .u8 143)], .agg [.lit (.int .u8 0), .lit (.int .u8 0)], .agg [.lit (.int .u8 0), .lit (.int .u8 0)], .agg [.lit (.int .u8 0), .lit (.int .u8 0)], .agg [.lit (.int .u8 0), .lit (.int .u8 0)], .agg [.lit (.int .u8 0), .lit (.int .u8 0)], .agg [.lit (.int .u8 0), .lit (.int .u8 0)], .agg [.lit (.int .u8 0), .lit (.int .u8 0)], .agg [.lit (.int .u8 0), .lit (.int .u8 0)], .agg [.lit (.int .u8 0), .lit (.int .u8 0)], .agg [.lit (.int .u8 0), .lit (.int .u8 0)], .agg [.lit (.int .u8 0), .lit (.int .u8 0)]]
def laid_errors_errorType {H : Type} : DataW H := .iface "internal/reflectlite.rtype" (.agg [.ptr (.lit (.string [101, 114, 114, 111, 114]))])
/-- One of Go's own tables, pinned by name: the form's constant. -/
def laid_unicode_utf8_first : DataW Unit := Go.Pinned.utf8First

/-- 'stilewardtop.FormDenied': WHATEVER THE INPUT: true; the input reads as it did. -/
def formDeniedSpec : ChangeSpec := { name := "formDenied", fn := fun _ => fun
  | [d1, d2, d3, d4, d5] => { results := [.lit (.bool true)], args := [d1, d2, d3, d4, d5] }
  | _ => none }
def formDeniedRow : OpenClaim := { program := "ytccknopchddicaagreatdoor", sum := "2ebd973c86571dd0fd18f84f2a856e435f295e21a9829a8b38ba5d8dafb5a39b", func := "stileward/stilewardtop.FormDenied", spec := "formDenied", inPlace := ["internal/abi.NoEscape", "internal/bytealg.CountString", "internal/bytealg.IndexByteString", "internal/bytealg.IndexString", "internal/bytealg.MakeNoZero", "internal/reflectlite.ValueOf", "(internal/reflectlite.Value).Type", "(internal/reflectlite.Value).IsNil", "internal/reflectlite.TypeOf", "(internal/reflectlite.Value).Elem", "(internal/reflectlite.Value).Set"], unfollowed := true, recurses := true, named := ["internal/bytealg.MaxLen", "unicode/utf8.first", "unicode/utf8.acceptRanges", "errors.errorType"], apart := false, laid := [("unicode/utf8.acceptRanges", laid_unicode_utf8_acceptRanges), ("errors.errorType", laid_errors_errorType), ("unicode/utf8.first", laid_unicode_utf8_first)] }
def FormDeniedSaid : Prop := formDeniedRow.holds Tryz.pinned (OpenSpec.ofChange formDeniedSpec)

/-- ITS FALSE NEIGHBOUR: 'it returns false'. Refute it at one input. -/
def formDeniedWrong : ChangeSpec := { name := "formDenied", fn := fun _ => fun
  | [d1, d2, d3, d4, d5] => { results := [.lit (.bool false)], args := [d1, d2, d3, d4, d5] }
  | _ => none }
def FormDeniedWrongFalsely : Prop := formDeniedRow.holds Tryz.pinned (OpenSpec.ofChange formDeniedWrong)

/-- 'stilewardtop.FormSides': WHATEVER THE INPUT: true; the input reads as it did. -/
def formSidesSpec : ChangeSpec := { name := "formSides", fn := fun _ => fun
  | [d1, d2, d3, d4] => { results := [.lit (.bool true)], args := [d1, d2, d3, d4] }
  | _ => none }
def formSidesRow : OpenClaim := { program := "ytccknopchddicaagreatdoor", sum := "2ebd973c86571dd0fd18f84f2a856e435f295e21a9829a8b38ba5d8dafb5a39b", func := "stileward/stilewardtop.FormSides", spec := "formSides", inPlace := ["internal/abi.NoEscape", "internal/bytealg.CountString", "internal/bytealg.IndexByteString", "internal/bytealg.IndexString", "internal/bytealg.MakeNoZero", "internal/reflectlite.ValueOf", "(internal/reflectlite.Value).Type", "(internal/reflectlite.Value).IsNil", "internal/reflectlite.TypeOf", "(internal/reflectlite.Value).Elem", "(internal/reflectlite.Value).Set"], unfollowed := true, recurses := true, named := ["internal/bytealg.MaxLen", "unicode/utf8.first", "unicode/utf8.acceptRanges", "errors.errorType"], apart := false, laid := [("unicode/utf8.acceptRanges", laid_unicode_utf8_acceptRanges), ("errors.errorType", laid_errors_errorType), ("unicode/utf8.first", laid_unicode_utf8_first)] }
def FormSidesSaid : Prop := formSidesRow.holds Tryz.pinned (OpenSpec.ofChange formSidesSpec)

/-- ITS FALSE NEIGHBOUR: 'it returns false'. Refute it at one input. -/
def formSidesWrong : ChangeSpec := { name := "formSides", fn := fun _ => fun
  | [d1, d2, d3, d4] => { results := [.lit (.bool false)], args := [d1, d2, d3, d4] }
  | _ => none }
def FormSidesWrongFalsely : Prop := formSidesRow.holds Tryz.pinned (OpenSpec.ofChange formSidesWrong)

/-- 'stilewardtop.FormUnrolled': WHATEVER THE INPUT: true; the input reads as it did. -/
def formUnrolledSpec : ChangeSpec := { name := "formUnrolled", fn := fun _ => fun
  | [d1, d2, d3, d4] => { results := [.lit (.bool true)], args := [d1, d2, d3, d4] }
  | _ => none }
def formUnrolledRow : OpenClaim := { program := "ytccknopchddicaagreatdoor", sum := "2ebd973c86571dd0fd18f84f2a856e435f295e21a9829a8b38ba5d8dafb5a39b", func := "stileward/stilewardtop.FormUnrolled", spec := "formUnrolled", inPlace := ["internal/abi.NoEscape", "internal/bytealg.CountString", "internal/bytealg.IndexByteString", "internal/bytealg.IndexString", "internal/bytealg.MakeNoZero", "internal/reflectlite.ValueOf", "(internal/reflectlite.Value).Type", "(internal/reflectlite.Value).IsNil", "internal/reflectlite.TypeOf", "(internal/reflectlite.Value).Elem", "(internal/reflectlite.Value).Set"], unfollowed := true, recurses := true, named := ["internal/bytealg.MaxLen", "unicode/utf8.first", "unicode/utf8.acceptRanges", "errors.errorType"], apart := false, laid := [("unicode/utf8.acceptRanges", laid_unicode_utf8_acceptRanges), ("errors.errorType", laid_errors_errorType), ("unicode/utf8.first", laid_unicode_utf8_first)] }
def FormUnrolledSaid : Prop := formUnrolledRow.holds Tryz.pinned (OpenSpec.ofChange formUnrolledSpec)

/-- ITS FALSE NEIGHBOUR: 'it returns false'. Refute it at one input. -/
def formUnrolledWrong : ChangeSpec := { name := "formUnrolled", fn := fun _ => fun
  | [d1, d2, d3, d4] => { results := [.lit (.bool false)], args := [d1, d2, d3, d4] }
  | _ => none }
def FormUnrolledWrongFalsely : Prop := formUnrolledRow.holds Tryz.pinned (OpenSpec.ofChange formUnrolledWrong)

/-- 'stilewardtop.FormDistributed': WHATEVER THE INPUT: true; the input reads as it did. -/
def formDistributedSpec : ChangeSpec := { name := "formDistributed", fn := fun _ => fun
  | [d1, d2, d3, d4] => { results := [.lit (.bool true)], args := [d1, d2, d3, d4] }
  | _ => none }
def formDistributedRow : OpenClaim := { program := "ytccknopchddicaagreatdoor", sum := "2ebd973c86571dd0fd18f84f2a856e435f295e21a9829a8b38ba5d8dafb5a39b", func := "stileward/stilewardtop.FormDistributed", spec := "formDistributed", inPlace := ["internal/abi.NoEscape", "internal/bytealg.CountString", "internal/bytealg.IndexByteString", "internal/bytealg.IndexString", "internal/bytealg.MakeNoZero", "internal/reflectlite.ValueOf", "(internal/reflectlite.Value).Type", "(internal/reflectlite.Value).IsNil", "internal/reflectlite.TypeOf", "(internal/reflectlite.Value).Elem", "(internal/reflectlite.Value).Set"], unfollowed := true, recurses := true, named := ["internal/bytealg.MaxLen", "unicode/utf8.first", "unicode/utf8.acceptRanges", "errors.errorType"], apart := false, laid := [("unicode/utf8.acceptRanges", laid_unicode_utf8_acceptRanges), ("errors.errorType", laid_errors_errorType), ("unicode/utf8.first", laid_unicode_utf8_first)] }
def FormDistributedSaid : Prop := formDistributedRow.holds Tryz.pinned (OpenSpec.ofChange formDistributedSpec)

/-- ITS FALSE NEIGHBOUR: 'it returns false'. Refute it at one input. -/
def formDistributedWrong : ChangeSpec := { name := "formDistributed", fn := fun _ => fun
  | [d1, d2, d3, d4] => { results := [.lit (.bool false)], args := [d1, d2, d3, d4] }
  | _ => none }
def FormDistributedWrongFalsely : Prop := formDistributedRow.holds Tryz.pinned (OpenSpec.ofChange formDistributedWrong)

/-- 'stilewardtop.FormCrossed': WHATEVER THE INPUT: true; the input reads as it did. -/
def formCrossedSpec : ChangeSpec := { name := "formCrossed", fn := fun _ => fun
  | [d1, d2, d3, d4] => { results := [.lit (.bool true)], args := [d1, d2, d3, d4] }
  | _ => none }
def formCrossedRow : OpenClaim := { program := "ytccknopchddicaagreatdoor", sum := "2ebd973c86571dd0fd18f84f2a856e435f295e21a9829a8b38ba5d8dafb5a39b", func := "stileward/stilewardtop.FormCrossed", spec := "formCrossed", inPlace := ["internal/abi.NoEscape", "internal/bytealg.CountString", "internal/bytealg.IndexByteString", "internal/bytealg.IndexString", "internal/bytealg.MakeNoZero", "internal/reflectlite.ValueOf", "(internal/reflectlite.Value).Type", "(internal/reflectlite.Value).IsNil", "internal/reflectlite.TypeOf", "(internal/reflectlite.Value).Elem", "(internal/reflectlite.Value).Set"], unfollowed := true, recurses := true, named := ["internal/bytealg.MaxLen", "unicode/utf8.first", "unicode/utf8.acceptRanges", "errors.errorType"], apart := false, laid := [("unicode/utf8.acceptRanges", laid_unicode_utf8_acceptRanges), ("errors.errorType", laid_errors_errorType), ("unicode/utf8.first", laid_unicode_utf8_first)] }
def FormCrossedSaid : Prop := formCrossedRow.holds Tryz.pinned (OpenSpec.ofChange formCrossedSpec)

/-- ITS FALSE NEIGHBOUR: 'it returns false'. Refute it at one input. -/
def formCrossedWrong : ChangeSpec := { name := "formCrossed", fn := fun _ => fun
  | [d1, d2, d3, d4] => { results := [.lit (.bool false)], args := [d1, d2, d3, d4] }
  | _ => none }
def FormCrossedWrongFalsely : Prop := formCrossedRow.holds Tryz.pinned (OpenSpec.ofChange formCrossedWrong)

/-- 'stilewardtop.FormAbsorbed': WHATEVER THE INPUT: true; the input reads as it did. -/
def formAbsorbedSpec : ChangeSpec := { name := "formAbsorbed", fn := fun _ => fun
  | [d1, d2, d3, d4, d5, d6] => { results := [.lit (.bool true)], args := [d1, d2, d3, d4, d5, d6] }
  | _ => none }
def formAbsorbedRow : OpenClaim := { program := "ytccknopchddicaagreatdoor", sum := "2ebd973c86571dd0fd18f84f2a856e435f295e21a9829a8b38ba5d8dafb5a39b", func := "stileward/stilewardtop.FormAbsorbed", spec := "formAbsorbed", inPlace := ["internal/abi.NoEscape", "internal/bytealg.CountString", "internal/bytealg.IndexByteString", "internal/bytealg.IndexString", "internal/bytealg.MakeNoZero", "internal/reflectlite.ValueOf", "(internal/reflectlite.Value).Type", "(internal/reflectlite.Value).IsNil", "internal/reflectlite.TypeOf", "(internal/reflectlite.Value).Elem", "(internal/reflectlite.Value).Set"], unfollowed := true, recurses := true, named := ["internal/bytealg.MaxLen", "unicode/utf8.first", "unicode/utf8.acceptRanges", "errors.errorType"], apart := false, laid := [("unicode/utf8.acceptRanges", laid_unicode_utf8_acceptRanges), ("errors.errorType", laid_errors_errorType), ("unicode/utf8.first", laid_unicode_utf8_first)] }
def FormAbsorbedSaid : Prop := formAbsorbedRow.holds Tryz.pinned (OpenSpec.ofChange formAbsorbedSpec)

/-- ITS FALSE NEIGHBOUR: 'it returns false'. Refute it at one input. -/
def formAbsorbedWrong : ChangeSpec := { name := "formAbsorbed", fn := fun _ => fun
  | [d1, d2, d3, d4, d5, d6] => { results := [.lit (.bool false)], args := [d1, d2, d3, d4, d5, d6] }
  | _ => none }
def FormAbsorbedWrongFalsely : Prop := formAbsorbedRow.holds Tryz.pinned (OpenSpec.ofChange formAbsorbedWrong)

/-- 'stilewardtop.FormTwice': WHATEVER THE INPUT: true; the input reads as it did. -/
def formTwiceSpec : ChangeSpec := { name := "formTwice", fn := fun _ => fun
  | [d1, d2, d3, d4, d5] => { results := [.lit (.bool true)], args := [d1, d2, d3, d4, d5] }
  | _ => none }
def formTwiceRow : OpenClaim := { program := "ytccknopchddicaagreatdoor", sum := "2ebd973c86571dd0fd18f84f2a856e435f295e21a9829a8b38ba5d8dafb5a39b", func := "stileward/stilewardtop.FormTwice", spec := "formTwice", inPlace := ["internal/abi.NoEscape", "internal/bytealg.CountString", "internal/bytealg.IndexByteString", "internal/bytealg.IndexString", "internal/bytealg.MakeNoZero", "internal/reflectlite.ValueOf", "(internal/reflectlite.Value).Type", "(internal/reflectlite.Value).IsNil", "internal/reflectlite.TypeOf", "(internal/reflectlite.Value).Elem", "(internal/reflectlite.Value).Set"], unfollowed := true, recurses := true, named := ["internal/bytealg.MaxLen", "unicode/utf8.first", "unicode/utf8.acceptRanges", "errors.errorType"], apart := false, laid := [("unicode/utf8.acceptRanges", laid_unicode_utf8_acceptRanges), ("errors.errorType", laid_errors_errorType), ("unicode/utf8.first", laid_unicode_utf8_first)] }
def FormTwiceSaid : Prop := formTwiceRow.holds Tryz.pinned (OpenSpec.ofChange formTwiceSpec)

/-- ITS FALSE NEIGHBOUR: 'it returns false'. Refute it at one input. -/
def formTwiceWrong : ChangeSpec := { name := "formTwice", fn := fun _ => fun
  | [d1, d2, d3, d4, d5] => { results := [.lit (.bool false)], args := [d1, d2, d3, d4, d5] }
  | _ => none }
def FormTwiceWrongFalsely : Prop := formTwiceRow.holds Tryz.pinned (OpenSpec.ofChange formTwiceWrong)

/-- 'stilewardtop.FormTurned': WHATEVER THE INPUT: true; the input reads as it did. -/
def formTurnedSpec : ChangeSpec := { name := "formTurned", fn := fun _ => fun
  | [d1, d2, d3, d4, d5] => { results := [.lit (.bool true)], args := [d1, d2, d3, d4, d5] }
  | _ => none }
def formTurnedRow : OpenClaim := { program := "ytccknopchddicaagreatdoor", sum := "2ebd973c86571dd0fd18f84f2a856e435f295e21a9829a8b38ba5d8dafb5a39b", func := "stileward/stilewardtop.FormTurned", spec := "formTurned", inPlace := ["internal/abi.NoEscape", "internal/bytealg.CountString", "internal/bytealg.IndexByteString", "internal/bytealg.IndexString", "internal/bytealg.MakeNoZero", "internal/reflectlite.ValueOf", "(internal/reflectlite.Value).Type", "(internal/reflectlite.Value).IsNil", "internal/reflectlite.TypeOf", "(internal/reflectlite.Value).Elem", "(internal/reflectlite.Value).Set"], unfollowed := true, recurses := true, named := ["internal/bytealg.MaxLen", "unicode/utf8.first", "unicode/utf8.acceptRanges", "errors.errorType"], apart := false, laid := [("unicode/utf8.acceptRanges", laid_unicode_utf8_acceptRanges), ("errors.errorType", laid_errors_errorType), ("unicode/utf8.first", laid_unicode_utf8_first)] }
def FormTurnedSaid : Prop := formTurnedRow.holds Tryz.pinned (OpenSpec.ofChange formTurnedSpec)

/-- ITS FALSE NEIGHBOUR: 'it returns false'. Refute it at one input. -/
def formTurnedWrong : ChangeSpec := { name := "formTurned", fn := fun _ => fun
  | [d1, d2, d3, d4, d5] => { results := [.lit (.bool false)], args := [d1, d2, d3, d4, d5] }
  | _ => none }
def FormTurnedWrongFalsely : Prop := formTurnedRow.holds Tryz.pinned (OpenSpec.ofChange formTurnedWrong)

/-- 'stilewardtop.FormLettersParted': WHATEVER THE INPUT: true; the input reads as it did. -/
def formLettersPartedSpec : ChangeSpec := { name := "formLettersParted", fn := fun _ => fun
  | [d1, d2, d3, d4, d5, d6] => { results := [.lit (.bool true)], args := [d1, d2, d3, d4, d5, d6] }
  | _ => none }
def formLettersPartedRow : OpenClaim := { program := "ytccknopchddicaagreatdoor", sum := "2ebd973c86571dd0fd18f84f2a856e435f295e21a9829a8b38ba5d8dafb5a39b", func := "stileward/stilewardtop.FormLettersParted", spec := "formLettersParted", inPlace := ["internal/abi.NoEscape", "internal/bytealg.CountString", "internal/bytealg.IndexByteString", "internal/bytealg.IndexString", "internal/bytealg.MakeNoZero", "internal/reflectlite.ValueOf", "(internal/reflectlite.Value).Type", "(internal/reflectlite.Value).IsNil", "internal/reflectlite.TypeOf", "(internal/reflectlite.Value).Elem", "(internal/reflectlite.Value).Set"], unfollowed := true, recurses := true, named := ["internal/bytealg.MaxLen", "unicode/utf8.first", "unicode/utf8.acceptRanges", "errors.errorType"], apart := false, laid := [("unicode/utf8.acceptRanges", laid_unicode_utf8_acceptRanges), ("errors.errorType", laid_errors_errorType), ("unicode/utf8.first", laid_unicode_utf8_first)] }
def FormLettersPartedSaid : Prop := formLettersPartedRow.holds Tryz.pinned (OpenSpec.ofChange formLettersPartedSpec)

/-- ITS FALSE NEIGHBOUR: 'it returns false'. Refute it at one input. -/
def formLettersPartedWrong : ChangeSpec := { name := "formLettersParted", fn := fun _ => fun
  | [d1, d2, d3, d4, d5, d6] => { results := [.lit (.bool false)], args := [d1, d2, d3, d4, d5, d6] }
  | _ => none }
def FormLettersPartedWrongFalsely : Prop := formLettersPartedRow.holds Tryz.pinned (OpenSpec.ofChange formLettersPartedWrong)

/- THE SECOND FORM. 'bulk': how many values and letters a reading holds, each counted each time it is reached (what is shared counts as often as it is met; a slice's spare places count too). A statement '..UptoSaid' is the law's where the arguments, and the package variables that the reading takes, are together of bulk at most 1048576: NARROWER than '..Said'. Prove '..Said' where nothing that the law and all that it calls make is longer than what came in: it says more and counts as full. Else prove '..UptoSaid'. A law counts once. -/
mutual
def uptoBulk {H : Type} : DataW H → Nat
  | .lit (.string bytes) => bytes.length + 1
  | .lit _ => 1
  | .nil => 1
  | .ptr d => uptoBulk d + 1
  | .slice elems spare => uptoBulkAll elems + uptoBulkAll spare + 1
  | .agg parts => uptoBulkAll parts + 1
  | .iface _ d => uptoBulk d + 1
  | .map entries => uptoBulkEntries entries + 1
  | .held _ => 1
def uptoBulkAll {H : Type} : List (DataW H) → Nat
  | [] => 0
  | d :: r => uptoBulk d + uptoBulkAll r
def uptoBulkEntries {H : Type} : List (Lit × DataW H) → Nat
  | [] => 0
  | x :: r => uptoBulkEntry x + uptoBulkEntries r
def uptoBulkEntry {H : Type} : Lit × DataW H → Nat
  | (.string bytes, d) => bytes.length + uptoBulk d + 1
  | (_, d) => uptoBulk d + 1
 end
def uptoSmall : (H : Type) → List (DataW H) → Bool := fun _ ds => decide (uptoBulkAll ds ≤ 1048576)
def OpenSpec.upto (s : _root_.Go.ChangeSpec) : _root_.Go.OpenSpec := { _root_.Go.OpenSpec.ofChange s with cond := some uptoSmall }

/-- 'stilewardtop.FormDenied', WHERE WHAT IT READS IS OF BULK AT MOST 1048576: true; the input reads as it did. -/
def formDeniedUptoRow : OpenClaim := { program := "ytccknopchddicaagreatdoor", sum := "2ebd973c86571dd0fd18f84f2a856e435f295e21a9829a8b38ba5d8dafb5a39b", func := "stileward/stilewardtop.FormDenied", spec := "formDenied", inPlace := ["internal/abi.NoEscape", "internal/bytealg.CountString", "internal/bytealg.IndexByteString", "internal/bytealg.IndexString", "internal/bytealg.MakeNoZero", "internal/reflectlite.ValueOf", "(internal/reflectlite.Value).Type", "(internal/reflectlite.Value).IsNil", "internal/reflectlite.TypeOf", "(internal/reflectlite.Value).Elem", "(internal/reflectlite.Value).Set"], unfollowed := true, recurses := true, named := ["internal/bytealg.MaxLen", "unicode/utf8.first", "unicode/utf8.acceptRanges", "errors.errorType"], apart := false, laid := [("unicode/utf8.acceptRanges", laid_unicode_utf8_acceptRanges), ("errors.errorType", laid_errors_errorType), ("unicode/utf8.first", laid_unicode_utf8_first)], narrowed := true }
def FormDeniedUptoSaid : Prop := formDeniedUptoRow.holds Tryz.pinned (OpenSpec.upto formDeniedSpec)

/-- 'stilewardtop.FormSides', WHERE WHAT IT READS IS OF BULK AT MOST 1048576: true; the input reads as it did. -/
def formSidesUptoRow : OpenClaim := { program := "ytccknopchddicaagreatdoor", sum := "2ebd973c86571dd0fd18f84f2a856e435f295e21a9829a8b38ba5d8dafb5a39b", func := "stileward/stilewardtop.FormSides", spec := "formSides", inPlace := ["internal/abi.NoEscape", "internal/bytealg.CountString", "internal/bytealg.IndexByteString", "internal/bytealg.IndexString", "internal/bytealg.MakeNoZero", "internal/reflectlite.ValueOf", "(internal/reflectlite.Value).Type", "(internal/reflectlite.Value).IsNil", "internal/reflectlite.TypeOf", "(internal/reflectlite.Value).Elem", "(internal/reflectlite.Value).Set"], unfollowed := true, recurses := true, named := ["internal/bytealg.MaxLen", "unicode/utf8.first", "unicode/utf8.acceptRanges", "errors.errorType"], apart := false, laid := [("unicode/utf8.acceptRanges", laid_unicode_utf8_acceptRanges), ("errors.errorType", laid_errors_errorType), ("unicode/utf8.first", laid_unicode_utf8_first)], narrowed := true }
def FormSidesUptoSaid : Prop := formSidesUptoRow.holds Tryz.pinned (OpenSpec.upto formSidesSpec)

/-- 'stilewardtop.FormUnrolled', WHERE WHAT IT READS IS OF BULK AT MOST 1048576: true; the input reads as it did. -/
def formUnrolledUptoRow : OpenClaim := { program := "ytccknopchddicaagreatdoor", sum := "2ebd973c86571dd0fd18f84f2a856e435f295e21a9829a8b38ba5d8dafb5a39b", func := "stileward/stilewardtop.FormUnrolled", spec := "formUnrolled", inPlace := ["internal/abi.NoEscape", "internal/bytealg.CountString", "internal/bytealg.IndexByteString", "internal/bytealg.IndexString", "internal/bytealg.MakeNoZero", "internal/reflectlite.ValueOf", "(internal/reflectlite.Value).Type", "(internal/reflectlite.Value).IsNil", "internal/reflectlite.TypeOf", "(internal/reflectlite.Value).Elem", "(internal/reflectlite.Value).Set"], unfollowed := true, recurses := true, named := ["internal/bytealg.MaxLen", "unicode/utf8.first", "unicode/utf8.acceptRanges", "errors.errorType"], apart := false, laid := [("unicode/utf8.acceptRanges", laid_unicode_utf8_acceptRanges), ("errors.errorType", laid_errors_errorType), ("unicode/utf8.first", laid_unicode_utf8_first)], narrowed := true }
def FormUnrolledUptoSaid : Prop := formUnrolledUptoRow.holds Tryz.pinned (OpenSpec.upto formUnrolledSpec)

/-- 'stilewardtop.FormDistributed', WHERE WHAT IT READS IS OF BULK AT MOST 1048576: true; the input reads as it did. -/
def formDistributedUptoRow : OpenClaim := { program := "ytccknopchddicaagreatdoor", sum := "2ebd973c86571dd0fd18f84f2a856e435f295e21a9829a8b38ba5d8dafb5a39b", func := "stileward/stilewardtop.FormDistributed", spec := "formDistributed", inPlace := ["internal/abi.NoEscape", "internal/bytealg.CountString", "internal/bytealg.IndexByteString", "internal/bytealg.IndexString", "internal/bytealg.MakeNoZero", "internal/reflectlite.ValueOf", "(internal/reflectlite.Value).Type", "(internal/reflectlite.Value).IsNil", "internal/reflectlite.TypeOf", "(internal/reflectlite.Value).Elem", "(internal/reflectlite.Value).Set"], unfollowed := true, recurses := true, named := ["internal/bytealg.MaxLen", "unicode/utf8.first", "unicode/utf8.acceptRanges", "errors.errorType"], apart := false, laid := [("unicode/utf8.acceptRanges", laid_unicode_utf8_acceptRanges), ("errors.errorType", laid_errors_errorType), ("unicode/utf8.first", laid_unicode_utf8_first)], narrowed := true }
def FormDistributedUptoSaid : Prop := formDistributedUptoRow.holds Tryz.pinned (OpenSpec.upto formDistributedSpec)

/-- 'stilewardtop.FormCrossed', WHERE WHAT IT READS IS OF BULK AT MOST 1048576: true; the input reads as it did. -/
def formCrossedUptoRow : OpenClaim := { program := "ytccknopchddicaagreatdoor", sum := "2ebd973c86571dd0fd18f84f2a856e435f295e21a9829a8b38ba5d8dafb5a39b", func := "stileward/stilewardtop.FormCrossed", spec := "formCrossed", inPlace := ["internal/abi.NoEscape", "internal/bytealg.CountString", "internal/bytealg.IndexByteString", "internal/bytealg.IndexString", "internal/bytealg.MakeNoZero", "internal/reflectlite.ValueOf", "(internal/reflectlite.Value).Type", "(internal/reflectlite.Value).IsNil", "internal/reflectlite.TypeOf", "(internal/reflectlite.Value).Elem", "(internal/reflectlite.Value).Set"], unfollowed := true, recurses := true, named := ["internal/bytealg.MaxLen", "unicode/utf8.first", "unicode/utf8.acceptRanges", "errors.errorType"], apart := false, laid := [("unicode/utf8.acceptRanges", laid_unicode_utf8_acceptRanges), ("errors.errorType", laid_errors_errorType), ("unicode/utf8.first", laid_unicode_utf8_first)], narrowed := true }
def FormCrossedUptoSaid : Prop := formCrossedUptoRow.holds Tryz.pinned (OpenSpec.upto formCrossedSpec)

/-- 'stilewardtop.FormAbsorbed', WHERE WHAT IT READS IS OF BULK AT MOST 1048576: true; the input reads as it did. -/
def formAbsorbedUptoRow : OpenClaim := { program := "ytccknopchddicaagreatdoor", sum := "2ebd973c86571dd0fd18f84f2a856e435f295e21a9829a8b38ba5d8dafb5a39b", func := "stileward/stilewardtop.FormAbsorbed", spec := "formAbsorbed", inPlace := ["internal/abi.NoEscape", "internal/bytealg.CountString", "internal/bytealg.IndexByteString", "internal/bytealg.IndexString", "internal/bytealg.MakeNoZero", "internal/reflectlite.ValueOf", "(internal/reflectlite.Value).Type", "(internal/reflectlite.Value).IsNil", "internal/reflectlite.TypeOf", "(internal/reflectlite.Value).Elem", "(internal/reflectlite.Value).Set"], unfollowed := true, recurses := true, named := ["internal/bytealg.MaxLen", "unicode/utf8.first", "unicode/utf8.acceptRanges", "errors.errorType"], apart := false, laid := [("unicode/utf8.acceptRanges", laid_unicode_utf8_acceptRanges), ("errors.errorType", laid_errors_errorType), ("unicode/utf8.first", laid_unicode_utf8_first)], narrowed := true }
def FormAbsorbedUptoSaid : Prop := formAbsorbedUptoRow.holds Tryz.pinned (OpenSpec.upto formAbsorbedSpec)

/-- 'stilewardtop.FormTwice', WHERE WHAT IT READS IS OF BULK AT MOST 1048576: true; the input reads as it did. -/
def formTwiceUptoRow : OpenClaim := { program := "ytccknopchddicaagreatdoor", sum := "2ebd973c86571dd0fd18f84f2a856e435f295e21a9829a8b38ba5d8dafb5a39b", func := "stileward/stilewardtop.FormTwice", spec := "formTwice", inPlace := ["internal/abi.NoEscape", "internal/bytealg.CountString", "internal/bytealg.IndexByteString", "internal/bytealg.IndexString", "internal/bytealg.MakeNoZero", "internal/reflectlite.ValueOf", "(internal/reflectlite.Value).Type", "(internal/reflectlite.Value).IsNil", "internal/reflectlite.TypeOf", "(internal/reflectlite.Value).Elem", "(internal/reflectlite.Value).Set"], unfollowed := true, recurses := true, named := ["internal/bytealg.MaxLen", "unicode/utf8.first", "unicode/utf8.acceptRanges", "errors.errorType"], apart := false, laid := [("unicode/utf8.acceptRanges", laid_unicode_utf8_acceptRanges), ("errors.errorType", laid_errors_errorType), ("unicode/utf8.first", laid_unicode_utf8_first)], narrowed := true }
def FormTwiceUptoSaid : Prop := formTwiceUptoRow.holds Tryz.pinned (OpenSpec.upto formTwiceSpec)

/-- 'stilewardtop.FormTurned', WHERE WHAT IT READS IS OF BULK AT MOST 1048576: true; the input reads as it did. -/
def formTurnedUptoRow : OpenClaim := { program := "ytccknopchddicaagreatdoor", sum := "2ebd973c86571dd0fd18f84f2a856e435f295e21a9829a8b38ba5d8dafb5a39b", func := "stileward/stilewardtop.FormTurned", spec := "formTurned", inPlace := ["internal/abi.NoEscape", "internal/bytealg.CountString", "internal/bytealg.IndexByteString", "internal/bytealg.IndexString", "internal/bytealg.MakeNoZero", "internal/reflectlite.ValueOf", "(internal/reflectlite.Value).Type", "(internal/reflectlite.Value).IsNil", "internal/reflectlite.TypeOf", "(internal/reflectlite.Value).Elem", "(internal/reflectlite.Value).Set"], unfollowed := true, recurses := true, named := ["internal/bytealg.MaxLen", "unicode/utf8.first", "unicode/utf8.acceptRanges", "errors.errorType"], apart := false, laid := [("unicode/utf8.acceptRanges", laid_unicode_utf8_acceptRanges), ("errors.errorType", laid_errors_errorType), ("unicode/utf8.first", laid_unicode_utf8_first)], narrowed := true }
def FormTurnedUptoSaid : Prop := formTurnedUptoRow.holds Tryz.pinned (OpenSpec.upto formTurnedSpec)

/-- 'stilewardtop.FormLettersParted', WHERE WHAT IT READS IS OF BULK AT MOST 1048576: true; the input reads as it did. -/
def formLettersPartedUptoRow : OpenClaim := { program := "ytccknopchddicaagreatdoor", sum := "2ebd973c86571dd0fd18f84f2a856e435f295e21a9829a8b38ba5d8dafb5a39b", func := "stileward/stilewardtop.FormLettersParted", spec := "formLettersParted", inPlace := ["internal/abi.NoEscape", "internal/bytealg.CountString", "internal/bytealg.IndexByteString", "internal/bytealg.IndexString", "internal/bytealg.MakeNoZero", "internal/reflectlite.ValueOf", "(internal/reflectlite.Value).Type", "(internal/reflectlite.Value).IsNil", "internal/reflectlite.TypeOf", "(internal/reflectlite.Value).Elem", "(internal/reflectlite.Value).Set"], unfollowed := true, recurses := true, named := ["internal/bytealg.MaxLen", "unicode/utf8.first", "unicode/utf8.acceptRanges", "errors.errorType"], apart := false, laid := [("unicode/utf8.acceptRanges", laid_unicode_utf8_acceptRanges), ("errors.errorType", laid_errors_errorType), ("unicode/utf8.first", laid_unicode_utf8_first)], narrowed := true }
def FormLettersPartedUptoSaid : Prop := formLettersPartedUptoRow.holds Tryz.pinned (OpenSpec.upto formLettersPartedSpec)

end Rows
end Go.Proofs.YtccknopchddicaaGreatDoor
