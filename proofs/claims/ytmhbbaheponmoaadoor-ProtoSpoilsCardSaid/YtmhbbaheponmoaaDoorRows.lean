/-
  NARROWER THAN 'FOR EVERY INPUT', by the rows' own cells (each row's printed sentence says how): ProtoEach: loops, laid · ProtoSpoils: loops, laid · ProtoWithin: loops, laid · ProtoStrip: loops, laid · ProtoActive: loops, laid · ProtoSame: loops, laid · ProtoLimits: laid.
  DERIVED. THE GIVEN ROWS OF THIS SEAT. 7 by the template 'for every input the law returns true; each argument reads behind the call as it read before'; 0 by the template 'total and deterministic' (their statements: YtmhbbaheponmoaaDoorTotals.lean).
  GIVEN WITH THE SEED: the statements are not yours to turn. If you find one false, say at which input.
  Laid BY PROGRAM, IN A SANDBOX (cutbox-rows.mjs): the forced cells as the released guide's own fill.sh prints them over the translation 7ed85273e9b22912… (all of the seat's roots in one cut). By AI agents, Wed Nov 11 2026. No macro, syntax, notation, axiom, sorry.
-/
import Derived.Test.YtmhbbaheponmoaaDoorChecked
import GoSem.Claim
import GoSem.ClaimJoined
import GoSem.ClaimMapViews
import Derived.JoinedTies
import Derived.KernelRfl
namespace Go.Proofs.YtmhbbaheponmoaaDoor
/- THE CELL 'sum', in the pinned program and in every row, IS THE sha256 OF THE DUMP (.gsa) THAT YtmhbbaheponmoaaDoorProg.lean LOADS. Nothing in Lean hashes anything: it is a label: what it is worth is what the hold of that sum in a sandbox is worth. -/
noncomputable def Tryd.pinned : Pinned := { name := "ytmhbbaheponmoaadoor", sum := "7ed85273e9b229120943430b4451d3d84a33d104de5a89d16836fbdb2473a865", checked := Tryd.checked }
namespace Rows
def none {H : Type} : Left H := { results := [], args := [] }

/- WHAT THE LISTED PACKAGE-LEVEL VARIABLES READ AS WHEN THE CALL BEGINS. Each datum BY PROGRAM (the guide's laid-datum.mjs) off the statement by which the dump's own 'gosem.cut.vars' lays the variable. In a bare row this is a premise. The card (YtmhbbaheponmoaaDoorCards.lean) ties it to the program's text. -/
def laid_unicode_White_Space {H : Type} : DataW H := .ptr (.agg [.slice [.agg [.lit (.int .u16 9), .lit (.int .u16 13), .lit (.int .u16 1)], .agg [.lit (.int .u16 32), .lit (.int .u16 133), .lit (.int .u16 101)], .agg [.lit (.int .u16 160), .lit (.int .u16 5760), .lit (.int .u16 5600)], .agg [.lit (.int .u16 8192), .lit (.int .u16 8202), .lit (.int .u16 1)], .agg [.lit (.int .u16 8232), .lit (.int .u16 8233), .lit (.int .u16 1)], .agg [.lit (.int .u16 8239), .lit (.int .u16 8287), .lit (.int .u16 48)], .agg [.lit (.int .u16 12288), .lit (.int .u16 12288), .lit (.int .u16 1)]] [], .nil, .lit (.int .i64 2)])
def laid_strings_asciiSpace {H : Type} : DataW H := .agg [.lit (.int .u8 0), .lit (.int .u8 0), .lit (.int .u8 0), .lit (.int .u8 0), .lit (.int .u8 0), .lit (.int .u8 0), .lit (.int .u8 0), .lit (.int .u8 0), .lit (.int .u8 0), .lit (.int .u8 1), .lit (.int .u8 1), .lit (.int .u8 1), .lit (.int .u8 1), .lit (.int .u8 1), .lit (.int .u8 0), .lit (.int .u8 0), .lit (.int .u8 0), .lit (.int .u8 0), .lit (.int .u8 0), .lit (.int .u8 0), .lit (.int .u8 0), .lit (.int .u8 0), .lit (.int .u8 0), .lit (.int .u8 0), .lit (.int .u8 0), .lit (.int .u8 0), .lit (.int .u8 0), .lit (.int .u8 0), .lit (.int .u8 0), .lit (.int .u8 0), .lit (.int .u8 0), .lit (.int .u8 0), .lit (.int .u8 1), .lit (.int .u8 0), .lit (.int .u8 0), .lit (.int .u8 0), .lit (.int .u8 0), .lit (.int .u8 0), .lit (.int .u8 0), .lit (.int .u8 0), .lit (.int .u8 0), .lit (.int .u8 0), .lit (.int .u8 0), .lit (.int .u8 0), .lit (.int .u8 0), .lit (.int .u8 0), .lit (.int .u8 0), .lit (.int .u8 0), .lit (.int .u8 0), .lit (.int .u8 0), .lit (.int .u8 0), .lit (.int .u8 0), .lit (.int .u8 0), .lit (.int .u8 0), .lit (.int .u8 0), .lit (.int .u8 0), .lit (.int .u8 0), .lit (.int .u8 0), .lit (.int .u8 0), .lit (.int .u8 0), .lit (.int .u8 0), .lit (.int .u8 0), .lit (.int .u8 0), .lit (.int .u8 0), .lit (.int .u8 0), .lit (.int .u8 0), .lit (.int .u8 0), .lit (.int .u8 0), .lit (.int .u8 0), .lit (.int .u8 0), .lit (.int .u8 0), .lit (.int .u8 0), .lit (.int .u8 0), .lit (.int .u8 0), .lit (.int .u8 0), .lit (.int .u8 0), .lit (.int .u8 0), .lit (.int .u8 0), .lit (.int .u8 0), .lit (.int .u8 0), .lit (.int .u8 0), .lit (.int .u8 0), .lit (.int .u8 0), .lit (.int .u8 0), .lit (.int .u8 0), .lit (.int .u8 0), .lit (.int .u8 0), .lit (.int .u8 0), .lit (.int .u8 0), .lit (.int .u8 0), .lit (.int .u8 0), .lit (.int .u8 0), .lit (.int .u8 0), .lit (.int .u8 0), .lit (.int .u8 0), .lit (.int .u8 0), .lit (.int .u8 0), .lit (.int .u8 0), .lit (.int .u8 0), .lit (.int .u8 0), .lit (.int .u8 0), .lit (.int .u8 0), .lit (.int .u8 0), .lit (.int .u8 0), .lit (.int .u8 0), .lit (.int .u8 0), .lit (.int .u8 0), .lit (.int .u8 0), .lit (.int .u8 0), .lit (.int .u8 0), .lit (.int .u8 0), .lit (.int .u8 0), .lit (.int .u8 0), .lit (.int .u8 0), .lit (.int .u8 0), .lit (.int .u8 0), .lit (.int .u8 0), .lit (.int .u8 0), .lit (.int .u8 0), .lit (.int .u8 0), .lit (.int .u8 0), .lit (.int .u8 0), .lit (.int .u8 0), .lit (.int .u8 0), .lit (.int .u8 0), .lit (.int .u8 0), .lit (.int .u8 0), .lit (.int .u8 0), .lit (.int .u8 0), .lit (.int .u8 0), .lit (.int .u8 0), .lit (.int .u8 0), .lit (.int .u8 0), .lit (.int .u8 0), .lit (.int .u8 0), .lit (.int .u8 0), .lit (.int .u8 0), .lit (.int .u8 0), .lit (.int .u8 0), .lit (.int .u8 0), .lit (.int .u8 0), .lit (.int .u8 0), .lit (.int .u8 0), .lit (.int .u8 0), .lit (.int .u8 0), .lit (.int .u8 0), .lit (.int .u8 0), .lit (.int .u8 0), .lit (.int .u8 0), .lit (.int .u8 0), .lit (.int .u8 0), .lit (.int .u8 0), .lit (.int .u8 0), .lit (.int .u8 0), .lit (.int .u8 0), .lit (.int .u8 0), .lit (.int .u8 0), .lit (.int .u8 0), .lit (.int .u8 0), .lit (.int .u8 0), .lit (.int .u8 0), .lit (.int .u8 0), .lit (.int .u8 0), .lit (.int .u8 0), .lit (.int .u8 0), .lit (.int .u8 0), .lit (.int .u8 0), .lit (.int .u8 0), .lit (.int .u8 0), .lit (.int .u8 0), .lit (.int .u8 0), .lit (.int .u8 0), .lit (.int .u8 0), .lit (.int .u8 0), .lit (.int .u8 0), .lit (.int .u8 0), .lit (.int .u8 0), .lit (.int .u8 0), .lit (.int .u8 0), .lit (.int .u8 0), .lit (.int .u8 0), .lit (.int .u8 0), .lit (.int .u8 0), .lit (.int .u8 0), .lit (.int .u8 0), .lit (.int .u8 0), .lit (.int .u8 0), .lit (.int .u8 0), .lit (.int .u8 0), .lit (.int .u8 0), .lit (.int .u8 0), .lit (.int .u8 0), .lit (.int .u8 0), .lit (.int .u8 0), .lit (.int .u8 0), .lit (.int .u8 0), .lit (.int .u8 0), .lit (.int .u8 0), .lit (.int .u8 0), .lit (.int .u8 0), .lit (.int .u8 0), .lit (.int .u8 0), .lit (.int .u8 0), .lit (.int .u8 0), .lit (.int .u8 0), .lit (.int .u8 0), .lit (.int .u8 0), .lit (.int .u8 0), .lit (.int .u8 0), .lit (.int .u8 0), .lit (.int .u8 0), .lit (.int .u8 0), .lit (.int .u8 0), .lit (.int .u8 0), .lit (.int .u8 0), .lit (.int .u8 0), .lit (.int .u8 0), .lit (.int .u8 0), .lit (.int .u8 0), .lit (.int .u8 0), .lit (.int .u8 0), .lit (.int .u8 0), .lit (.int .u8 0), .lit (.int .u8 0), .lit (.int .u8 0), .lit (.int .u8 0), .lit (.int .u8 0), .lit (.int .u8 0), .lit (.int .u8 0), .lit (.int .u8 0), .lit (.int .u8 0), .lit (.int .u8 0), .lit (.int .u8 0), .lit (.int .u8 0), .lit (.int .u8 0), .lit (.int .u8 0), .lit (.int .u8 0), .lit (.int .u8 0), .lit (.int .u8 0), .lit (.int .u8 0), .lit (.int .u8 0), .lit (.int .u8 0), .lit (.int .u8 0), .lit (.int .u8 0), .lit (.int .u8 0), .lit (.int .u8 0), .lit (.int .u8 0), .lit (.int .u8 0), .lit (.int .u8 0), .lit (.int .u8 0), .lit (.int .u8 0), .lit (.int .u8 0), .lit (.int .u8 0), .lit (.int .u8 0), .lit (.int .u8 0), .lit (.int .u8 0)]

/-- 'scriptinglaw33.ProtoEach': WHATEVER THE INPUT: true; the input reads as it did. -/
def protoEachSpec : ChangeSpec := { name := "protoEach", fn := fun _ => fun
  | [d] => { results := [.lit (.bool true)], args := [d] }
  | _ => none }
def protoEachRow : OpenClaim := { program := "ytmhbbaheponmoaadoor", sum := "7ed85273e9b229120943430b4451d3d84a33d104de5a89d16836fbdb2473a865", func := "scripting/scriptinglaw33.ProtoEach", spec := "protoEach", unfollowed := true, recurses := true, named := ["strings.asciiSpace", "unicode.White_Space"], loops := true, apart := false, laid := [("unicode.White_Space", laid_unicode_White_Space), ("strings.asciiSpace", laid_strings_asciiSpace)] }
def ProtoEachSaid : Prop := protoEachRow.holds Tryd.pinned (OpenSpec.ofChange protoEachSpec)

/-- ITS FALSE NEIGHBOUR: 'it returns false'. Refute it at one input. -/
def protoEachWrong : ChangeSpec := { name := "protoEach", fn := fun _ => fun
  | [d] => { results := [.lit (.bool false)], args := [d] }
  | _ => none }
def ProtoEachWrongFalsely : Prop := protoEachRow.holds Tryd.pinned (OpenSpec.ofChange protoEachWrong)

/-- 'scriptinglaw33.ProtoSpoils': WHATEVER THE INPUT: true; the input reads as it did. -/
def protoSpoilsSpec : ChangeSpec := { name := "protoSpoils", fn := fun _ => fun
  | [d1, d2] => { results := [.lit (.bool true)], args := [d1, d2] }
  | _ => none }
def protoSpoilsRow : OpenClaim := { program := "ytmhbbaheponmoaadoor", sum := "7ed85273e9b229120943430b4451d3d84a33d104de5a89d16836fbdb2473a865", func := "scripting/scriptinglaw33.ProtoSpoils", spec := "protoSpoils", unfollowed := true, recurses := true, named := ["strings.asciiSpace", "unicode.White_Space"], loops := true, apart := false, laid := [("unicode.White_Space", laid_unicode_White_Space), ("strings.asciiSpace", laid_strings_asciiSpace)] }
def ProtoSpoilsSaid : Prop := protoSpoilsRow.holds Tryd.pinned (OpenSpec.ofChange protoSpoilsSpec)

/-- ITS FALSE NEIGHBOUR: 'it returns false'. Refute it at one input. -/
def protoSpoilsWrong : ChangeSpec := { name := "protoSpoils", fn := fun _ => fun
  | [d1, d2] => { results := [.lit (.bool false)], args := [d1, d2] }
  | _ => none }
def ProtoSpoilsWrongFalsely : Prop := protoSpoilsRow.holds Tryd.pinned (OpenSpec.ofChange protoSpoilsWrong)

/-- 'scriptinglaw33.ProtoWithin': WHATEVER THE INPUT: true; the input reads as it did. -/
def protoWithinSpec : ChangeSpec := { name := "protoWithin", fn := fun _ => fun
  | [d] => { results := [.lit (.bool true)], args := [d] }
  | _ => none }
def protoWithinRow : OpenClaim := { program := "ytmhbbaheponmoaadoor", sum := "7ed85273e9b229120943430b4451d3d84a33d104de5a89d16836fbdb2473a865", func := "scripting/scriptinglaw33.ProtoWithin", spec := "protoWithin", unfollowed := true, recurses := true, named := ["strings.asciiSpace", "unicode.White_Space"], loops := true, apart := false, laid := [("unicode.White_Space", laid_unicode_White_Space), ("strings.asciiSpace", laid_strings_asciiSpace)] }
def ProtoWithinSaid : Prop := protoWithinRow.holds Tryd.pinned (OpenSpec.ofChange protoWithinSpec)

/-- ITS FALSE NEIGHBOUR: 'it returns false'. Refute it at one input. -/
def protoWithinWrong : ChangeSpec := { name := "protoWithin", fn := fun _ => fun
  | [d] => { results := [.lit (.bool false)], args := [d] }
  | _ => none }
def ProtoWithinWrongFalsely : Prop := protoWithinRow.holds Tryd.pinned (OpenSpec.ofChange protoWithinWrong)

/-- 'scriptinglaw33.ProtoStrip': WHATEVER THE INPUT: true; the input reads as it did. -/
def protoStripSpec : ChangeSpec := { name := "protoStrip", fn := fun _ => fun
  | [d] => { results := [.lit (.bool true)], args := [d] }
  | _ => none }
def protoStripRow : OpenClaim := { program := "ytmhbbaheponmoaadoor", sum := "7ed85273e9b229120943430b4451d3d84a33d104de5a89d16836fbdb2473a865", func := "scripting/scriptinglaw33.ProtoStrip", spec := "protoStrip", unfollowed := true, recurses := true, named := ["strings.asciiSpace", "unicode.White_Space"], loops := true, apart := false, laid := [("unicode.White_Space", laid_unicode_White_Space), ("strings.asciiSpace", laid_strings_asciiSpace)] }
def ProtoStripSaid : Prop := protoStripRow.holds Tryd.pinned (OpenSpec.ofChange protoStripSpec)

/-- ITS FALSE NEIGHBOUR: 'it returns false'. Refute it at one input. -/
def protoStripWrong : ChangeSpec := { name := "protoStrip", fn := fun _ => fun
  | [d] => { results := [.lit (.bool false)], args := [d] }
  | _ => none }
def ProtoStripWrongFalsely : Prop := protoStripRow.holds Tryd.pinned (OpenSpec.ofChange protoStripWrong)

/-- 'scriptinglaw33.ProtoActive': WHATEVER THE INPUT: true; the input reads as it did. -/
def protoActiveSpec : ChangeSpec := { name := "protoActive", fn := fun _ => fun
  | [d1, d2] => { results := [.lit (.bool true)], args := [d1, d2] }
  | _ => none }
def protoActiveRow : OpenClaim := { program := "ytmhbbaheponmoaadoor", sum := "7ed85273e9b229120943430b4451d3d84a33d104de5a89d16836fbdb2473a865", func := "scripting/scriptinglaw33.ProtoActive", spec := "protoActive", unfollowed := true, recurses := true, named := ["strings.asciiSpace", "unicode.White_Space"], loops := true, apart := false, laid := [("unicode.White_Space", laid_unicode_White_Space), ("strings.asciiSpace", laid_strings_asciiSpace)] }
def ProtoActiveSaid : Prop := protoActiveRow.holds Tryd.pinned (OpenSpec.ofChange protoActiveSpec)

/-- ITS FALSE NEIGHBOUR: 'it returns false'. Refute it at one input. -/
def protoActiveWrong : ChangeSpec := { name := "protoActive", fn := fun _ => fun
  | [d1, d2] => { results := [.lit (.bool false)], args := [d1, d2] }
  | _ => none }
def ProtoActiveWrongFalsely : Prop := protoActiveRow.holds Tryd.pinned (OpenSpec.ofChange protoActiveWrong)

/-- 'scriptinglaw33.ProtoSame': WHATEVER THE INPUT: true; the input reads as it did. -/
def protoSameSpec : ChangeSpec := { name := "protoSame", fn := fun _ => fun
  | [d1, d2] => { results := [.lit (.bool true)], args := [d1, d2] }
  | _ => none }
def protoSameRow : OpenClaim := { program := "ytmhbbaheponmoaadoor", sum := "7ed85273e9b229120943430b4451d3d84a33d104de5a89d16836fbdb2473a865", func := "scripting/scriptinglaw33.ProtoSame", spec := "protoSame", unfollowed := true, recurses := true, named := ["strings.asciiSpace", "unicode.White_Space"], loops := true, apart := false, laid := [("unicode.White_Space", laid_unicode_White_Space), ("strings.asciiSpace", laid_strings_asciiSpace)] }
def ProtoSameSaid : Prop := protoSameRow.holds Tryd.pinned (OpenSpec.ofChange protoSameSpec)

/-- ITS FALSE NEIGHBOUR: 'it returns false'. Refute it at one input. -/
def protoSameWrong : ChangeSpec := { name := "protoSame", fn := fun _ => fun
  | [d1, d2] => { results := [.lit (.bool false)], args := [d1, d2] }
  | _ => none }
def ProtoSameWrongFalsely : Prop := protoSameRow.holds Tryd.pinned (OpenSpec.ofChange protoSameWrong)

/-- 'scriptinglaw33.ProtoLimits': WHATEVER THE INPUT: true; the input reads as it did. -/
def protoLimitsSpec : ChangeSpec := { name := "protoLimits", fn := fun _ => fun
  | [d] => { results := [.lit (.bool true)], args := [d] }
  | _ => none }
def protoLimitsRow : OpenClaim := { program := "ytmhbbaheponmoaadoor", sum := "7ed85273e9b229120943430b4451d3d84a33d104de5a89d16836fbdb2473a865", func := "scripting/scriptinglaw33.ProtoLimits", spec := "protoLimits", inPlace := ["internal/abi.NoEscape", "internal/bytealg.MakeNoZero"], unfollowed := true, recurses := true, named := ["strings.asciiSpace", "unicode.White_Space"], apart := false, laid := [("unicode.White_Space", laid_unicode_White_Space), ("strings.asciiSpace", laid_strings_asciiSpace)] }
def ProtoLimitsSaid : Prop := protoLimitsRow.holds Tryd.pinned (OpenSpec.ofChange protoLimitsSpec)

/-- ITS FALSE NEIGHBOUR: 'it returns false'. Refute it at one input. -/
def protoLimitsWrong : ChangeSpec := { name := "protoLimits", fn := fun _ => fun
  | [d] => { results := [.lit (.bool false)], args := [d] }
  | _ => none }
def ProtoLimitsWrongFalsely : Prop := protoLimitsRow.holds Tryd.pinned (OpenSpec.ofChange protoLimitsWrong)

/- THE SECOND FORM. 'bulk': how many values and letters a reading holds, each counted each time it is reached (what is shared counts as often as it is met; a slice's spare places count too). A statement '..UptoSaid' is the law's where the arguments, and the package variables that the reading takes, are together of bulk at most 1048576: NARROWER than '..Said'. Prove '..Said' where nothing that the law and all that it calls make is longer than what came in: it says more and counts as full. Else prove '..UptoSaid'. A law counts once. -/
mutual
def uptoBulk {H : Type} : DataW H → Nat
  | .lit (.string bytes) => bytes.length + 1
  | .lit _ => 1
  | .nil => 1
  | .ptr d => uptoBulk d + 1
  | .slice elems spare => uptoBulkAll elems + uptoBulkAll spare + 1
  | .agg parts => uptoBulkAll parts + 1
  | .iface _ d => uptoBulk d + 1
  | .map entries => uptoBulkEntries entries + 1
  | .held _ => 1
def uptoBulkAll {H : Type} : List (DataW H) → Nat
  | [] => 0
  | d :: r => uptoBulk d + uptoBulkAll r
def uptoBulkEntries {H : Type} : List (Lit × DataW H) → Nat
  | [] => 0
  | x :: r => uptoBulkEntry x + uptoBulkEntries r
def uptoBulkEntry {H : Type} : Lit × DataW H → Nat
  | (.string bytes, d) => bytes.length + uptoBulk d + 1
  | (_, d) => uptoBulk d + 1
 end
def uptoSmall : (H : Type) → List (DataW H) → Bool := fun _ ds => decide (uptoBulkAll ds ≤ 1048576)
def OpenSpec.upto (s : _root_.Go.ChangeSpec) : _root_.Go.OpenSpec := { _root_.Go.OpenSpec.ofChange s with cond := some uptoSmall }

/-- 'scriptinglaw33.ProtoEach', WHERE WHAT IT READS IS OF BULK AT MOST 1048576: true; the input reads as it did. -/
def protoEachUptoRow : OpenClaim := { program := "ytmhbbaheponmoaadoor", sum := "7ed85273e9b229120943430b4451d3d84a33d104de5a89d16836fbdb2473a865", func := "scripting/scriptinglaw33.ProtoEach", spec := "protoEach", unfollowed := true, recurses := true, named := ["strings.asciiSpace", "unicode.White_Space"], loops := true, apart := false, laid := [("unicode.White_Space", laid_unicode_White_Space), ("strings.asciiSpace", laid_strings_asciiSpace)], narrowed := true }
def ProtoEachUptoSaid : Prop := protoEachUptoRow.holds Tryd.pinned (OpenSpec.upto protoEachSpec)

/-- 'scriptinglaw33.ProtoSpoils', WHERE WHAT IT READS IS OF BULK AT MOST 1048576: true; the input reads as it did. -/
def protoSpoilsUptoRow : OpenClaim := { program := "ytmhbbaheponmoaadoor", sum := "7ed85273e9b229120943430b4451d3d84a33d104de5a89d16836fbdb2473a865", func := "scripting/scriptinglaw33.ProtoSpoils", spec := "protoSpoils", unfollowed := true, recurses := true, named := ["strings.asciiSpace", "unicode.White_Space"], loops := true, apart := false, laid := [("unicode.White_Space", laid_unicode_White_Space), ("strings.asciiSpace", laid_strings_asciiSpace)], narrowed := true }
def ProtoSpoilsUptoSaid : Prop := protoSpoilsUptoRow.holds Tryd.pinned (OpenSpec.upto protoSpoilsSpec)

/-- 'scriptinglaw33.ProtoWithin', WHERE WHAT IT READS IS OF BULK AT MOST 1048576: true; the input reads as it did. -/
def protoWithinUptoRow : OpenClaim := { program := "ytmhbbaheponmoaadoor", sum := "7ed85273e9b229120943430b4451d3d84a33d104de5a89d16836fbdb2473a865", func := "scripting/scriptinglaw33.ProtoWithin", spec := "protoWithin", unfollowed := true, recurses := true, named := ["strings.asciiSpace", "unicode.White_Space"], loops := true, apart := false, laid := [("unicode.White_Space", laid_unicode_White_Space), ("strings.asciiSpace", laid_strings_asciiSpace)], narrowed := true }
def ProtoWithinUptoSaid : Prop := protoWithinUptoRow.holds Tryd.pinned (OpenSpec.upto protoWithinSpec)

/-- 'scriptinglaw33.ProtoStrip', WHERE WHAT IT READS IS OF BULK AT MOST 1048576: true; the input reads as it did. -/
def protoStripUptoRow : OpenClaim := { program := "ytmhbbaheponmoaadoor", sum := "7ed85273e9b229120943430b4451d3d84a33d104de5a89d16836fbdb2473a865", func := "scripting/scriptinglaw33.ProtoStrip", spec := "protoStrip", unfollowed := true, recurses := true, named := ["strings.asciiSpace", "unicode.White_Space"], loops := true, apart := false, laid := [("unicode.White_Space", laid_unicode_White_Space), ("strings.asciiSpace", laid_strings_asciiSpace)], narrowed := true }
def ProtoStripUptoSaid : Prop := protoStripUptoRow.holds Tryd.pinned (OpenSpec.upto protoStripSpec)

/-- 'scriptinglaw33.ProtoActive', WHERE WHAT IT READS IS OF BULK AT MOST 1048576: true; the input reads as it did. -/
def protoActiveUptoRow : OpenClaim := { program := "ytmhbbaheponmoaadoor", sum := "7ed85273e9b229120943430b4451d3d84a33d104de5a89d16836fbdb2473a865", func := "scripting/scriptinglaw33.ProtoActive", spec := "protoActive", unfollowed := true, recurses := true, named := ["strings.asciiSpace", "unicode.White_Space"], loops := true, apart := false, laid := [("unicode.White_Space", laid_unicode_White_Space), ("strings.asciiSpace", laid_strings_asciiSpace)], narrowed := true }
def ProtoActiveUptoSaid : Prop := protoActiveUptoRow.holds Tryd.pinned (OpenSpec.upto protoActiveSpec)

/-- 'scriptinglaw33.ProtoSame', WHERE WHAT IT READS IS OF BULK AT MOST 1048576: true; the input reads as it did. -/
def protoSameUptoRow : OpenClaim := { program := "ytmhbbaheponmoaadoor", sum := "7ed85273e9b229120943430b4451d3d84a33d104de5a89d16836fbdb2473a865", func := "scripting/scriptinglaw33.ProtoSame", spec := "protoSame", unfollowed := true, recurses := true, named := ["strings.asciiSpace", "unicode.White_Space"], loops := true, apart := false, laid := [("unicode.White_Space", laid_unicode_White_Space), ("strings.asciiSpace", laid_strings_asciiSpace)], narrowed := true }
def ProtoSameUptoSaid : Prop := protoSameUptoRow.holds Tryd.pinned (OpenSpec.upto protoSameSpec)

/-- 'scriptinglaw33.ProtoLimits', WHERE WHAT IT READS IS OF BULK AT MOST 1048576: true; the input reads as it did. -/
def protoLimitsUptoRow : OpenClaim := { program := "ytmhbbaheponmoaadoor", sum := "7ed85273e9b229120943430b4451d3d84a33d104de5a89d16836fbdb2473a865", func := "scripting/scriptinglaw33.ProtoLimits", spec := "protoLimits", inPlace := ["internal/abi.NoEscape", "internal/bytealg.MakeNoZero"], unfollowed := true, recurses := true, named := ["strings.asciiSpace", "unicode.White_Space"], apart := false, laid := [("unicode.White_Space", laid_unicode_White_Space), ("strings.asciiSpace", laid_strings_asciiSpace)], narrowed := true }
def ProtoLimitsUptoSaid : Prop := protoLimitsUptoRow.holds Tryd.pinned (OpenSpec.upto protoLimitsSpec)

end Rows
end Go.Proofs.YtmhbbaheponmoaaDoor
