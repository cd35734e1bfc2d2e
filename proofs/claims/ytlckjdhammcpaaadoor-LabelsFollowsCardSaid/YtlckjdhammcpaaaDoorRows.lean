/-
  NARROWER THAN 'FOR EVERY INPUT', by the rows' own cells (each row's printed sentence says how): LabelsCalls: laid · LabelsNumbers: laid · LabelsTargets: laid · LabelsStraight: laid · LabelsShares: laid · LabelsNone: laid · LabelsFollows: laid.
  DERIVED. THE GIVEN ROWS OF THIS SEAT. 7 by the template 'for every input the law returns true; each argument reads behind the call as it read before'; 0 by the template 'total and deterministic' (their statements: YtlckjdhammcpaaaDoorTotals.lean).
  GIVEN WITH THE SEED: the statements are not yours to turn. If you find one false, say at which input.
  Laid BY PROGRAM, IN A SANDBOX (cutbox-rows.mjs): the forced cells as the released guide's own fill.sh prints them over the translation 5205f1934f122ef9… (all of the seat's roots in one cut). By AI agents, Wed Nov 11 2026. No macro, syntax, notation, axiom, sorry.
-/
import Derived.Test.YtlckjdhammcpaaaDoorChecked
import GoSem.Claim
import GoSem.ClaimJoined
import GoSem.ClaimMapViews
import Derived.JoinedTies
import Derived.KernelRfl
namespace Go.Proofs.YtlckjdhammcpaaaDoor
/- THE CELL 'sum', in the pinned program and in every row, IS THE sha256 OF THE DUMP (.gsa) THAT YtlckjdhammcpaaaDoorProg.lean LOADS. Nothing in Lean hashes anything: it is a label: what it is worth is what the hold of that sum in a sandbox is worth. -/
noncomputable def Tryd.pinned : Pinned := { name := "ytlckjdhammcpaaadoor", sum := "5205f1934f122ef9491daf97dedaa8e9ce21122e3b31bc6b010e1831735ae1ec", checked := Tryd.checked }
namespace Rows
def none {H : Type} : Left H := { results := [], args := [] }

/- WHAT THE LISTED PACKAGE-LEVEL VARIABLES READ AS WHEN THE CALL BEGINS. Each datum BY PROGRAM (the guide's laid-datum.mjs) off the statement by which the dump's own 'gosem.cut.vars' lays the variable. In a bare row this is a premise. The card (YtlckjdhammcpaaaDoorCards.lean) ties it to the program's text. -/
def laid_unicode_White_Space {H : Type} : DataW H := .ptr (.agg [.slice [.agg [.lit (.int .u16 9), .lit (.int .u16 13), .lit (.int .u16 1)], .agg [.lit (.int .u16 32), .lit (.int .u16 133), .lit (.int .u16 101)], .agg [.lit (.int .u16 160), .lit (.int .u16 5760), .lit (.int .u16 5600)], .agg [.lit (.int .u16 8192), .lit (.int .u16 8202), .lit (.int .u16 1)], .agg [.lit (.int .u16 8232), .lit (.int .u16 8233), .lit (.int .u16 1)], .agg [.lit (.int .u16 8239), .lit (.int .u16 8287), .lit (.int .u16 48)], .agg [.lit (.int .u16 12288), .lit (.int .u16 12288), .lit (.int .u16 1)]] [], .nil, .lit (.int .i64 2)])
def laid_strings_asciiSpace {H : Type} : DataW H := .agg [.lit (.int .u8 0), .lit (.int .u8 0), .lit (.int .u8 0), .lit (.int .u8 0), .lit (.int .u8 0), .lit (.int .u8 0), .lit (.int .u8 0), .lit (.int .u8 0), .lit (.int .u8 0), .lit (.int .u8 1), .lit (.int .u8 1), .lit (.int .u8 1), .lit (.int .u8 1), .lit (.int .u8 1), .lit (.int .u8 0), .lit (.int .u8 0), .lit (.int .u8 0), .lit (.int .u8 0), .lit (.int .u8 0), .lit (.int .u8 0), .lit (.int .u8 0), .lit (.int .u8 0), .lit (.int .u8 0), .lit (.int .u8 0), .lit (.int .u8 0), .lit (.int .u8 0), .lit (.int .u8 0), .lit (.int .u8 0), .lit (.int .u8 0), .lit (.int .u8 0), .lit (.int .u8 0), .lit (.int .u8 0), .lit (.int .u8 1), .lit (.int .u8 0), .lit (.int .u8 0), .lit (.int .u8 0), .lit (.int .u8 0), .lit (.int .u8 0), .lit (.int .u8 0), .lit (.int .u8 0), .lit (.int .u8 0), .lit (.int .u8 0), .lit (.int .u8 0), .lit (.int .u8 0), .lit (.int .u8 0), .lit (.int .u8 0), .lit (.int .u8 0), .lit (.int .u8 0), .lit (.int .u8 0), .lit (.int .u8 0), .lit (.int .u8 0), .lit (.int .u8 0), .lit (.int .u8 0), .lit (.int .u8 0), .lit (.int .u8 0), .lit (.int .u8 0), .lit (.int .u8 0), .lit (.int .u8 0), .lit (.int .u8 0), .lit (.int .u8 0), .lit (.int .u8 0), .lit (.int .u8 0), .lit (.int .u8 0), .lit (.int .u8 0), .lit (.int .u8 0), .lit (.int .u8 0), .lit (.int .u8 0), .lit (.int .u8 0), .lit (.int .u8 0), .lit (.int .u8 0), .lit (.int .u8 0), .lit (.int .u8 0), .lit (.int .u8 0), .lit (.int .u8 0), .lit (.int .u8 0), .lit (.int .u8 0), .lit (.int .u8 0), .lit (.int .u8 0), .lit (.int .u8 0), .lit (.int .u8 0), .lit (.int .u8 0), .lit (.int .u8 0), .lit (.int .u8 0), .lit (.int .u8 0), .lit (.int .u8 0), .lit (.int .u8 0), .lit (.int .u8 0), .lit (.int .u8 0), .lit (.int .u8 0), .lit (.int .u8 0), .lit (.int .u8 0), .lit (.int .u8 0), .lit (.int .u8 0), .lit (.int .u8 0), .lit (.int .u8 0), .lit (.int .u8 0), .lit (.int .u8 0), .lit (.int .u8 0), .lit (.int .u8 0), .lit (.int .u8 0), .lit (.int .u8 0), .lit (.int .u8 0), .lit (.int .u8 0), .lit (.int .u8 0), .lit (.int .u8 0), .lit (.int .u8 0), .lit (.int .u8 0), .lit (.int .u8 0), .lit (.int .u8 0), .lit (.int .u8 0), .lit (.int .u8 0), .lit (.int .u8 0), .lit (.int .u8 0), .lit (.int .u8 0), .lit (.int .u8 0), .lit (.int .u8 0), .lit (.int .u8 0), .lit (.int .u8 0), .lit (.int .u8 0), .lit (.int .u8 0), .lit (.int .u8 0), .lit (.int .u8 0), .lit (.int .u8 0), .lit (.int .u8 0), .lit (.int .u8 0), .lit (.int .u8 0), .lit (.int .u8 0), .lit (.int .u8 0), .lit (.int .u8 0), .lit (.int .u8 0), .lit (.int .u8 0), .lit (.int .u8 0), .lit (.int .u8 0), .lit (.int .u8 0), .lit (.int .u8 0), .lit (.int .u8 0), .lit (.int .u8 0), .lit (.int .u8 0), .lit (.int .u8 0), .lit (.int .u8 0), .lit (.int .u8 0), .lit (.int .u8 0), .lit (.int .u8 0), .lit (.int .u8 0), .lit (.int .u8 0), .lit (.int .u8 0), .lit (.int .u8 0), .lit (.int .u8 0), .lit (.int .u8 0), .lit (.int .u8 0), .lit (.int .u8 0), .lit (.int .u8 0), .lit (.int .u8 0), .lit (.int .u8 0), .lit (.int .u8 0), .lit (.int .u8 0), .lit (.int .u8 0), .lit (.int .u8 0), .lit (.int .u8 0), .lit (.int .u8 0), .lit (.int .u8 0), .lit (.int .u8 0), .lit (.int .u8 0), .lit (.int .u8 0), .lit (.int .u8 0), .lit (.int .u8 0), .lit (.int .u8 0), .lit (.int .u8 0), .lit (.int .u8 0), .lit (.int .u8 0), .lit (.int .u8 0), .lit (.int .u8 0), .lit (.int .u8 0), .lit (.int .u8 0), .lit (.int .u8 0), .lit (.int .u8 0), .lit (.int .u8 0), .lit (.int .u8 0), .lit (.int .u8 0), .lit (.int .u8 0), .lit (.int .u8 0), .lit (.int .u8 0), .lit (.int .u8 0), .lit (.int .u8 0), .lit (.int .u8 0), .lit (.int .u8 0), .lit (.int .u8 0), .lit (.int .u8 0), .lit (.int .u8 0), .lit (.int .u8 0), .lit (.int .u8 0), .lit (.int .u8 0), .lit (.int .u8 0), .lit (.int .u8 0), .lit (.int .u8 0), .lit (.int .u8 0), .lit (.int .u8 0), .lit (.int .u8 0), .lit (.int .u8 0), .lit (.int .u8 0), .lit (.int .u8 0), .lit (.int .u8 0), .lit (.int .u8 0), .lit (.int .u8 0), .lit (.int .u8 0), .lit (.int .u8 0), .lit (.int .u8 0), .lit (.int .u8 0), .lit (.int .u8 0), .lit (.int .u8 0), .lit (.int .u8 0), .lit (.int .u8 0), .lit (.int .u8 0), .lit (.int .u8 0), .lit (.int .u8 0), .lit (.int .u8 0), .lit (.int .u8 0), .lit (.int .u8 0), .lit (.int .u8 0), .lit (.int .u8 0), .lit (.int .u8 0), .lit (.int .u8 0), .lit (.int .u8 0), .lit (.int .u8 0), .lit (.int .u8 0), .lit (.int .u8 0), .lit (.int .u8 0), .lit (.int .u8 0), .lit (.int .u8 0), .lit (.int .u8 0), .lit (.int .u8 0), .lit (.int .u8 0), .lit (.int .u8 0), .lit (.int .u8 0), .lit (.int .u8 0), .lit (.int .u8 0), .lit (.int .u8 0), .lit (.int .u8 0), .lit (.int .u8 0), .lit (.int .u8 0), .lit (.int .u8 0), .lit (.int .u8 0), .lit (.int .u8 0), .lit (.int .u8 0), .lit (.int .u8 0), .lit (.int .u8 0), .lit (.int .u8 0), .lit (.int .u8 0), .lit (.int .u8 0), .lit (.int .u8 0), .lit (.int .u8 0), .lit (.int .u8 0), .lit (.int .u8 0), .lit (.int .u8 0), .lit (.int .u8 0), .lit (.int .u8 0)]

/-- 'scriptinglaw38.LabelsCalls': WHATEVER THE INPUT: true; the input reads as it did. -/
def labelsCallsSpec : ChangeSpec := { name := "labelsCalls", fn := fun _ => fun
  | [d] => { results := [.lit (.bool true)], args := [d] }
  | _ => none }
def labelsCallsRow : OpenClaim := { program := "ytlckjdhammcpaaadoor", sum := "5205f1934f122ef9491daf97dedaa8e9ce21122e3b31bc6b010e1831735ae1ec", func := "scripting/scriptinglaw38.LabelsCalls", spec := "labelsCalls", unfollowed := true, recurses := true, named := ["strings.asciiSpace", "unicode.White_Space"], apart := false, laid := [("unicode.White_Space", laid_unicode_White_Space), ("strings.asciiSpace", laid_strings_asciiSpace)] }
def LabelsCallsSaid : Prop := labelsCallsRow.holds Tryd.pinned (OpenSpec.ofChange labelsCallsSpec)

/-- ITS FALSE NEIGHBOUR: 'it returns false'. Refute it at one input. -/
def labelsCallsWrong : ChangeSpec := { name := "labelsCalls", fn := fun _ => fun
  | [d] => { results := [.lit (.bool false)], args := [d] }
  | _ => none }
def LabelsCallsWrongFalsely : Prop := labelsCallsRow.holds Tryd.pinned (OpenSpec.ofChange labelsCallsWrong)

/-- 'scriptinglaw38.LabelsNumbers': WHATEVER THE INPUT: true; the input reads as it did. -/
def labelsNumbersSpec : ChangeSpec := { name := "labelsNumbers", fn := fun _ => fun
  | [d] => { results := [.lit (.bool true)], args := [d] }
  | _ => none }
def labelsNumbersRow : OpenClaim := { program := "ytlckjdhammcpaaadoor", sum := "5205f1934f122ef9491daf97dedaa8e9ce21122e3b31bc6b010e1831735ae1ec", func := "scripting/scriptinglaw38.LabelsNumbers", spec := "labelsNumbers", unfollowed := true, recurses := true, named := ["strings.asciiSpace", "unicode.White_Space"], apart := false, laid := [("unicode.White_Space", laid_unicode_White_Space), ("strings.asciiSpace", laid_strings_asciiSpace)] }
def LabelsNumbersSaid : Prop := labelsNumbersRow.holds Tryd.pinned (OpenSpec.ofChange labelsNumbersSpec)

/-- ITS FALSE NEIGHBOUR: 'it returns false'. Refute it at one input. -/
def labelsNumbersWrong : ChangeSpec := { name := "labelsNumbers", fn := fun _ => fun
  | [d] => { results := [.lit (.bool false)], args := [d] }
  | _ => none }
def LabelsNumbersWrongFalsely : Prop := labelsNumbersRow.holds Tryd.pinned (OpenSpec.ofChange labelsNumbersWrong)

/-- 'scriptinglaw38.LabelsTargets': WHATEVER THE INPUT: true; the input reads as it did. -/
def labelsTargetsSpec : ChangeSpec := { name := "labelsTargets", fn := fun _ => fun
  | [d] => { results := [.lit (.bool true)], args := [d] }
  | _ => none }
def labelsTargetsRow : OpenClaim := { program := "ytlckjdhammcpaaadoor", sum := "5205f1934f122ef9491daf97dedaa8e9ce21122e3b31bc6b010e1831735ae1ec", func := "scripting/scriptinglaw38.LabelsTargets", spec := "labelsTargets", unfollowed := true, recurses := true, named := ["strings.asciiSpace", "unicode.White_Space"], apart := false, laid := [("unicode.White_Space", laid_unicode_White_Space), ("strings.asciiSpace", laid_strings_asciiSpace)] }
def LabelsTargetsSaid : Prop := labelsTargetsRow.holds Tryd.pinned (OpenSpec.ofChange labelsTargetsSpec)

/-- ITS FALSE NEIGHBOUR: 'it returns false'. Refute it at one input. -/
def labelsTargetsWrong : ChangeSpec := { name := "labelsTargets", fn := fun _ => fun
  | [d] => { results := [.lit (.bool false)], args := [d] }
  | _ => none }
def LabelsTargetsWrongFalsely : Prop := labelsTargetsRow.holds Tryd.pinned (OpenSpec.ofChange labelsTargetsWrong)

/-- 'scriptinglaw38.LabelsStraight': WHATEVER THE INPUT: true; the input reads as it did. -/
def labelsStraightSpec : ChangeSpec := { name := "labelsStraight", fn := fun _ => fun
  | [d1, d2] => { results := [.lit (.bool true)], args := [d1, d2] }
  | _ => none }
def labelsStraightRow : OpenClaim := { program := "ytlckjdhammcpaaadoor", sum := "5205f1934f122ef9491daf97dedaa8e9ce21122e3b31bc6b010e1831735ae1ec", func := "scripting/scriptinglaw38.LabelsStraight", spec := "labelsStraight", unfollowed := true, recurses := true, named := ["strings.asciiSpace", "unicode.White_Space"], apart := false, laid := [("unicode.White_Space", laid_unicode_White_Space), ("strings.asciiSpace", laid_strings_asciiSpace)] }
def LabelsStraightSaid : Prop := labelsStraightRow.holds Tryd.pinned (OpenSpec.ofChange labelsStraightSpec)

/-- ITS FALSE NEIGHBOUR: 'it returns false'. Refute it at one input. -/
def labelsStraightWrong : ChangeSpec := { name := "labelsStraight", fn := fun _ => fun
  | [d1, d2] => { results := [.lit (.bool false)], args := [d1, d2] }
  | _ => none }
def LabelsStraightWrongFalsely : Prop := labelsStraightRow.holds Tryd.pinned (OpenSpec.ofChange labelsStraightWrong)

/-- 'scriptinglaw38.LabelsShares': WHATEVER THE INPUT: true; the input reads as it did. -/
def labelsSharesSpec : ChangeSpec := { name := "labelsShares", fn := fun _ => fun
  | [d] => { results := [.lit (.bool true)], args := [d] }
  | _ => none }
def labelsSharesRow : OpenClaim := { program := "ytlckjdhammcpaaadoor", sum := "5205f1934f122ef9491daf97dedaa8e9ce21122e3b31bc6b010e1831735ae1ec", func := "scripting/scriptinglaw38.LabelsShares", spec := "labelsShares", unfollowed := true, recurses := true, named := ["strings.asciiSpace", "unicode.White_Space"], apart := false, laid := [("unicode.White_Space", laid_unicode_White_Space), ("strings.asciiSpace", laid_strings_asciiSpace)] }
def LabelsSharesSaid : Prop := labelsSharesRow.holds Tryd.pinned (OpenSpec.ofChange labelsSharesSpec)

/-- ITS FALSE NEIGHBOUR: 'it returns false'. Refute it at one input. -/
def labelsSharesWrong : ChangeSpec := { name := "labelsShares", fn := fun _ => fun
  | [d] => { results := [.lit (.bool false)], args := [d] }
  | _ => none }
def LabelsSharesWrongFalsely : Prop := labelsSharesRow.holds Tryd.pinned (OpenSpec.ofChange labelsSharesWrong)

/-- 'scriptinglaw38.LabelsNone': WHATEVER THE INPUT: true; the input reads as it did. -/
def labelsNoneSpec : ChangeSpec := { name := "labelsNone", fn := fun _ => fun
  | [d] => { results := [.lit (.bool true)], args := [d] }
  | _ => none }
def labelsNoneRow : OpenClaim := { program := "ytlckjdhammcpaaadoor", sum := "5205f1934f122ef9491daf97dedaa8e9ce21122e3b31bc6b010e1831735ae1ec", func := "scripting/scriptinglaw38.LabelsNone", spec := "labelsNone", unfollowed := true, recurses := true, named := ["strings.asciiSpace", "unicode.White_Space"], apart := false, laid := [("unicode.White_Space", laid_unicode_White_Space), ("strings.asciiSpace", laid_strings_asciiSpace)] }
def LabelsNoneSaid : Prop := labelsNoneRow.holds Tryd.pinned (OpenSpec.ofChange labelsNoneSpec)

/-- ITS FALSE NEIGHBOUR: 'it returns false'. Refute it at one input. -/
def labelsNoneWrong : ChangeSpec := { name := "labelsNone", fn := fun _ => fun
  | [d] => { results := [.lit (.bool false)], args := [d] }
  | _ => none }
def LabelsNoneWrongFalsely : Prop := labelsNoneRow.holds Tryd.pinned (OpenSpec.ofChange labelsNoneWrong)

/-- 'scriptinglaw38.LabelsFollows': WHATEVER THE INPUT: true; the input reads as it did. -/
def labelsFollowsSpec : ChangeSpec := { name := "labelsFollows", fn := fun _ => fun
  | [d] => { results := [.lit (.bool true)], args := [d] }
  | _ => none }
def labelsFollowsRow : OpenClaim := { program := "ytlckjdhammcpaaadoor", sum := "5205f1934f122ef9491daf97dedaa8e9ce21122e3b31bc6b010e1831735ae1ec", func := "scripting/scriptinglaw38.LabelsFollows", spec := "labelsFollows", unfollowed := true, recurses := true, named := ["strings.asciiSpace", "unicode.White_Space"], apart := false, laid := [("unicode.White_Space", laid_unicode_White_Space), ("strings.asciiSpace", laid_strings_asciiSpace)] }
def LabelsFollowsSaid : Prop := labelsFollowsRow.holds Tryd.pinned (OpenSpec.ofChange labelsFollowsSpec)

/-- ITS FALSE NEIGHBOUR: 'it returns false'. Refute it at one input. -/
def labelsFollowsWrong : ChangeSpec := { name := "labelsFollows", fn := fun _ => fun
  | [d] => { results := [.lit (.bool false)], args := [d] }
  | _ => none }
def LabelsFollowsWrongFalsely : Prop := labelsFollowsRow.holds Tryd.pinned (OpenSpec.ofChange labelsFollowsWrong)

/- THE SECOND FORM. 'bulk': how many values and letters a reading holds, each counted each time it is reached (what is shared counts as often as it is met; a slice's spare places count too). A statement '..UptoSaid' is the law's where the arguments, and the package variables that the reading takes, are together of bulk at most 1048576: NARROWER than '..Said'. Prove '..Said' where nothing that the law and all that it calls make is longer than what came in: it says more and counts as full. Else prove '..UptoSaid'. A law counts once. -/
mutual
def uptoBulk {H : Type} : DataW H → Nat
  | .lit (.string bytes) => bytes.length + 1
  | .lit _ => 1
  | .nil => 1
  | .ptr d => uptoBulk d + 1
  | .slice elems spare => uptoBulkAll elems + uptoBulkAll spare + 1
  | .agg parts => uptoBulkAll parts + 1
  | .iface _ d => uptoBulk d + 1
  | .map entries => uptoBulkEntries entries + 1
  | .held _ => 1
def uptoBulkAll {H : Type} : List (DataW H) → Nat
  | [] => 0
  | d :: r => uptoBulk d + uptoBulkAll r
def uptoBulkEntries {H : Type} : List (Lit × DataW H) → Nat
  | [] => 0
  | x :: r => uptoBulkEntry x + uptoBulkEntries r
def uptoBulkEntry {H : Type} : Lit × DataW H → Nat
  | (.string bytes, d) => bytes.length + uptoBulk d + 1
  | (_, d) => uptoBulk d + 1
 end
def uptoSmall : (H : Type) → List (DataW H) → Bool := fun _ ds => decide (uptoBulkAll ds ≤ 1048576)
def OpenSpec.upto (s : _root_.Go.ChangeSpec) : _root_.Go.OpenSpec := { _root_.Go.OpenSpec.ofChange s with cond := some uptoSmall }

/-- 'scriptinglaw38.LabelsCalls', WHERE WHAT IT READS IS OF BULK AT MOST 1048576: true; the input reads as it did. -/
def labelsCallsUptoRow : OpenClaim := { program := "ytlckjdhammcpaaadoor", sum := "5205f1934f122ef9491daf97dedaa8e9ce21122e3b31bc6b010e1831735ae1ec", func := "scripting/scriptinglaw38.LabelsCalls", spec := "labelsCalls", unfollowed := true, recurses := true, named := ["strings.asciiSpace", "unicode.White_Space"], apart := false, laid := [("unicode.White_Space", laid_unicode_White_Space), ("strings.asciiSpace", laid_strings_asciiSpace)], narrowed := true }
def LabelsCallsUptoSaid : Prop := labelsCallsUptoRow.holds Tryd.pinned (OpenSpec.upto labelsCallsSpec)

/-- 'scriptinglaw38.LabelsNumbers', WHERE WHAT IT READS IS OF BULK AT MOST 1048576: true; the input reads as it did. -/
def labelsNumbersUptoRow : OpenClaim := { program := "ytlckjdhammcpaaadoor", sum := "5205f1934f122ef9491daf97dedaa8e9ce21122e3b31bc6b010e1831735ae1ec", func := "scripting/scriptinglaw38.LabelsNumbers", spec := "labelsNumbers", unfollowed := true, recurses := true, named := ["strings.asciiSpace", "unicode.White_Space"], apart := false, laid := [("unicode.White_Space", laid_unicode_White_Space), ("strings.asciiSpace", laid_strings_asciiSpace)], narrowed := true }
def LabelsNumbersUptoSaid : Prop := labelsNumbersUptoRow.holds Tryd.pinned (OpenSpec.upto labelsNumbersSpec)

/-- 'scriptinglaw38.LabelsTargets', WHERE WHAT IT READS IS OF BULK AT MOST 1048576: true; the input reads as it did. -/
def labelsTargetsUptoRow : OpenClaim := { program := "ytlckjdhammcpaaadoor", sum := "5205f1934f122ef9491daf97dedaa8e9ce21122e3b31bc6b010e1831735ae1ec", func := "scripting/scriptinglaw38.LabelsTargets", spec := "labelsTargets", unfollowed := true, recurses := true, named := ["strings.asciiSpace", "unicode.White_Space"], apart := false, laid := [("unicode.White_Space", laid_unicode_White_Space), ("strings.asciiSpace", laid_strings_asciiSpace)], narrowed := true }
def LabelsTargetsUptoSaid : Prop := labelsTargetsUptoRow.holds Tryd.pinned (OpenSpec.upto labelsTargetsSpec)

/-- 'scriptinglaw38.LabelsStraight', WHERE WHAT IT READS IS OF BULK AT MOST 1048576: true; the input reads as it did. -/
def labelsStraightUptoRow : OpenClaim := { program := "ytlckjdhammcpaaadoor", sum := "5205f1934f122ef9491daf97dedaa8e9ce21122e3b31bc6b010e1831735ae1ec", func := "scripting/scriptinglaw38.LabelsStraight", spec := "labelsStraight", unfollowed := true, recurses := true, named := ["strings.asciiSpace", "unicode.White_Space"], apart := false, laid := [("unicode.White_Space", laid_unicode_White_Space), ("strings.asciiSpace", laid_strings_asciiSpace)], narrowed := true }
def LabelsStraightUptoSaid : Prop := labelsStraightUptoRow.holds Tryd.pinned (OpenSpec.upto labelsStraightSpec)

/-- 'scriptinglaw38.LabelsShares', WHERE WHAT IT READS IS OF BULK AT MOST 1048576: true; the input reads as it did. -/
def labelsSharesUptoRow : OpenClaim := { program := "ytlckjdhammcpaaadoor", sum := "5205f1934f122ef9491daf97dedaa8e9ce21122e3b31bc6b010e1831735ae1ec", func := "scripting/scriptinglaw38.LabelsShares", spec := "labelsShares", unfollowed := true, recurses := true, named := ["strings.asciiSpace", "unicode.White_Space"], apart := false, laid := [("unicode.White_Space", laid_unicode_White_Space), ("strings.asciiSpace", laid_strings_asciiSpace)], narrowed := true }
def LabelsSharesUptoSaid : Prop := labelsSharesUptoRow.holds Tryd.pinned (OpenSpec.upto labelsSharesSpec)

/-- 'scriptinglaw38.LabelsNone', WHERE WHAT IT READS IS OF BULK AT MOST 1048576: true; the input reads as it did. -/
def labelsNoneUptoRow : OpenClaim := { program := "ytlckjdhammcpaaadoor", sum := "5205f1934f122ef9491daf97dedaa8e9ce21122e3b31bc6b010e1831735ae1ec", func := "scripting/scriptinglaw38.LabelsNone", spec := "labelsNone", unfollowed := true, recurses := true, named := ["strings.asciiSpace", "unicode.White_Space"], apart := false, laid := [("unicode.White_Space", laid_unicode_White_Space), ("strings.asciiSpace", laid_strings_asciiSpace)], narrowed := true }
def LabelsNoneUptoSaid : Prop := labelsNoneUptoRow.holds Tryd.pinned (OpenSpec.upto labelsNoneSpec)

/-- 'scriptinglaw38.LabelsFollows', WHERE WHAT IT READS IS OF BULK AT MOST 1048576: true; the input reads as it did. -/
def labelsFollowsUptoRow : OpenClaim := { program := "ytlckjdhammcpaaadoor", sum := "5205f1934f122ef9491daf97dedaa8e9ce21122e3b31bc6b010e1831735ae1ec", func := "scripting/scriptinglaw38.LabelsFollows", spec := "labelsFollows", unfollowed := true, recurses := true, named := ["strings.asciiSpace", "unicode.White_Space"], apart := false, laid := [("unicode.White_Space", laid_unicode_White_Space), ("strings.asciiSpace", laid_strings_asciiSpace)], narrowed := true }
def LabelsFollowsUptoSaid : Prop := labelsFollowsUptoRow.holds Tryd.pinned (OpenSpec.upto labelsFollowsSpec)

end Rows
end Go.Proofs.YtlckjdhammcpaaaDoor
