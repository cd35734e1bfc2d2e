/-
 Functions (api.Proto) as data. No condition.
-/
import Derived.Test.YtoanghfeednogaaGreatDoorOpT
import Derived.Test.YtoanghfeednogaaGreatDoorTsub
import Derived.Test.YtoanghfeednogaaGreatDoorChecked
set_option linter.unusedVariables false
set_option linter.unusedSimpArgs false
set_option maxRecDepth 100000
namespace Go.Proofs.YtoanghfeednogaaGreatDoor
open Go.Abs
structure Pro where
 name : List UInt8
 line : Int
 params : Int
 vararg : Bool
 regs : Int
 code : List Ins
 lines : List Int
 consts : List (List V)
 protos : List Pro
 ups : List (List UInt8 × Bool × Int)
 vars : List (List V)
def C0m (z : Int) : List V := [.int .i64 z]
def B0g (u : List UInt8 × Bool × Int) : List V := [.str u.1, .bool u.2.1, .int .i64 u.2.2]
mutual
def Pro.row : Pro → List V
 | ⟨name, line, params, vararg, regs, code, lines, consts, protos, ups, vars⟩ =>
  [.str name, .int .i64 line, .int .i64 params, .bool vararg, .int .i64 regs, .isl (code.map Ins.row), .isl (lines.map C0m), .isl consts, .isl (Pro.rows protos), .isl (ups.map B0g), .isl vars]
def Pro.rows : List Pro → List (List V)
 | [] => []
 | p :: r => Pro.row p :: Pro.rows r
end
theorem Pro.rows_map : ∀ l : List Pro, Pro.rows l = l.map Pro.row
 | [] => rfl
 | p :: r => by rw [Pro.rows, Pro.rows_map r]; rfl
theorem Pro.row_eq (p : Pro) : p.row = [.str p.name, .int .i64 p.line, .int .i64 p.params, .bool p.vararg, .int .i64 p.regs, .isl (p.code.map Ins.row), .isl (p.lines.map C0m), .isl p.consts, .isl (p.protos.map Pro.row), .isl (p.ups.map B0g), .isl p.vars] := by
 obtain ⟨a, b, c, d, e, f, g, h, i, j, k⟩ := p
 rw [Pro.row, Pro.rows_map]
end Go.Proofs.YtoanghfeednogaaGreatDoor
