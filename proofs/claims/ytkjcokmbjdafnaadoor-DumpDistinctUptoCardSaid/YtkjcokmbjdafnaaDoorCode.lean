/-
  The code of the functions that this seat reaches, translated into abstract code (printed by a program, each proved to be the translation). No condition.
-/
import Derived.Test.YtkjcokmbjdafnaaDoorCodeA
import Derived.Test.YtkjcokmbjdafnaaDoorChecked
set_option maxRecDepth 1000000
namespace Go.Proofs.YtkjcokmbjdafnaaDoor
open Go.Abs
@[go_sem] def q60_0 : List AI := [
 .j 4 (.mov (.z 0))]
@[go_sem] def q60_1 : List AI := [
 .j 6 (.mov (.t 0)),
 .j 7 (.len 0 (.t 6)),
 .j 8 (.mov (.z 0))]
@[go_sem] def q60_2 : List AI := [
 .j 9 (.bin .lss (.t 8) (.t 7))]
@[go_sem] def q60_3 : List AI := [
 .j 10 (.mov (.t 8)),
 .j 5 (.mov (.t 10))]
@[go_sem] def q60_4 : List AI := [
 .j 11 (.mov (.t 1)),
 .j 12 (.mov (.t 0)),
 .j 13 (.mov (.t 5)),
 .j 14 (.iaddr 3 (.t 12) (.t 13)),
 .j 15 (.load 3 true (.t 14)),
 .j 16 (.callv (.t 11) [(.t 15)])]
@[go_sem] def q60_5 : List AI := [
 .j 17 (.mov (.t 5)),
 .j 4 (.mov (.t 17))]
@[go_sem] def q60_6 : List AI := [
 .j 18 (.bin .add (.t 8) (.z 1)),
 .j 8 (.mov (.t 18))]
@[go_sem] def slices_IndexFunc_api_Up_api_Up_l0' : AC := .seq (.ops [q60_2]) (.seq (.cond (.t 9) (.skip) (.exit 0)) (.seq (.block 1 (.seq (.ops [q60_3]) (.seq (.ops [q60_4]) (.cond (.t 16) (.seq (.ops [q60_5]) (.ret)) (.skip))))) (.ops [q60_6])))
def slices_IndexFunc_api_Up_api_Up_l0 : AC := slices_IndexFunc_api_Up_api_Up_l0'
theorem slices_IndexFunc_api_Up_api_Up_l0_eq : slices_IndexFunc_api_Up_api_Up_l0 = slices_IndexFunc_api_Up_api_Up_l0' := rfl
@[go_sem] def q60_7 : List AI := [
 .j 4 (.mov (.z (-1)))]
@[go_sem] def slices_IndexFunc_api_Up_api_Up_c : AC := .seq (.ops [q60_0]) (.seq (.seq (.ops [q60_1]) (.block 0 (.loop slices_IndexFunc_api_Up_api_Up_l0))) (.seq (.ops [q60_7]) (.ret)))
theorem slices_IndexFunc_api_Up_api_Up_ok : compF Tryd.prog 60 = some (19, slices_IndexFunc_api_Up_api_Up_c, [.t 4]) := by kernel_rfl

@[go_sem] def q61_0 : List AI := [
 .j 4 (.mov (.z 0))]
@[go_sem] def q61_1 : List AI := [
 .j 6 (.mov (.t 0)),
 .j 7 (.len 0 (.t 6)),
 .j 8 (.mov (.z 0))]
@[go_sem] def q61_2 : List AI := [
 .j 9 (.bin .lss (.t 8) (.t 7))]
@[go_sem] def q61_3 : List AI := [
 .j 10 (.mov (.t 8)),
 .j 5 (.mov (.t 10))]
@[go_sem] def q61_4 : List AI := [
 .j 11 (.mov (.t 1)),
 .j 12 (.mov (.t 0)),
 .j 13 (.mov (.t 5)),
 .j 14 (.iaddr 5 (.t 12) (.t 13)),
 .j 15 (.load 5 true (.t 14)),
 .j 16 (.callv (.t 11) [(.t 15)])]
@[go_sem] def q61_5 : List AI := [
 .j 17 (.mov (.t 5)),
 .j 4 (.mov (.t 17))]
@[go_sem] def q61_6 : List AI := [
 .j 18 (.bin .add (.t 8) (.z 1)),
 .j 8 (.mov (.t 18))]
@[go_sem] def slices_IndexFunc_api_Var_api_Var_l0' : AC := .seq (.ops [q61_2]) (.seq (.cond (.t 9) (.skip) (.exit 0)) (.seq (.block 1 (.seq (.ops [q61_3]) (.seq (.ops [q61_4]) (.cond (.t 16) (.seq (.ops [q61_5]) (.ret)) (.skip))))) (.ops [q61_6])))
def slices_IndexFunc_api_Var_api_Var_l0 : AC := slices_IndexFunc_api_Var_api_Var_l0'
theorem slices_IndexFunc_api_Var_api_Var_l0_eq : slices_IndexFunc_api_Var_api_Var_l0 = slices_IndexFunc_api_Var_api_Var_l0' := rfl
@[go_sem] def q61_7 : List AI := [
 .j 4 (.mov (.z (-1)))]
@[go_sem] def slices_IndexFunc_api_Var_api_Var_c : AC := .seq (.ops [q61_0]) (.seq (.seq (.ops [q61_1]) (.block 0 (.loop slices_IndexFunc_api_Var_api_Var_l0))) (.seq (.ops [q61_7]) (.ret)))
theorem slices_IndexFunc_api_Var_api_Var_ok : compF Tryd.prog 61 = some (19, slices_IndexFunc_api_Var_api_Var_c, [.t 4]) := by kernel_rfl

@[go_sem] def q62_0 : List AI := [
 .j 4 (.mov (.z 0))]
@[go_sem] def q62_1 : List AI := [
 .j 6 (.mov (.t 0)),
 .j 7 (.len 0 (.t 6)),
 .j 8 (.mov (.z 0))]
@[go_sem] def q62_2 : List AI := [
 .j 9 (.bin .lss (.t 8) (.t 7))]
@[go_sem] def q62_3 : List AI := [
 .j 10 (.mov (.t 8)),
 .j 5 (.mov (.t 10))]
@[go_sem] def q62_4 : List AI := [
 .j 11 (.mov (.t 1)),
 .j 12 (.mov (.t 0)),
 .j 13 (.mov (.t 5)),
 .j 14 (.iaddr 1 (.t 12) (.t 13)),
 .j 15 (.load 1 false (.t 14)),
 .j 16 (.callv (.t 11) [(.t 15)])]
@[go_sem] def q62_5 : List AI := [
 .j 17 (.mov (.t 5)),
 .j 4 (.mov (.t 17))]
@[go_sem] def q62_6 : List AI := [
 .j 18 (.bin .add (.t 8) (.z 1)),
 .j 8 (.mov (.t 18))]
@[go_sem] def slices_IndexFunc_int_int_l0' : AC := .seq (.ops [q62_2]) (.seq (.cond (.t 9) (.skip) (.exit 0)) (.seq (.block 1 (.seq (.ops [q62_3]) (.seq (.ops [q62_4]) (.cond (.t 16) (.seq (.ops [q62_5]) (.ret)) (.skip))))) (.ops [q62_6])))
def slices_IndexFunc_int_int_l0 : AC := slices_IndexFunc_int_int_l0'
theorem slices_IndexFunc_int_int_l0_eq : slices_IndexFunc_int_int_l0 = slices_IndexFunc_int_int_l0' := rfl
@[go_sem] def q62_7 : List AI := [
 .j 4 (.mov (.z (-1)))]
@[go_sem] def slices_IndexFunc_int_int_c : AC := .seq (.ops [q62_0]) (.seq (.seq (.ops [q62_1]) (.block 0 (.loop slices_IndexFunc_int_int_l0))) (.seq (.ops [q62_7]) (.ret)))
theorem slices_IndexFunc_int_int_ok : compF Tryd.prog 62 = some (19, slices_IndexFunc_int_int_c, [.t 4]) := by kernel_rfl

@[go_sem] def q63_0 : List AI := [
 .j 1 (.box 630001 2 (.t 0)),
 .j 2 (.mov (.c (.bool false)))]
@[go_sem] def q63_1 : List AI := [
 .j 3 (.faddr 1 (.t 1)),
 .j 4 (.load 1 false (.t 3)),
 .j 5 (.bin .geq (.t 4) (.z 1)),
 .j 6 (.mov (.t 5)),
 .k 7 6 true (.faddr 1 (.t 1)),
 .k 8 6 true (.load 1 false (.t 7)),
 .k 9 6 true (.bin .leq (.t 8) (.z 2147483647)),
 .j 10 (.pick (.t 6) (.t 9) (.c (.bool false))),
 .j 11 (.mov (.t 10)),
 .k 12 11 true (.faddr 0 (.t 1)),
 .k 13 11 true (.load 1 false (.t 12)),
 .k 14 11 true (.bin .geq (.t 13) (.z (-2147483647))),
 .j 15 (.pick (.t 11) (.t 14) (.c (.bool false))),
 .j 16 (.mov (.t 15)),
 .k 17 16 true (.faddr 0 (.t 1)),
 .k 18 16 true (.load 1 false (.t 17)),
 .k 19 16 true (.bin .leq (.t 18) (.z 2147483647)),
 .j 20 (.pick (.t 16) (.t 19) (.c (.bool false))),
 .j 21 (.mov (.t 20)),
 .k 22 21 true (.faddr 0 (.t 1)),
 .k 23 21 true (.load 1 false (.t 22)),
 .k 24 21 true (.faddr 0 (.t 1)),
 .k 25 21 true (.load 1 false (.t 24)),
 .k 26 21 true (.un .neg (.t 25)),
 .k 27 21 true (.mm true [(.t 23), (.t 26)]),
 .k 28 21 true (.faddr 1 (.t 1)),
 .k 29 21 true (.load 1 false (.t 28)),
 .k 30 21 true (.call 72 [(.t 27), (.t 29)]),
 .k 31 21 true (.bin .eql (.t 30) (.z 1)),
 .j 32 (.pick (.t 21) (.t 31) (.c (.bool false))),
 .j 2 (.mov (.t 32))]
@[go_sem] def rational_Valid_c : AC := .seq (.ops [q63_0]) (.seq (.ops [q63_1]) (.ret))
theorem rational_Valid_ok : compF Tryd.prog 63 = some (33, rational_Valid_c, [.t 2]) := by kernel_rfl

@[go_sem] def q64_0 : List AI := [
 .j 2 (.box 640002 6 (.c (.agg [(.str []), (.int .i64 0), (.int .i64 0), (.int .i64 0), (.int .i64 0), (.int .i64 0)]))),
 .j 3 (.mov (.c (.bool false)))]
@[go_sem] def q64_1 : List AI := [
 .j 6 (.call 73 [(.c (.str [109, 111, 118, 101, 32, 99, 111, 110, 115, 116, 32, 110, 105, 108, 32, 98, 111, 111, 108, 32, 117, 112, 103, 101, 116, 32, 117, 112, 115, 101, 116, 32, 103, 108, 111, 98, 97, 108, 32, 115, 101, 116, 103, 108, 111, 98, 32, 103, 101, 116, 32, 115, 101, 116, 32, 115, 101, 108, 102, 32, 117, 110, 97, 114, 121, 32, 98, 105, 110, 97, 114, 121, 32, 106, 117, 109, 112, 32, 116, 101, 115, 116, 32, 99, 97, 108, 108, 32, 116, 97, 105, 108, 32, 114, 101, 116, 117, 114, 110, 32, 118, 97, 114, 97, 114, 103, 32, 116, 97, 98, 108, 101, 32, 97, 112, 112, 101, 110, 100, 32, 99, 108, 111, 115, 117, 114, 101, 32, 112, 114, 101, 112, 32, 108, 111, 111, 112, 32, 105, 116, 101, 114, 32, 110, 101, 120, 116, 32, 99, 108, 111, 115, 101, 32, 109, 97, 114, 107, 32, 115, 116, 97, 116]))]),
 .j 4 (.mov (.t 6))]
@[go_sem] def q64_2 : List AI := [
 .j 7 (.mov (.t 0)),
 .j 8 (.bin .lss (.t 7) (.z 1)),
 .j 9 (.mov (.t 8)),
 .k 10 9 false (.mov (.t 0)),
 .k 11 9 false (.mov (.t 4)),
 .k 12 9 false (.len 0 (.t 11)),
 .k 13 9 false (.bin .gtr (.t 10) (.t 12)),
 .j 14 (.pick (.t 9) (.c (.bool true)) (.t 13))]
@[go_sem] def q64_3 : List AI := [
 .j 15 (.build [(.str []), (.int .i64 0), (.int .i64 0), (.int .i64 0), (.int .i64 0), (.int .i64 0)] []),
 .e (.store 6 (.t 2) (.t 15)),
 .j 3 (.mov (.c (.bool false)))]
@[go_sem] def q64_4 : List AI := [
 .j 16 (.mov (.t 0)),
 .j 17 (.call 74 [(.t 16)]),
 .j 5 (.box 640005 6 (.c (.agg [(.str []), (.int .i64 0), (.int .i64 0), (.int .i64 0), (.int .i64 0), (.int .i64 0)]))),
 .e (.store 6 (.t 5) (.t 17))]
@[go_sem] def q64_5 : List AI := [
 .j 18 (.mov (.t 4)),
 .j 19 (.mov (.t 0)),
 .j 20 (.bin .sub (.t 19) (.z 1)),
 .j 21 (.iaddr 1 (.t 18) (.t 20)),
 .j 22 (.load 1 false (.t 21)),
 .j 23 (.faddr 0 (.t 5)),
 .e (.store 1 (.t 23) (.t 22))]
@[go_sem] def q64_6 : List AI := [
 .j 24 (.load 6 true (.t 5)),
 .e (.store 6 (.t 2) (.t 24)),
 .j 3 (.mov (.c (.bool true)))]
@[go_sem] def opcode_of_c : AC := .seq (.ops [q64_0]) (.seq (.ops [q64_1]) (.seq (.seq (.ops [q64_2]) (.cond (.t 14) (.seq (.ops [q64_3]) (.ret)) (.skip))) (.seq (.ops [q64_4]) (.seq (.ops [q64_5]) (.seq (.ops [q64_6]) (.ret))))))
theorem opcode_of_ok : compF Tryd.prog 64 = some (25, opcode_of_c, [.c 2 6 true, .t 3]) := by kernel_rfl

@[go_sem] def q65_0 : List AI := [
 .j 2 (.box 650002 6 (.t 0)),
 .j 3 (.box 650003 5 (.t 1)),
 .j 4 (.box 650004 4 (.c (.agg [(.int .i64 0), (.int .i64 0), (.int .i64 0), (.int .i64 0)]))),
 .j 5 (.box 650005 4 (.c (.agg [(.int .i64 0), (.int .i64 0), (.int .i64 0), (.int .i64 0)])))]
@[go_sem] def q65_1_0 : List AI := [
 .j 6 (.faddr 1 (.t 2)),
 .j 7 (.load 1 false (.t 6)),
 .j 8 (.faddr 2 (.t 2)),
 .j 9 (.load 1 false (.t 8)),
 .j 10 (.faddr 3 (.t 2)),
 .j 11 (.load 1 false (.t 10)),
 .j 12 (.faddr 4 (.t 2)),
 .j 13 (.load 1 false (.t 12)),
 .j 14 (.build [(.int .i64 0), (.int .i64 0), (.int .i64 0), (.int .i64 0)] [(0, 1, (.t 7)), (1, 1, (.t 9)), (2, 1, (.t 11)), (3, 1, (.t 13))]),
 .j 15 (.faddr 1 (.t 3)),
 .j 16 (.load 1 false (.t 15)),
 .j 17 (.faddr 2 (.t 3)),
 .j 18 (.load 1 false (.t 17)),
 .j 19 (.faddr 3 (.t 3)),
 .j 20 (.load 1 false (.t 19)),
 .j 21 (.faddr 4 (.t 3)),
 .j 22 (.load 1 false (.t 21)),
 .j 23 (.build [(.int .i64 0), (.int .i64 0), (.int .i64 0), (.int .i64 0)] [(0, 1, (.t 16)), (1, 1, (.t 18)), (2, 1, (.t 20)), (3, 1, (.t 22))]),
 .e (.store 4 (.t 4) (.t 14)),
 .e (.store 4 (.t 5) (.t 23))]
@[go_sem] def q65_1_1 : List AI := [
 .j 6 (.faddr 1 (.t 2)),
 .j 7 (.load 1 false (.t 6)),
 .j 8 (.faddr 2 (.t 2)),
 .j 9 (.load 1 false (.t 8)),
 .j 10 (.faddr 3 (.t 2)),
 .j 11 (.load 1 false (.t 10)),
 .j 12 (.faddr 4 (.t 2)),
 .j 13 (.load 1 false (.t 12)),
 .j 14 (.build [(.int .i64 0), (.int .i64 0), (.int .i64 0), (.int .i64 0)] [(0, 1, (.t 7)), (1, 1, (.t 9)), (2, 1, (.t 11)), (3, 1, (.t 13))]),
 .j 15 (.faddr 1 (.t 3)),
 .j 16 (.load 1 false (.t 15)),
 .j 17 (.faddr 2 (.t 3)),
 .j 18 (.load 1 false (.t 17)),
 .j 19 (.faddr 3 (.t 3)),
 .j 20 (.load 1 false (.t 19)),
 .j 21 (.faddr 4 (.t 3)),
 .e (.store 4 (.t 4) (.t 14)),
 .j 22 (.load 1 false (.t 21)),
 .j 23 (.build [(.int .i64 0), (.int .i64 0), (.int .i64 0), (.int .i64 0)] [(0, 1, (.t 16)), (1, 1, (.t 18)), (2, 1, (.t 20)), (3, 1, (.t 22))]),
 .e (.store 4 (.t 5) (.t 23))]
@[go_sem] def q65_1_2 : List AI := [
 .j 6 (.faddr 1 (.t 2)),
 .j 7 (.load 1 false (.t 6)),
 .j 8 (.faddr 2 (.t 2)),
 .j 9 (.load 1 false (.t 8)),
 .j 10 (.faddr 3 (.t 2)),
 .j 11 (.load 1 false (.t 10)),
 .j 12 (.faddr 4 (.t 2)),
 .j 13 (.load 1 false (.t 12)),
 .j 14 (.build [(.int .i64 0), (.int .i64 0), (.int .i64 0), (.int .i64 0)] [(0, 1, (.t 7)), (1, 1, (.t 9)), (2, 1, (.t 11)), (3, 1, (.t 13))]),
 .j 15 (.faddr 1 (.t 3)),
 .j 16 (.load 1 false (.t 15)),
 .j 17 (.faddr 2 (.t 3)),
 .j 18 (.load 1 false (.t 17)),
 .j 19 (.faddr 3 (.t 3)),
 .j 21 (.faddr 4 (.t 3)),
 .j 22 (.load 1 false (.t 21)),
 .e (.store 4 (.t 4) (.t 14)),
 .j 20 (.load 1 false (.t 19)),
 .j 23 (.build [(.int .i64 0), (.int .i64 0), (.int .i64 0), (.int .i64 0)] [(0, 1, (.t 16)), (1, 1, (.t 18)), (2, 1, (.t 20)), (3, 1, (.t 22))]),
 .e (.store 4 (.t 5) (.t 23))]
@[go_sem] def q65_1_3 : List AI := [
 .j 6 (.faddr 1 (.t 2)),
 .j 7 (.load 1 false (.t 6)),
 .j 8 (.faddr 2 (.t 2)),
 .j 9 (.load 1 false (.t 8)),
 .j 10 (.faddr 3 (.t 2)),
 .j 11 (.load 1 false (.t 10)),
 .j 12 (.faddr 4 (.t 2)),
 .j 13 (.load 1 false (.t 12)),
 .j 14 (.build [(.int .i64 0), (.int .i64 0), (.int .i64 0), (.int .i64 0)] [(0, 1, (.t 7)), (1, 1, (.t 9)), (2, 1, (.t 11)), (3, 1, (.t 13))]),
 .j 15 (.faddr 1 (.t 3)),
 .j 16 (.load 1 false (.t 15)),
 .j 17 (.faddr 2 (.t 3)),
 .j 18 (.load 1 false (.t 17)),
 .j 19 (.faddr 3 (.t 3)),
 .j 21 (.faddr 4 (.t 3)),
 .e (.store 4 (.t 4) (.t 14)),
 .j 20 (.load 1 false (.t 19)),
 .j 22 (.load 1 false (.t 21)),
 .j 23 (.build [(.int .i64 0), (.int .i64 0), (.int .i64 0), (.int .i64 0)] [(0, 1, (.t 16)), (1, 1, (.t 18)), (2, 1, (.t 20)), (3, 1, (.t 22))]),
 .e (.store 4 (.t 5) (.t 23))]
@[go_sem] def q65_1_4 : List AI := [
 .j 6 (.faddr 1 (.t 2)),
 .j 7 (.load 1 false (.t 6)),
 .j 8 (.faddr 2 (.t 2)),
 .j 9 (.load 1 false (.t 8)),
 .j 10 (.faddr 3 (.t 2)),
 .j 11 (.load 1 false (.t 10)),
 .j 12 (.faddr 4 (.t 2)),
 .j 13 (.load 1 false (.t 12)),
 .j 14 (.build [(.int .i64 0), (.int .i64 0), (.int .i64 0), (.int .i64 0)] [(0, 1, (.t 7)), (1, 1, (.t 9)), (2, 1, (.t 11)), (3, 1, (.t 13))]),
 .j 15 (.faddr 1 (.t 3)),
 .j 16 (.load 1 false (.t 15)),
 .j 17 (.faddr 2 (.t 3)),
 .j 19 (.faddr 3 (.t 3)),
 .j 20 (.load 1 false (.t 19)),
 .j 21 (.faddr 4 (.t 3)),
 .j 22 (.load 1 false (.t 21)),
 .e (.store 4 (.t 4) (.t 14)),
 .j 18 (.load 1 false (.t 17)),
 .j 23 (.build [(.int .i64 0), (.int .i64 0), (.int .i64 0), (.int .i64 0)] [(0, 1, (.t 16)), (1, 1, (.t 18)), (2, 1, (.t 20)), (3, 1, (.t 22))]),
 .e (.store 4 (.t 5) (.t 23))]
@[go_sem] def q65_1_5 : List AI := [
 .j 6 (.faddr 1 (.t 2)),
 .j 7 (.load 1 false (.t 6)),
 .j 8 (.faddr 2 (.t 2)),
 .j 9 (.load 1 false (.t 8)),
 .j 10 (.faddr 3 (.t 2)),
 .j 11 (.load 1 false (.t 10)),
 .j 12 (.faddr 4 (.t 2)),
 .j 13 (.load 1 false (.t 12)),
 .j 14 (.build [(.int .i64 0), (.int .i64 0), (.int .i64 0), (.int .i64 0)] [(0, 1, (.t 7)), (1, 1, (.t 9)), (2, 1, (.t 11)), (3, 1, (.t 13))]),
 .j 15 (.faddr 1 (.t 3)),
 .j 16 (.load 1 false (.t 15)),
 .j 17 (.faddr 2 (.t 3)),
 .j 19 (.faddr 3 (.t 3)),
 .j 20 (.load 1 false (.t 19)),
 .j 21 (.faddr 4 (.t 3)),
 .e (.store 4 (.t 4) (.t 14)),
 .j 18 (.load 1 false (.t 17)),
 .j 22 (.load 1 false (.t 21)),
 .j 23 (.build [(.int .i64 0), (.int .i64 0), (.int .i64 0), (.int .i64 0)] [(0, 1, (.t 16)), (1, 1, (.t 18)), (2, 1, (.t 20)), (3, 1, (.t 22))]),
 .e (.store 4 (.t 5) (.t 23))]
@[go_sem] def q65_1_6 : List AI := [
 .j 6 (.faddr 1 (.t 2)),
 .j 7 (.load 1 false (.t 6)),
 .j 8 (.faddr 2 (.t 2)),
 .j 9 (.load 1 false (.t 8)),
 .j 10 (.faddr 3 (.t 2)),
 .j 11 (.load 1 false (.t 10)),
 .j 12 (.faddr 4 (.t 2)),
 .j 13 (.load 1 false (.t 12)),
 .j 14 (.build [(.int .i64 0), (.int .i64 0), (.int .i64 0), (.int .i64 0)] [(0, 1, (.t 7)), (1, 1, (.t 9)), (2, 1, (.t 11)), (3, 1, (.t 13))]),
 .j 15 (.faddr 1 (.t 3)),
 .j 16 (.load 1 false (.t 15)),
 .j 17 (.faddr 2 (.t 3)),
 .j 19 (.faddr 3 (.t 3)),
 .j 21 (.faddr 4 (.t 3)),
 .j 22 (.load 1 false (.t 21)),
 .e (.store 4 (.t 4) (.t 14)),
 .j 18 (.load 1 false (.t 17)),
 .j 20 (.load 1 false (.t 19)),
 .j 23 (.build [(.int .i64 0), (.int .i64 0), (.int .i64 0), (.int .i64 0)] [(0, 1, (.t 16)), (1, 1, (.t 18)), (2, 1, (.t 20)), (3, 1, (.t 22))]),
 .e (.store 4 (.t 5) (.t 23))]
@[go_sem] def q65_1_7 : List AI := [
 .j 6 (.faddr 1 (.t 2)),
 .j 7 (.load 1 false (.t 6)),
 .j 8 (.faddr 2 (.t 2)),
 .j 9 (.load 1 false (.t 8)),
 .j 10 (.faddr 3 (.t 2)),
 .j 11 (.load 1 false (.t 10)),
 .j 12 (.faddr 4 (.t 2)),
 .j 13 (.load 1 false (.t 12)),
 .j 14 (.build [(.int .i64 0), (.int .i64 0), (.int .i64 0), (.int .i64 0)] [(0, 1, (.t 7)), (1, 1, (.t 9)), (2, 1, (.t 11)), (3, 1, (.t 13))]),
 .j 15 (.faddr 1 (.t 3)),
 .j 16 (.load 1 false (.t 15)),
 .j 17 (.faddr 2 (.t 3)),
 .j 19 (.faddr 3 (.t 3)),
 .j 21 (.faddr 4 (.t 3)),
 .e (.store 4 (.t 4) (.t 14)),
 .j 18 (.load 1 false (.t 17)),
 .j 20 (.load 1 false (.t 19)),
 .j 22 (.load 1 false (.t 21)),
 .j 23 (.build [(.int .i64 0), (.int .i64 0), (.int .i64 0), (.int .i64 0)] [(0, 1, (.t 16)), (1, 1, (.t 18)), (2, 1, (.t 20)), (3, 1, (.t 22))]),
 .e (.store 4 (.t 5) (.t 23))]
@[go_sem] def q65_1_8 : List AI := [
 .j 6 (.faddr 1 (.t 2)),
 .j 7 (.load 1 false (.t 6)),
 .j 8 (.faddr 2 (.t 2)),
 .j 9 (.load 1 false (.t 8)),
 .j 10 (.faddr 3 (.t 2)),
 .j 11 (.load 1 false (.t 10)),
 .j 12 (.faddr 4 (.t 2)),
 .j 13 (.load 1 false (.t 12)),
 .j 14 (.build [(.int .i64 0), (.int .i64 0), (.int .i64 0), (.int .i64 0)] [(0, 1, (.t 7)), (1, 1, (.t 9)), (2, 1, (.t 11)), (3, 1, (.t 13))]),
 .j 15 (.faddr 1 (.t 3)),
 .j 17 (.faddr 2 (.t 3)),
 .j 18 (.load 1 false (.t 17)),
 .j 19 (.faddr 3 (.t 3)),
 .j 20 (.load 1 false (.t 19)),
 .j 21 (.faddr 4 (.t 3)),
 .j 22 (.load 1 false (.t 21)),
 .e (.store 4 (.t 4) (.t 14)),
 .j 16 (.load 1 false (.t 15)),
 .j 23 (.build [(.int .i64 0), (.int .i64 0), (.int .i64 0), (.int .i64 0)] [(0, 1, (.t 16)), (1, 1, (.t 18)), (2, 1, (.t 20)), (3, 1, (.t 22))]),
 .e (.store 4 (.t 5) (.t 23))]
@[go_sem] def q65_1_9 : List AI := [
 .j 6 (.faddr 1 (.t 2)),
 .j 7 (.load 1 false (.t 6)),
 .j 8 (.faddr 2 (.t 2)),
 .j 9 (.load 1 false (.t 8)),
 .j 10 (.faddr 3 (.t 2)),
 .j 11 (.load 1 false (.t 10)),
 .j 12 (.faddr 4 (.t 2)),
 .j 13 (.load 1 false (.t 12)),
 .j 14 (.build [(.int .i64 0), (.int .i64 0), (.int .i64 0), (.int .i64 0)] [(0, 1, (.t 7)), (1, 1, (.t 9)), (2, 1, (.t 11)), (3, 1, (.t 13))]),
 .j 15 (.faddr 1 (.t 3)),
 .j 17 (.faddr 2 (.t 3)),
 .j 18 (.load 1 false (.t 17)),
 .j 19 (.faddr 3 (.t 3)),
 .j 20 (.load 1 false (.t 19)),
 .j 21 (.faddr 4 (.t 3)),
 .e (.store 4 (.t 4) (.t 14)),
 .j 16 (.load 1 false (.t 15)),
 .j 22 (.load 1 false (.t 21)),
 .j 23 (.build [(.int .i64 0), (.int .i64 0), (.int .i64 0), (.int .i64 0)] [(0, 1, (.t 16)), (1, 1, (.t 18)), (2, 1, (.t 20)), (3, 1, (.t 22))]),
 .e (.store 4 (.t 5) (.t 23))]
@[go_sem] def q65_1_10 : List AI := [
 .j 6 (.faddr 1 (.t 2)),
 .j 7 (.load 1 false (.t 6)),
 .j 8 (.faddr 2 (.t 2)),
 .j 9 (.load 1 false (.t 8)),
 .j 10 (.faddr 3 (.t 2)),
 .j 11 (.load 1 false (.t 10)),
 .j 12 (.faddr 4 (.t 2)),
 .j 13 (.load 1 false (.t 12)),
 .j 14 (.build [(.int .i64 0), (.int .i64 0), (.int .i64 0), (.int .i64 0)] [(0, 1, (.t 7)), (1, 1, (.t 9)), (2, 1, (.t 11)), (3, 1, (.t 13))]),
 .j 15 (.faddr 1 (.t 3)),
 .j 17 (.faddr 2 (.t 3)),
 .j 18 (.load 1 false (.t 17)),
 .j 19 (.faddr 3 (.t 3)),
 .j 21 (.faddr 4 (.t 3)),
 .j 22 (.load 1 false (.t 21)),
 .e (.store 4 (.t 4) (.t 14)),
 .j 16 (.load 1 false (.t 15)),
 .j 20 (.load 1 false (.t 19)),
 .j 23 (.build [(.int .i64 0), (.int .i64 0), (.int .i64 0), (.int .i64 0)] [(0, 1, (.t 16)), (1, 1, (.t 18)), (2, 1, (.t 20)), (3, 1, (.t 22))]),
 .e (.store 4 (.t 5) (.t 23))]
@[go_sem] def q65_1_11 : List AI := [
 .j 6 (.faddr 1 (.t 2)),
 .j 7 (.load 1 false (.t 6)),
 .j 8 (.faddr 2 (.t 2)),
 .j 9 (.load 1 false (.t 8)),
 .j 10 (.faddr 3 (.t 2)),
 .j 11 (.load 1 false (.t 10)),
 .j 12 (.faddr 4 (.t 2)),
 .j 13 (.load 1 false (.t 12)),
 .j 14 (.build [(.int .i64 0), (.int .i64 0), (.int .i64 0), (.int .i64 0)] [(0, 1, (.t 7)), (1, 1, (.t 9)), (2, 1, (.t 11)), (3, 1, (.t 13))]),
 .j 15 (.faddr 1 (.t 3)),
 .j 17 (.faddr 2 (.t 3)),
 .j 18 (.load 1 false (.t 17)),
 .j 19 (.faddr 3 (.t 3)),
 .j 21 (.faddr 4 (.t 3)),
 .e (.store 4 (.t 4) (.t 14)),
 .j 16 (.load 1 false (.t 15)),
 .j 20 (.load 1 false (.t 19)),
 .j 22 (.load 1 false (.t 21)),
 .j 23 (.build [(.int .i64 0), (.int .i64 0), (.int .i64 0), (.int .i64 0)] [(0, 1, (.t 16)), (1, 1, (.t 18)), (2, 1, (.t 20)), (3, 1, (.t 22))]),
 .e (.store 4 (.t 5) (.t 23))]
@[go_sem] def q65_1_12 : List AI := [
 .j 6 (.faddr 1 (.t 2)),
 .j 7 (.load 1 false (.t 6)),
 .j 8 (.faddr 2 (.t 2)),
 .j 9 (.load 1 false (.t 8)),
 .j 10 (.faddr 3 (.t 2)),
 .j 11 (.load 1 false (.t 10)),
 .j 12 (.faddr 4 (.t 2)),
 .j 13 (.load 1 false (.t 12)),
 .j 14 (.build [(.int .i64 0), (.int .i64 0), (.int .i64 0), (.int .i64 0)] [(0, 1, (.t 7)), (1, 1, (.t 9)), (2, 1, (.t 11)), (3, 1, (.t 13))]),
 .j 15 (.faddr 1 (.t 3)),
 .j 17 (.faddr 2 (.t 3)),
 .j 19 (.faddr 3 (.t 3)),
 .j 20 (.load 1 false (.t 19)),
 .j 21 (.faddr 4 (.t 3)),
 .j 22 (.load 1 false (.t 21)),
 .e (.store 4 (.t 4) (.t 14)),
 .j 16 (.load 1 false (.t 15)),
 .j 18 (.load 1 false (.t 17)),
 .j 23 (.build [(.int .i64 0), (.int .i64 0), (.int .i64 0), (.int .i64 0)] [(0, 1, (.t 16)), (1, 1, (.t 18)), (2, 1, (.t 20)), (3, 1, (.t 22))]),
 .e (.store 4 (.t 5) (.t 23))]
@[go_sem] def q65_1_13 : List AI := [
 .j 6 (.faddr 1 (.t 2)),
 .j 7 (.load 1 false (.t 6)),
 .j 8 (.faddr 2 (.t 2)),
 .j 9 (.load 1 false (.t 8)),
 .j 10 (.faddr 3 (.t 2)),
 .j 11 (.load 1 false (.t 10)),
 .j 12 (.faddr 4 (.t 2)),
 .j 13 (.load 1 false (.t 12)),
 .j 14 (.build [(.int .i64 0), (.int .i64 0), (.int .i64 0), (.int .i64 0)] [(0, 1, (.t 7)), (1, 1, (.t 9)), (2, 1, (.t 11)), (3, 1, (.t 13))]),
 .j 15 (.faddr 1 (.t 3)),
 .j 17 (.faddr 2 (.t 3)),
 .j 19 (.faddr 3 (.t 3)),
 .j 20 (.load 1 false (.t 19)),
 .j 21 (.faddr 4 (.t 3)),
 .e (.store 4 (.t 4) (.t 14)),
 .j 16 (.load 1 false (.t 15)),
 .j 18 (.load 1 false (.t 17)),
 .j 22 (.load 1 false (.t 21)),
 .j 23 (.build [(.int .i64 0), (.int .i64 0), (.int .i64 0), (.int .i64 0)] [(0, 1, (.t 16)), (1, 1, (.t 18)), (2, 1, (.t 20)), (3, 1, (.t 22))]),
 .e (.store 4 (.t 5) (.t 23))]
@[go_sem] def q65_1_14 : List AI := [
 .j 6 (.faddr 1 (.t 2)),
 .j 7 (.load 1 false (.t 6)),
 .j 8 (.faddr 2 (.t 2)),
 .j 9 (.load 1 false (.t 8)),
 .j 10 (.faddr 3 (.t 2)),
 .j 11 (.load 1 false (.t 10)),
 .j 12 (.faddr 4 (.t 2)),
 .j 13 (.load 1 false (.t 12)),
 .j 14 (.build [(.int .i64 0), (.int .i64 0), (.int .i64 0), (.int .i64 0)] [(0, 1, (.t 7)), (1, 1, (.t 9)), (2, 1, (.t 11)), (3, 1, (.t 13))]),
 .j 15 (.faddr 1 (.t 3)),
 .j 17 (.faddr 2 (.t 3)),
 .j 19 (.faddr 3 (.t 3)),
 .j 21 (.faddr 4 (.t 3)),
 .j 22 (.load 1 false (.t 21)),
 .e (.store 4 (.t 4) (.t 14)),
 .j 16 (.load 1 false (.t 15)),
 .j 18 (.load 1 false (.t 17)),
 .j 20 (.load 1 false (.t 19)),
 .j 23 (.build [(.int .i64 0), (.int .i64 0), (.int .i64 0), (.int .i64 0)] [(0, 1, (.t 16)), (1, 1, (.t 18)), (2, 1, (.t 20)), (3, 1, (.t 22))]),
 .e (.store 4 (.t 5) (.t 23))]
@[go_sem] def q65_1_15 : List AI := [
 .j 6 (.faddr 1 (.t 2)),
 .j 7 (.load 1 false (.t 6)),
 .j 8 (.faddr 2 (.t 2)),
 .j 9 (.load 1 false (.t 8)),
 .j 10 (.faddr 3 (.t 2)),
 .j 11 (.load 1 false (.t 10)),
 .j 12 (.faddr 4 (.t 2)),
 .j 13 (.load 1 false (.t 12)),
 .j 14 (.build [(.int .i64 0), (.int .i64 0), (.int .i64 0), (.int .i64 0)] [(0, 1, (.t 7)), (1, 1, (.t 9)), (2, 1, (.t 11)), (3, 1, (.t 13))]),
 .j 15 (.faddr 1 (.t 3)),
 .j 17 (.faddr 2 (.t 3)),
 .j 19 (.faddr 3 (.t 3)),
 .j 21 (.faddr 4 (.t 3)),
 .e (.store 4 (.t 4) (.t 14)),
 .j 16 (.load 1 false (.t 15)),
 .j 18 (.load 1 false (.t 17)),
 .j 20 (.load 1 false (.t 19)),
 .j 22 (.load 1 false (.t 21)),
 .j 23 (.build [(.int .i64 0), (.int .i64 0), (.int .i64 0), (.int .i64 0)] [(0, 1, (.t 16)), (1, 1, (.t 18)), (2, 1, (.t 20)), (3, 1, (.t 22))]),
 .e (.store 4 (.t 5) (.t 23))]
@[go_sem] def opcode_fields_c : AC := .seq (.ops [q65_0]) (.seq (.ops [q65_1_0, q65_1_1, q65_1_2, q65_1_3, q65_1_4, q65_1_5, q65_1_6, q65_1_7, q65_1_8, q65_1_9, q65_1_10, q65_1_11, q65_1_12, q65_1_13, q65_1_14, q65_1_15]) (.ret))
theorem opcode_fields_ok : compF Tryd.prog 65 = some (24, opcode_fields_c, [.c 4 4 true, .c 5 4 true]) := by kernel_rfl

@[go_sem] def q66_0 : List AI := [
 .j 2 (.mov (.z 0)),
 .j 3 (.mov (.z 0))]
@[go_sem] def q66_1 : List AI := [
 .j 4 (.mov (.t 0))]
@[go_sem] def q66_2 : List AI := [
 .j 6 (.bin .eql (.t 4) (.z 1)),
 .j 5 (.mov (.t 6))]
@[go_sem] def q66_3 : List AI := [
 .j 2 (.mov (.z 0)),
 .j 3 (.mov (.z 4095))]
@[go_sem] def q66_4 : List AI := [
 .j 8 (.bin .eql (.t 4) (.z 2)),
 .j 7 (.mov (.t 8))]
@[go_sem] def q66_5 : List AI := [
 .j 2 (.mov (.z 0)),
 .j 3 (.mov (.z 4095))]
@[go_sem] def q66_6 : List AI := [
 .j 10 (.bin .eql (.t 4) (.z 3)),
 .j 9 (.mov (.t 10))]
@[go_sem] def q66_7 : List AI := [
 .j 2 (.mov (.z 0)),
 .j 3 (.mov (.z 59))]
@[go_sem] def q66_8 : List AI := [
 .j 12 (.bin .eql (.t 4) (.z 4)),
 .j 11 (.mov (.t 12))]
@[go_sem] def q66_9 : List AI := [
 .j 2 (.mov (.z 0)),
 .j 3 (.mov (.z 1023))]
@[go_sem] def q66_10 : List AI := [
 .j 14 (.bin .eql (.t 4) (.z 5)),
 .j 13 (.mov (.t 14))]
@[go_sem] def q66_11 : List AI := [
 .j 2 (.mov (.z 0)),
 .j 3 (.mov (.z 16383))]
@[go_sem] def q66_12 : List AI := [
 .j 16 (.bin .eql (.t 4) (.z 6)),
 .j 15 (.mov (.t 16))]
@[go_sem] def q66_13 : List AI := [
 .j 2 (.mov (.z (-1))),
 .j 3 (.mov (.z 200))]
@[go_sem] def q66_14 : List AI := [
 .j 18 (.bin .eql (.t 4) (.z 7)),
 .j 17 (.mov (.t 18))]
@[go_sem] def q66_15 : List AI := [
 .j 2 (.mov (.z (-1))),
 .j 3 (.mov (.z 4096))]
@[go_sem] def q66_16 : List AI := [
 .j 20 (.bin .eql (.t 4) (.z 8)),
 .j 19 (.mov (.t 20))]
@[go_sem] def q66_17 : List AI := [
 .j 2 (.mov (.z 0)),
 .j 3 (.mov (.z 1))]
@[go_sem] def q66_18 : List AI := [
 .j 22 (.bin .eql (.t 4) (.z 9)),
 .j 21 (.mov (.t 22))]
@[go_sem] def q66_19 : List AI := [
 .j 2 (.mov (.z 20)),
 .j 3 (.mov (.z 23))]
@[go_sem] def q66_20 : List AI := [
 .j 24 (.bin .eql (.t 4) (.z 10)),
 .j 23 (.mov (.t 24))]
@[go_sem] def q66_21 : List AI := [
 .j 2 (.mov (.z 1)),
 .j 3 (.mov (.z 19))]
@[go_sem] def q66_22 : List AI := [
 .j 26 (.bin .eql (.t 4) (.z 11)),
 .j 25 (.mov (.t 26))]
@[go_sem] def q66_23 : List AI := [
 .j 2 (.mov (.z 1)),
 .j 3 (.mov (.z 200))]
@[go_sem] def q66_24 : List AI := [
 .j 28 (.bin .eql (.t 4) (.z 12)),
 .j 27 (.mov (.t 28))]
@[go_sem] def q66_25 : List AI := [
 .j 2 (.mov (.z 1)),
 .j 3 (.mov (.z 32767))]
@[go_sem] def q66_26 : List AI := [
 .j 2 (.mov (.z 0)),
 .j 3 (.mov (.z 0))]
@[go_sem] def opcode_between_c : AC := .seq (.ops [q66_0]) (.seq (.seq (.ops [q66_1]) (.block 0 (.seq (.ops [q66_2]) (.cond (.t 5) (.seq (.ops [q66_3]) (.ret)) (.seq (.ops [q66_4]) (.cond (.t 7) (.seq (.ops [q66_5]) (.ret)) (.seq (.ops [q66_6]) (.cond (.t 9) (.seq (.ops [q66_7]) (.ret)) (.seq (.ops [q66_8]) (.cond (.t 11) (.seq (.ops [q66_9]) (.ret)) (.seq (.ops [q66_10]) (.cond (.t 13) (.seq (.ops [q66_11]) (.ret)) (.seq (.ops [q66_12]) (.cond (.t 15) (.seq (.ops [q66_13]) (.ret)) (.seq (.ops [q66_14]) (.cond (.t 17) (.seq (.ops [q66_15]) (.ret)) (.seq (.ops [q66_16]) (.cond (.t 19) (.seq (.ops [q66_17]) (.ret)) (.seq (.ops [q66_18]) (.cond (.t 21) (.seq (.ops [q66_19]) (.ret)) (.seq (.ops [q66_20]) (.cond (.t 23) (.seq (.ops [q66_21]) (.ret)) (.seq (.ops [q66_22]) (.cond (.t 25) (.seq (.ops [q66_23]) (.ret)) (.seq (.ops [q66_24]) (.cond (.t 27) (.seq (.ops [q66_25]) (.ret)) (.skip))))))))))))))))))))))))))) (.seq (.ops [q66_26]) (.ret)))
theorem opcode_between_ok : compF Tryd.prog 66 = some (29, opcode_between_c, [.t 2, .t 3]) := by kernel_rfl

@[go_sem] def q67_0 : List AI := [
 .j 2 (.box 670002 6 (.t 0)),
 .j 3 (.box 670003 5 (.t 1)),
 .j 4 (.mov (.z 0))]
@[go_sem] def q67_1 : List AI := [
 .j 6 (.faddr 1 (.t 3)),
 .j 7 (.load 1 false (.t 6)),
 .j 8 (.faddr 5 (.t 2)),
 .j 9 (.load 1 false (.t 8)),
 .j 10 (.bin .add (.t 7) (.t 9)),
 .j 5 (.mov (.t 10))]
@[go_sem] def q67_2 : List AI := [
 .j 11 (.faddr 0 (.t 3)),
 .j 12 (.load 1 false (.t 11))]
@[go_sem] def q67_3 : List AI := [
 .j 14 (.bin .eql (.t 12) (.z 16)),
 .j 13 (.mov (.t 14))]
@[go_sem] def q67_4 : List AI := [
 .j 15 (.faddr 1 (.t 3)),
 .j 16 (.load 1 false (.t 15)),
 .j 17 (.faddr 2 (.t 3)),
 .j 18 (.load 1 false (.t 17)),
 .j 19 (.bin .add (.t 16) (.t 18)),
 .j 20 (.faddr 1 (.t 3)),
 .j 21 (.load 1 false (.t 20)),
 .j 22 (.faddr 3 (.t 3)),
 .j 23 (.load 1 false (.t 22)),
 .j 24 (.bin .add (.t 21) (.t 23)),
 .j 25 (.bin .sub (.t 24) (.z 1)),
 .j 26 (.mm true [(.t 19), (.t 25)]),
 .j 5 (.mov (.t 26))]
@[go_sem] def q67_5 : List AI := [
 .j 28 (.bin .eql (.t 12) (.z 17)),
 .j 27 (.mov (.t 28))]
@[go_sem] def q67_6 : List AI := [
 .j 29 (.bin .eql (.t 12) (.z 21)),
 .j 27 (.mov (.t 29))]
@[go_sem] def q67_7 : List AI := [
 .j 30 (.faddr 1 (.t 3)),
 .j 31 (.load 1 false (.t 30)),
 .j 32 (.faddr 2 (.t 3)),
 .j 33 (.load 1 false (.t 32)),
 .j 34 (.bin .add (.t 31) (.t 33)),
 .j 5 (.mov (.t 34))]
@[go_sem] def q67_8 : List AI := [
 .j 36 (.bin .eql (.t 12) (.z 18)),
 .j 35 (.mov (.t 36))]
@[go_sem] def q67_9 : List AI := [
 .j 37 (.bin .eql (.t 12) (.z 19)),
 .j 35 (.mov (.t 37))]
@[go_sem] def q67_10 : List AI := [
 .j 38 (.faddr 1 (.t 3)),
 .j 39 (.load 1 false (.t 38)),
 .j 40 (.faddr 2 (.t 3)),
 .j 41 (.load 1 false (.t 40)),
 .j 42 (.bin .add (.t 39) (.t 41)),
 .j 43 (.bin .sub (.t 42) (.z 1)),
 .j 5 (.mov (.t 43))]
@[go_sem] def q67_11 : List AI := [
 .j 45 (.bin .eql (.t 12) (.z 25)),
 .j 44 (.mov (.t 45))]
@[go_sem] def q67_12 : List AI := [
 .j 46 (.faddr 1 (.t 3)),
 .j 47 (.load 1 false (.t 46)),
 .j 48 (.bin .add (.t 47) (.z 2)),
 .j 49 (.faddr 3 (.t 3)),
 .j 50 (.load 1 false (.t 49)),
 .j 51 (.bin .add (.t 48) (.t 50)),
 .j 5 (.mov (.t 51))]
@[go_sem] def q67_13 : List AI := [
 .j 52 (.mov (.t 5)),
 .j 4 (.mov (.t 52))]
@[go_sem] def opcode_last_c : AC := .seq (.ops [q67_0]) (.seq (.ops [q67_1]) (.seq (.seq (.ops [q67_2]) (.block 0 (.seq (.ops [q67_3]) (.cond (.t 13) (.ops [q67_4]) (.seq (.seq (.ops [q67_5]) (.cond (.t 27) (.skip) (.ops [q67_6]))) (.cond (.t 27) (.ops [q67_7]) (.seq (.seq (.ops [q67_8]) (.cond (.t 35) (.skip) (.ops [q67_9]))) (.cond (.t 35) (.ops [q67_10]) (.seq (.ops [q67_11]) (.cond (.t 44) (.ops [q67_12]) (.skip))))))))))) (.seq (.ops [q67_13]) (.ret))))
theorem opcode_last_ok : compF Tryd.prog 67 = some (53, opcode_last_c, [.t 4]) := by kernel_rfl

@[go_sem] def q68_0 : List AI := [
 .j 2 (.mov (.c .nils))]
@[go_sem] def q68_1 : List AI := [
 .j 3 (.mov (.t 0)),
 .j 4 (.call 75 [(.t 3)])]
@[go_sem] def q68_2 : List AI := [
 .j 5 (.mov (.t 0)),
 .j 6 (.call 76 [(.t 5)]),
 .j 2 (.mov (.t 6))]
@[go_sem] def opcode_sorted_c : AC := .seq (.ops [q68_0]) (.seq (.ops [q68_1]) (.seq (.ops [q68_2]) (.ret)))
theorem opcode_sorted_ok : compF Tryd.prog 68 = some (7, opcode_sorted_c, [.t 2]) := by kernel_rfl

@[go_sem] def q69_0 : List AI := [
 .j 4 (.mov (.c .nils)),
 .j 5 (.mov (.z 0))]
@[go_sem] def q69_1 : List AI := [
 .j 8 (.mov (.t 1)),
 .j 9 (.bin .lss (.t 8) (.z 0))]
@[go_sem] def q69_2 : List AI := [
 .j 10 (.mov (.t 0)),
 .j 4 (.mov (.c .nils)),
 .j 5 (.mov (.t 10))]
@[go_sem] def q69_3 : List AI := [
 .j 6 (.mov (.c .nils))]
@[go_sem] def q69_4 : List AI := [
 .j 11 (.mov (.t 1)),
 .j 12 (.mov (.z 0))]
@[go_sem] def q69_5 : List AI := [
 .j 13 (.bin .lss (.t 12) (.t 11))]
@[go_sem] def q69_6 : List AI := [
 .j 14 (.mov (.t 12)),
 .j 7 (.mov (.t 14))]
@[go_sem] def q69_7 : List AI := [
 .j 15 (.mov (.t 6)),
 .j 16 (.mov (.t 0)),
 .j 17 (.mov (.t 7)),
 .j 18 (.bin .add (.t 16) (.t 17)),
 .j 19 (.mkisl 1 [(.t 18)]),
 .j 20 (.app 690020 1 (.t 15) (.t 19)),
 .j 6 (.mov (.t 20))]
@[go_sem] def q69_8 : List AI := [
 .j 21 (.bin .add (.t 12) (.z 1)),
 .j 12 (.mov (.t 21))]
@[go_sem] def opcode_span_l0' : AC := .seq (.ops [q69_5]) (.seq (.cond (.t 13) (.skip) (.exit 0)) (.seq (.block 1 (.seq (.ops [q69_6]) (.ops [q69_7]))) (.ops [q69_8])))
def opcode_span_l0 : AC := opcode_span_l0'
theorem opcode_span_l0_eq : opcode_span_l0 = opcode_span_l0' := rfl
@[go_sem] def q69_9 : List AI := [
 .j 22 (.mov (.t 6)),
 .j 4 (.mov (.t 22)),
 .j 5 (.mov (.z (-1)))]
@[go_sem] def opcode_span_c : AC := .seq (.ops [q69_0]) (.seq (.seq (.ops [q69_1]) (.cond (.t 9) (.seq (.ops [q69_2]) (.ret)) (.skip))) (.seq (.ops [q69_3]) (.seq (.seq (.ops [q69_4]) (.block 0 (.loop opcode_span_l0))) (.seq (.ops [q69_9]) (.ret)))))
theorem opcode_span_ok : compF Tryd.prog 69 = some (23, opcode_span_c, [.t 4, .t 5]) := by kernel_rfl

@[go_sem] def q70_0 : List AI := [
 .j 3 (.mov (.c (.bool false)))]
@[go_sem] def q70_1 : List AI := [
 .j 4 (.mov (.t 0)),
 .j 5 (.faddr 4 (.t 1)),
 .j 6 (.load 1 false (.t 5)),
 .j 7 (.bin .geq (.t 4) (.t 6)),
 .j 3 (.mov (.t 7))]
@[go_sem] def proto_within_1_c : AC := .seq (.ops [q70_0]) (.seq (.ops [q70_1]) (.ret))
theorem proto_within_1_ok : compF Tryd.prog 70 = some (8, proto_within_1_c, [.t 3]) := by kernel_rfl

@[go_sem] def q71_0 : List AI := [
 .j 1 (.box 710001 5 (.t 0)),
 .j 2 (.mov (.z 0)),
 .j 3 (.mov (.c (.bool false)))]
@[go_sem] def q71_1 : List AI := [
 .j 4 (.faddr 0 (.t 1)),
 .j 5 (.load 1 false (.t 4))]
@[go_sem] def q71_2 : List AI := [
 .j 7 (.bin .eql (.t 5) (.z 2)),
 .j 6 (.mov (.t 7))]
@[go_sem] def q71_3 : List AI := [
 .j 8 (.faddr 2 (.t 1)),
 .j 9 (.load 1 false (.t 8)),
 .j 2 (.mov (.t 9)),
 .j 3 (.mov (.c (.bool false)))]
@[go_sem] def q71_4 : List AI := [
 .j 11 (.bin .eql (.t 5) (.z 7)),
 .j 10 (.mov (.t 11))]
@[go_sem] def q71_5 : List AI := [
 .j 12 (.faddr 2 (.t 1)),
 .j 13 (.load 1 false (.t 12)),
 .j 2 (.mov (.t 13)),
 .j 3 (.mov (.c (.bool true)))]
@[go_sem] def q71_6 : List AI := [
 .j 15 (.bin .eql (.t 5) (.z 8)),
 .j 14 (.mov (.t 15))]
@[go_sem] def q71_7 : List AI := [
 .j 16 (.faddr 1 (.t 1)),
 .j 17 (.load 1 false (.t 16)),
 .j 2 (.mov (.t 17)),
 .j 3 (.mov (.c (.bool true)))]
@[go_sem] def q71_8 : List AI := [
 .j 19 (.bin .eql (.t 5) (.z 11)),
 .j 18 (.mov (.t 19))]
@[go_sem] def q71_9 : List AI := [
 .j 20 (.faddr 3 (.t 1)),
 .j 21 (.load 1 false (.t 20)),
 .j 2 (.mov (.t 21)),
 .j 3 (.mov (.c (.bool true)))]
@[go_sem] def q71_10 : List AI := [
 .j 2 (.mov (.z (-1))),
 .j 3 (.mov (.c (.bool false)))]
@[go_sem] def proto_constant_c : AC := .seq (.ops [q71_0]) (.seq (.seq (.ops [q71_1]) (.block 0 (.seq (.ops [q71_2]) (.cond (.t 6) (.seq (.ops [q71_3]) (.ret)) (.seq (.ops [q71_4]) (.cond (.t 10) (.seq (.ops [q71_5]) (.ret)) (.seq (.ops [q71_6]) (.cond (.t 14) (.seq (.ops [q71_7]) (.ret)) (.seq (.ops [q71_8]) (.cond (.t 18) (.seq (.ops [q71_9]) (.ret)) (.skip))))))))))) (.seq (.ops [q71_10]) (.ret)))
theorem proto_constant_ok : compF Tryd.prog 71 = some (22, proto_constant_c, [.t 2, .t 3]) := by kernel_rfl

@[go_sem] def q72_0 : List AI := [
 .j 4 (.mov (.z 0))]
@[go_sem] def q72_1 : List AI := [
 .j 5 (.mov (.t 1)),
 .j 6 (.bin .neq (.t 5) (.z 0))]
@[go_sem] def q72_2 : List AI := [
 .j 7 (.mov (.t 1)),
 .j 8 (.mov (.t 0)),
 .j 9 (.mov (.t 1)),
 .j 10 (.bin .rem (.t 8) (.t 9)),
 .j 0 (.mov (.t 7)),
 .j 1 (.mov (.t 10))]
@[go_sem] def rational_gcd_l0' : AC := .seq (.seq (.ops [q72_1]) (.cond (.t 6) (.skip) (.exit 0))) (.block 1 (.ops [q72_2]))
def rational_gcd_l0 : AC := rational_gcd_l0'
theorem rational_gcd_l0_eq : rational_gcd_l0 = rational_gcd_l0' := rfl
@[go_sem] def q72_3 : List AI := [
 .j 11 (.mov (.t 0)),
 .j 4 (.mov (.t 11))]
@[go_sem] def rational_gcd_c : AC := .seq (.ops [q72_0]) (.seq (.block 0 (.loop rational_gcd_l0)) (.seq (.ops [q72_3]) (.ret)))
theorem rational_gcd_ok : compF Tryd.prog 72 = some (12, rational_gcd_c, [.t 4]) := by kernel_rfl

@[go_sem] def q73_0 : List AI := [
 .j 2 (.mov (.c .nils))]
@[go_sem] def q73_1 : List AI := [
 .j 3 (.mov (.z 0))]
@[go_sem] def q73_2 : List AI := [
 .j 4 (.mov (.z 1))]
@[go_sem] def q73_3 : List AI := [
 .j 5 (.mov (.c (.int .u8 0)))]
@[go_sem] def q73_4 : List AI := [
 .j 6 (.mov (.z 0))]
@[go_sem] def q73_5 : List AI := [
 .j 13 (.mov (.t 6)),
 .j 14 (.mov (.t 0)),
 .j 15 (.len 1 (.t 14)),
 .j 16 (.bin .lss (.t 13) (.t 15))]
@[go_sem] def q73_6 : List AI := [
 .j 19 (.mov (.t 0)),
 .j 20 (.mov (.t 6)),
 .j 21 (.idx (.t 19) (.t 20)),
 .j 7 (.mov (.t 21))]
@[go_sem] def q73_7 : List AI := [
 .j 22 (.mov (.t 5)),
 .j 23 (.mov (.t 7)),
 .j 24 (.bin .or (.t 22) (.t 23)),
 .j 5 (.mov (.t 24))]
@[go_sem] def q73_8 : List AI := [
 .j 25 (.mov (.t 7)),
 .j 26 (.iaddrA 256 1 (.g 0) (.t 25)),
 .j 27 (.load 1 false (.t 26)),
 .j 28 (.conv .i64 (.t 27)),
 .j 8 (.mov (.t 28))]
@[go_sem] def q73_9 : List AI := [
 .j 29 (.mov (.t 3)),
 .j 30 (.mov (.t 4)),
 .j 31 (.mov (.t 8)),
 .j 32 (.un .xor (.t 31)),
 .j 33 (.bin .and (.t 30) (.t 32)),
 .j 34 (.bin .add (.t 29) (.t 33)),
 .j 3 (.mov (.t 34))]
@[go_sem] def q73_10 : List AI := [
 .j 35 (.mov (.t 8)),
 .j 4 (.mov (.t 35))]
@[go_sem] def q73_11 : List AI := [
 .j 17 (.mov (.t 6)),
 .j 18 (.bin .add (.t 17) (.z 1)),
 .j 6 (.mov (.t 18))]
@[go_sem] def strings_Fields_l0' : AC := .seq (.seq (.ops [q73_5]) (.cond (.t 16) (.skip) (.exit 0))) (.seq (.block 1 (.seq (.ops [q73_6]) (.seq (.ops [q73_7]) (.seq (.ops [q73_8]) (.seq (.ops [q73_9]) (.ops [q73_10])))))) (.ops [q73_11]))
def strings_Fields_l0 : AC := strings_Fields_l0'
theorem strings_Fields_l0_eq : strings_Fields_l0 = strings_Fields_l0' := rfl
@[go_sem] def q73_12 : List AI := [
 .j 36 (.mov (.t 5)),
 .j 37 (.bin .geq (.t 36) (.c (.int .u8 128)))]
@[go_sem] def q73_13 : List AI := [
 .j 38 (.mov (.t 0)),
 .j 39 (.call 77 [(.t 38), (.f 78)]),
 .j 2 (.mov (.t 39))]
@[go_sem] def q73_14 : List AI := [
 .j 40 (.mov (.t 3)),
 .j 41 (.mksl 730041 [(.str [])] (.t 40)),
 .j 9 (.mov (.t 41))]
@[go_sem] def q73_15 : List AI := [
 .j 10 (.mov (.z 0))]
@[go_sem] def q73_16 : List AI := [
 .j 11 (.mov (.z 0))]
@[go_sem] def q73_17 : List AI := [
 .j 12 (.mov (.z 0))]
@[go_sem] def q73_18 : List AI := [
 .j 42 (.mov (.t 12)),
 .j 43 (.mov (.t 0)),
 .j 44 (.len 1 (.t 43)),
 .j 45 (.bin .lss (.t 42) (.t 44)),
 .j 46 (.mov (.t 45)),
 .k 47 46 true (.mov (.t 0)),
 .k 48 46 true (.mov (.t 12)),
 .k 49 46 true (.idx (.t 47) (.t 48)),
 .k 50 46 true (.iaddrA 256 1 (.g 0) (.t 49)),
 .k 51 46 true (.load 1 false (.t 50)),
 .k 52 46 true (.bin .neq (.t 51) (.c (.int .u8 0))),
 .j 53 (.pick (.t 46) (.t 52) (.c (.bool false)))]
@[go_sem] def q73_19 : List AI := [
 .j 54 (.mov (.t 12)),
 .j 55 (.bin .add (.t 54) (.z 1)),
 .j 12 (.mov (.t 55))]
@[go_sem] def strings_Fields_l1' : AC := .seq (.seq (.ops [q73_18]) (.cond (.t 53) (.skip) (.exit 2))) (.block 3 (.ops [q73_19]))
def strings_Fields_l1 : AC := strings_Fields_l1'
theorem strings_Fields_l1_eq : strings_Fields_l1 = strings_Fields_l1' := rfl
@[go_sem] def q73_20 : List AI := [
 .j 56 (.mov (.t 12)),
 .j 11 (.mov (.t 56))]
@[go_sem] def q73_21 : List AI := [
 .j 57 (.mov (.t 12)),
 .j 58 (.mov (.t 0)),
 .j 59 (.len 1 (.t 58)),
 .j 60 (.bin .lss (.t 57) (.t 59))]
@[go_sem] def q73_22 : List AI := [
 .j 61 (.mov (.t 0)),
 .j 62 (.mov (.t 12)),
 .j 63 (.idx (.t 61) (.t 62)),
 .j 64 (.iaddrA 256 1 (.g 0) (.t 63)),
 .j 65 (.load 1 false (.t 64)),
 .j 66 (.bin .eql (.t 65) (.c (.int .u8 0)))]
@[go_sem] def q73_23 : List AI := [
 .j 67 (.mov (.t 12)),
 .j 68 (.bin .add (.t 67) (.z 1)),
 .j 12 (.mov (.t 68))]
@[go_sem] def q73_24 : List AI := [
 .j 69 (.mov (.t 9)),
 .j 70 (.mov (.t 10)),
 .j 71 (.mov (.t 0)),
 .j 72 (.mov (.t 11)),
 .j 73 (.mov (.t 12)),
 .j 74 (.sls (.t 71) (some (.t 72)) (some (.t 73))),
 .j 75 (.iaddr 1 (.t 69) (.t 70)),
 .e (.store 1 (.t 75) (.t 74))]
@[go_sem] def q73_25 : List AI := [
 .j 76 (.mov (.t 10)),
 .j 77 (.bin .add (.t 76) (.z 1)),
 .j 10 (.mov (.t 77))]
@[go_sem] def q73_26 : List AI := [
 .j 78 (.mov (.t 12)),
 .j 79 (.bin .add (.t 78) (.z 1)),
 .j 12 (.mov (.t 79))]
@[go_sem] def q73_27 : List AI := [
 .j 80 (.mov (.t 12)),
 .j 81 (.mov (.t 0)),
 .j 82 (.len 1 (.t 81)),
 .j 83 (.bin .lss (.t 80) (.t 82)),
 .j 84 (.mov (.t 83)),
 .k 85 84 true (.mov (.t 0)),
 .k 86 84 true (.mov (.t 12)),
 .k 87 84 true (.idx (.t 85) (.t 86)),
 .k 88 84 true (.iaddrA 256 1 (.g 0) (.t 87)),
 .k 89 84 true (.load 1 false (.t 88)),
 .k 90 84 true (.bin .neq (.t 89) (.c (.int .u8 0))),
 .j 91 (.pick (.t 84) (.t 90) (.c (.bool false)))]
@[go_sem] def q73_28 : List AI := [
 .j 92 (.mov (.t 12)),
 .j 93 (.bin .add (.t 92) (.z 1)),
 .j 12 (.mov (.t 93))]
@[go_sem] def strings_Fields_l3' : AC := .seq (.seq (.ops [q73_27]) (.cond (.t 91) (.skip) (.exit 6))) (.block 7 (.ops [q73_28]))
def strings_Fields_l3 : AC := strings_Fields_l3'
theorem strings_Fields_l3_eq : strings_Fields_l3 = strings_Fields_l3' := rfl
@[go_sem] def q73_29 : List AI := [
 .j 94 (.mov (.t 12)),
 .j 11 (.mov (.t 94))]
@[go_sem] def strings_Fields_l2' : AC := .seq (.seq (.ops [q73_21]) (.cond (.t 60) (.skip) (.exit 4))) (.block 5 (.seq (.seq (.ops [q73_22]) (.cond (.t 66) (.seq (.ops [q73_23]) (.exit 5)) (.skip))) (.seq (.ops [q73_24]) (.seq (.ops [q73_25]) (.seq (.ops [q73_26]) (.seq (.block 6 (.loop strings_Fields_l3)) (.ops [q73_29])))))))
def strings_Fields_l2 : AC := strings_Fields_l2'
theorem strings_Fields_l2_eq : strings_Fields_l2 = strings_Fields_l2' := rfl
@[go_sem] def q73_30 : List AI := [
 .j 95 (.mov (.t 11)),
 .j 96 (.mov (.t 0)),
 .j 97 (.len 1 (.t 96)),
 .j 98 (.bin .lss (.t 95) (.t 97))]
@[go_sem] def q73_31 : List AI := [
 .j 99 (.mov (.t 9)),
 .j 100 (.mov (.t 10)),
 .j 101 (.mov (.t 0)),
 .j 102 (.mov (.t 11)),
 .j 103 (.sls (.t 101) (some (.t 102)) none),
 .j 104 (.iaddr 1 (.t 99) (.t 100)),
 .e (.store 1 (.t 104) (.t 103))]
@[go_sem] def q73_32 : List AI := [
 .j 105 (.mov (.t 9)),
 .j 2 (.mov (.t 105))]
@[go_sem] def strings_Fields_c : AC := .seq (.ops [q73_0]) (.seq (.ops [q73_1]) (.seq (.ops [q73_2]) (.seq (.ops [q73_3]) (.seq (.seq (.ops [q73_4]) (.block 0 (.loop strings_Fields_l0))) (.seq (.seq (.ops [q73_12]) (.cond (.t 37) (.seq (.ops [q73_13]) (.ret)) (.skip))) (.seq (.ops [q73_14]) (.seq (.ops [q73_15]) (.seq (.ops [q73_16]) (.seq (.ops [q73_17]) (.seq (.block 2 (.loop strings_Fields_l1)) (.seq (.ops [q73_20]) (.seq (.block 4 (.loop strings_Fields_l2)) (.seq (.seq (.ops [q73_30]) (.cond (.t 98) (.ops [q73_31]) (.skip))) (.seq (.ops [q73_32]) (.ret)))))))))))))))
theorem strings_Fields_ok : compF Tryd.prog 73 = some (106, strings_Fields_c, [.t 2]) := by kernel_rfl

@[go_sem] def q74_0 : List AI := [
 .j 2 (.box 740002 6 (.c (.agg [(.str []), (.int .i64 0), (.int .i64 0), (.int .i64 0), (.int .i64 0), (.int .i64 0)])))]
@[go_sem] def q74_1 : List AI := [
 .j 3 (.mov (.t 0))]
@[go_sem] def q74_2 : List AI := [
 .j 5 (.bin .eql (.t 3) (.z 1)),
 .j 4 (.mov (.t 5))]
@[go_sem] def q74_3 : List AI := [
 .j 6 (.build [(.str []), (.int .i64 0), (.int .i64 0), (.int .i64 0), (.int .i64 0), (.int .i64 0)] [(1, 1, (.z 1)), (2, 1, (.z 1))]),
 .e (.store 6 (.t 2) (.t 6))]
@[go_sem] def q74_4 : List AI := [
 .j 8 (.bin .eql (.t 3) (.z 2)),
 .j 7 (.mov (.t 8))]
@[go_sem] def q74_5 : List AI := [
 .j 9 (.bin .eql (.t 3) (.z 7)),
 .j 7 (.mov (.t 9))]
@[go_sem] def q74_6 : List AI := [
 .j 10 (.build [(.str []), (.int .i64 0), (.int .i64 0), (.int .i64 0), (.int .i64 0), (.int .i64 0)] [(1, 1, (.z 1)), (2, 1, (.z 2))]),
 .e (.store 6 (.t 2) (.t 10))]
@[go_sem] def q74_7 : List AI := [
 .j 12 (.bin .eql (.t 3) (.z 3)),
 .j 11 (.mov (.t 12))]
@[go_sem] def q74_8 : List AI := [
 .j 13 (.build [(.str []), (.int .i64 0), (.int .i64 0), (.int .i64 0), (.int .i64 0), (.int .i64 0)] [(1, 1, (.z 1)), (2, 1, (.z 1))]),
 .e (.store 6 (.t 2) (.t 13))]
@[go_sem] def q74_9 : List AI := [
 .j 15 (.bin .eql (.t 3) (.z 4)),
 .j 14 (.mov (.t 15))]
@[go_sem] def q74_10 : List AI := [
 .j 16 (.build [(.str []), (.int .i64 0), (.int .i64 0), (.int .i64 0), (.int .i64 0), (.int .i64 0)] [(1, 1, (.z 1)), (2, 1, (.z 8))]),
 .e (.store 6 (.t 2) (.t 16))]
@[go_sem] def q74_11 : List AI := [
 .j 18 (.bin .eql (.t 3) (.z 5)),
 .j 17 (.mov (.t 18))]
@[go_sem] def q74_12 : List AI := [
 .j 19 (.build [(.str []), (.int .i64 0), (.int .i64 0), (.int .i64 0), (.int .i64 0), (.int .i64 0)] [(1, 1, (.z 1)), (2, 1, (.z 3))]),
 .e (.store 6 (.t 2) (.t 19))]
@[go_sem] def q74_13 : List AI := [
 .j 21 (.bin .eql (.t 3) (.z 6)),
 .j 20 (.mov (.t 21))]
@[go_sem] def q74_14 : List AI := [
 .j 22 (.build [(.str []), (.int .i64 0), (.int .i64 0), (.int .i64 0), (.int .i64 0), (.int .i64 0)] [(1, 1, (.z 3)), (2, 1, (.z 1))]),
 .e (.store 6 (.t 2) (.t 22))]
@[go_sem] def q74_15 : List AI := [
 .j 24 (.bin .eql (.t 3) (.z 8)),
 .j 23 (.mov (.t 24))]
@[go_sem] def q74_16 : List AI := [
 .j 25 (.build [(.str []), (.int .i64 0), (.int .i64 0), (.int .i64 0), (.int .i64 0), (.int .i64 0)] [(1, 1, (.z 2)), (2, 1, (.z 1))]),
 .e (.store 6 (.t 2) (.t 25))]
@[go_sem] def q74_17 : List AI := [
 .j 27 (.bin .eql (.t 3) (.z 9)),
 .j 26 (.mov (.t 27))]
@[go_sem] def q74_18 : List AI := [
 .j 28 (.bin .eql (.t 3) (.z 10)),
 .j 26 (.mov (.t 28))]
@[go_sem] def q74_19 : List AI := [
 .j 29 (.build [(.str []), (.int .i64 0), (.int .i64 0), (.int .i64 0), (.int .i64 0), (.int .i64 0)] [(1, 1, (.z 1)), (2, 1, (.z 1)), (3, 1, (.z 1))]),
 .e (.store 6 (.t 2) (.t 29))]
@[go_sem] def q74_20 : List AI := [
 .j 31 (.bin .eql (.t 3) (.z 11)),
 .j 30 (.mov (.t 31))]
@[go_sem] def q74_21 : List AI := [
 .j 32 (.build [(.str []), (.int .i64 0), (.int .i64 0), (.int .i64 0), (.int .i64 0), (.int .i64 0)] [(1, 1, (.z 1)), (2, 1, (.z 1)), (3, 1, (.z 2)), (5, 1, (.z 1))]),
 .e (.store 6 (.t 2) (.t 32))]
@[go_sem] def q74_22 : List AI := [
 .j 34 (.bin .eql (.t 3) (.z 12)),
 .j 33 (.mov (.t 34))]
@[go_sem] def q74_23 : List AI := [
 .j 35 (.build [(.str []), (.int .i64 0), (.int .i64 0), (.int .i64 0), (.int .i64 0), (.int .i64 0)] [(1, 1, (.z 1)), (2, 1, (.z 1)), (3, 1, (.z 9))]),
 .e (.store 6 (.t 2) (.t 35))]
@[go_sem] def q74_24 : List AI := [
 .j 37 (.bin .eql (.t 3) (.z 13)),
 .j 36 (.mov (.t 37))]
@[go_sem] def q74_25 : List AI := [
 .j 38 (.build [(.str []), (.int .i64 0), (.int .i64 0), (.int .i64 0), (.int .i64 0), (.int .i64 0)] [(1, 1, (.z 1)), (2, 1, (.z 1)), (3, 1, (.z 1)), (4, 1, (.z 10))]),
 .e (.store 6 (.t 2) (.t 38))]
@[go_sem] def q74_26 : List AI := [
 .j 40 (.bin .eql (.t 3) (.z 14)),
 .j 39 (.mov (.t 40))]
@[go_sem] def q74_27 : List AI := [
 .j 41 (.build [(.str []), (.int .i64 0), (.int .i64 0), (.int .i64 0), (.int .i64 0), (.int .i64 0)] [(2, 1, (.z 5))]),
 .e (.store 6 (.t 2) (.t 41))]
@[go_sem] def q74_28 : List AI := [
 .j 43 (.bin .eql (.t 3) (.z 15)),
 .j 42 (.mov (.t 43))]
@[go_sem] def q74_29 : List AI := [
 .j 44 (.build [(.str []), (.int .i64 0), (.int .i64 0), (.int .i64 0), (.int .i64 0), (.int .i64 0)] [(1, 1, (.z 1)), (2, 1, (.z 5)), (3, 1, (.z 8))]),
 .e (.store 6 (.t 2) (.t 44))]
@[go_sem] def q74_30 : List AI := [
 .j 46 (.bin .eql (.t 3) (.z 16)),
 .j 45 (.mov (.t 46))]
@[go_sem] def q74_31 : List AI := [
 .j 47 (.build [(.str []), (.int .i64 0), (.int .i64 0), (.int .i64 0), (.int .i64 0), (.int .i64 0)] [(1, 1, (.z 1)), (2, 1, (.z 7)), (3, 1, (.z 6))]),
 .e (.store 6 (.t 2) (.t 47))]
@[go_sem] def q74_32 : List AI := [
 .j 49 (.bin .eql (.t 3) (.z 17)),
 .j 48 (.mov (.t 49))]
@[go_sem] def q74_33 : List AI := [
 .j 50 (.bin .eql (.t 3) (.z 18)),
 .j 48 (.mov (.t 50))]
@[go_sem] def q74_34 : List AI := [
 .j 51 (.build [(.str []), (.int .i64 0), (.int .i64 0), (.int .i64 0), (.int .i64 0), (.int .i64 0)] [(1, 1, (.z 1)), (2, 1, (.z 7))]),
 .e (.store 6 (.t 2) (.t 51))]
@[go_sem] def q74_35 : List AI := [
 .j 53 (.bin .eql (.t 3) (.z 19)),
 .j 52 (.mov (.t 53))]
@[go_sem] def q74_36 : List AI := [
 .j 54 (.build [(.str []), (.int .i64 0), (.int .i64 0), (.int .i64 0), (.int .i64 0), (.int .i64 0)] [(1, 1, (.z 1)), (2, 1, (.z 6))]),
 .e (.store 6 (.t 2) (.t 54))]
@[go_sem] def q74_37 : List AI := [
 .j 56 (.bin .eql (.t 3) (.z 21)),
 .j 55 (.mov (.t 56))]
@[go_sem] def q74_38 : List AI := [
 .j 57 (.build [(.str []), (.int .i64 0), (.int .i64 0), (.int .i64 0), (.int .i64 0), (.int .i64 0)] [(1, 1, (.z 1)), (2, 1, (.z 7)), (3, 1, (.z 12))]),
 .e (.store 6 (.t 2) (.t 57))]
@[go_sem] def q74_39 : List AI := [
 .j 59 (.bin .eql (.t 3) (.z 22)),
 .j 58 (.mov (.t 59))]
@[go_sem] def q74_40 : List AI := [
 .j 60 (.build [(.str []), (.int .i64 0), (.int .i64 0), (.int .i64 0), (.int .i64 0), (.int .i64 0)] [(1, 1, (.z 1)), (2, 1, (.z 4))]),
 .e (.store 6 (.t 2) (.t 60))]
@[go_sem] def q74_41 : List AI := [
 .j 62 (.bin .eql (.t 3) (.z 23)),
 .j 61 (.mov (.t 62))]
@[go_sem] def q74_42 : List AI := [
 .j 63 (.bin .eql (.t 3) (.z 24)),
 .j 61 (.mov (.t 63))]
@[go_sem] def q74_43 : List AI := [
 .j 64 (.bin .eql (.t 3) (.z 26)),
 .j 61 (.mov (.t 64))]
@[go_sem] def q74_44 : List AI := [
 .j 65 (.build [(.str []), (.int .i64 0), (.int .i64 0), (.int .i64 0), (.int .i64 0), (.int .i64 0)] [(1, 1, (.z 1)), (2, 1, (.z 5)), (5, 1, (.z 3))]),
 .e (.store 6 (.t 2) (.t 65))]
@[go_sem] def q74_45 : List AI := [
 .j 67 (.bin .eql (.t 3) (.z 25)),
 .j 66 (.mov (.t 67))]
@[go_sem] def q74_46 : List AI := [
 .j 68 (.build [(.str []), (.int .i64 0), (.int .i64 0), (.int .i64 0), (.int .i64 0), (.int .i64 0)] [(1, 1, (.z 1)), (3, 1, (.z 11)), (5, 1, (.z 3))]),
 .e (.store 6 (.t 2) (.t 68))]
@[go_sem] def q74_47 : List AI := [
 .j 70 (.bin .eql (.t 3) (.z 20)),
 .j 69 (.mov (.t 70))]
@[go_sem] def q74_48 : List AI := [
 .j 71 (.bin .eql (.t 3) (.z 27)),
 .j 69 (.mov (.t 71))]
@[go_sem] def q74_49 : List AI := [
 .j 72 (.bin .eql (.t 3) (.z 28)),
 .j 69 (.mov (.t 72))]
@[go_sem] def q74_50 : List AI := [
 .j 73 (.build [(.str []), (.int .i64 0), (.int .i64 0), (.int .i64 0), (.int .i64 0), (.int .i64 0)] [(1, 1, (.z 1))]),
 .e (.store 6 (.t 2) (.t 73))]
@[go_sem] def q74_51 : List AI := [
 .j 74 (.build [(.str []), (.int .i64 0), (.int .i64 0), (.int .i64 0), (.int .i64 0), (.int .i64 0)] [(1, 1, (.z 8))]),
 .e (.store 6 (.t 2) (.t 74))]
@[go_sem] def opcode_shape_c : AC := .seq (.ops [q74_0]) (.seq (.seq (.ops [q74_1]) (.block 0 (.seq (.ops [q74_2]) (.cond (.t 4) (.seq (.ops [q74_3]) (.ret)) (.seq (.seq (.ops [q74_4]) (.cond (.t 7) (.skip) (.ops [q74_5]))) (.cond (.t 7) (.seq (.ops [q74_6]) (.ret)) (.seq (.ops [q74_7]) (.cond (.t 11) (.seq (.ops [q74_8]) (.ret)) (.seq (.ops [q74_9]) (.cond (.t 14) (.seq (.ops [q74_10]) (.ret)) (.seq (.ops [q74_11]) (.cond (.t 17) (.seq (.ops [q74_12]) (.ret)) (.seq (.ops [q74_13]) (.cond (.t 20) (.seq (.ops [q74_14]) (.ret)) (.seq (.ops [q74_15]) (.cond (.t 23) (.seq (.ops [q74_16]) (.ret)) (.seq (.seq (.ops [q74_17]) (.cond (.t 26) (.skip) (.ops [q74_18]))) (.cond (.t 26) (.seq (.ops [q74_19]) (.ret)) (.seq (.ops [q74_20]) (.cond (.t 30) (.seq (.ops [q74_21]) (.ret)) (.seq (.ops [q74_22]) (.cond (.t 33) (.seq (.ops [q74_23]) (.ret)) (.seq (.ops [q74_24]) (.cond (.t 36) (.seq (.ops [q74_25]) (.ret)) (.seq (.ops [q74_26]) (.cond (.t 39) (.seq (.ops [q74_27]) (.ret)) (.seq (.ops [q74_28]) (.cond (.t 42) (.seq (.ops [q74_29]) (.ret)) (.seq (.ops [q74_30]) (.cond (.t 45) (.seq (.ops [q74_31]) (.ret)) (.seq (.seq (.ops [q74_32]) (.cond (.t 48) (.skip) (.ops [q74_33]))) (.cond (.t 48) (.seq (.ops [q74_34]) (.ret)) (.seq (.ops [q74_35]) (.cond (.t 52) (.seq (.ops [q74_36]) (.ret)) (.seq (.ops [q74_37]) (.cond (.t 55) (.seq (.ops [q74_38]) (.ret)) (.seq (.ops [q74_39]) (.cond (.t 58) (.seq (.ops [q74_40]) (.ret)) (.seq (.seq (.ops [q74_41]) (.cond (.t 61) (.skip) (.seq (.ops [q74_42]) (.cond (.t 61) (.skip) (.ops [q74_43]))))) (.cond (.t 61) (.seq (.ops [q74_44]) (.ret)) (.seq (.ops [q74_45]) (.cond (.t 66) (.seq (.ops [q74_46]) (.ret)) (.seq (.seq (.ops [q74_47]) (.cond (.t 69) (.skip) (.seq (.ops [q74_48]) (.cond (.t 69) (.skip) (.ops [q74_49]))))) (.cond (.t 69) (.seq (.ops [q74_50]) (.ret)) (.skip))))))))))))))))))))))))))))))))))))))))))))) (.seq (.ops [q74_51]) (.ret)))
theorem opcode_shape_ok : compF Tryd.prog 74 = some (75, opcode_shape_c, [.c 2 6 true]) := by kernel_rfl

@[go_sem] def q75_0 : List AI := [
 .j 3 (.mov (.t 0)),
 .j 4 (.len 0 (.t 3)),
 .j 2 (.mov (.t 4))]
@[go_sem] def q75_1 : List AI := [
 .j 5 (.mov (.t 0)),
 .j 6 (.mov (.t 2)),
 .j 7 (.mov (.t 2)),
 .j 8 (.conv .u64 (.t 7)),
 .j 9 (.call 80 [(.t 8)]),
 .j 10 (.call 79 [(.t 5), (.z 0), (.t 6), (.t 9)])]
@[go_sem] def slices_Sort_int_int_c : AC := .seq (.ops [q75_0]) (.ops [q75_1])
theorem slices_Sort_int_int_ok : compF Tryd.prog 75 = some (11, slices_Sort_int_int_c, []) := by kernel_rfl

@[go_sem] def q76_0 : List AI := [
 .j 2 (.mov (.c .nils))]
@[go_sem] def q76_1 : List AI := [
 .j 6 (.mov (.t 0)),
 .j 7 (.len 0 (.t 6)),
 .j 8 (.bin .lss (.t 7) (.z 2))]
@[go_sem] def q76_2 : List AI := [
 .j 9 (.mov (.t 0)),
 .j 2 (.mov (.t 9))]
@[go_sem] def q76_3 : List AI := [
 .j 3 (.mov (.z 1))]
@[go_sem] def q76_4 : List AI := [
 .j 10 (.mov (.t 3)),
 .j 11 (.mov (.t 0)),
 .j 12 (.len 0 (.t 11)),
 .j 13 (.bin .lss (.t 10) (.t 12))]
@[go_sem] def q76_5 : List AI := [
 .j 16 (.mov (.t 0)),
 .j 17 (.mov (.t 3)),
 .j 18 (.iaddr 1 (.t 16) (.t 17)),
 .j 19 (.load 1 false (.t 18)),
 .j 20 (.mov (.t 0)),
 .j 21 (.mov (.t 3)),
 .j 22 (.bin .sub (.t 21) (.z 1)),
 .j 23 (.iaddr 1 (.t 20) (.t 22)),
 .j 24 (.load 1 false (.t 23)),
 .j 25 (.bin .eql (.t 19) (.t 24))]
@[go_sem] def q76_6 : List AI := [
 .j 26 (.mov (.t 0)),
 .j 27 (.mov (.t 3)),
 .j 28 (.slc 1 (.t 26) (some (.t 27)) none),
 .j 4 (.mov (.t 28))]
@[go_sem] def q76_7 : List AI := [
 .j 5 (.mov (.z 1))]
@[go_sem] def q76_8 : List AI := [
 .j 29 (.mov (.t 5)),
 .j 30 (.mov (.t 4)),
 .j 31 (.len 0 (.t 30)),
 .j 32 (.bin .lss (.t 29) (.t 31))]
@[go_sem] def q76_9 : List AI := [
 .j 35 (.mov (.t 4)),
 .j 36 (.mov (.t 5)),
 .j 37 (.iaddr 1 (.t 35) (.t 36)),
 .j 38 (.load 1 false (.t 37)),
 .j 39 (.mov (.t 4)),
 .j 40 (.mov (.t 5)),
 .j 41 (.bin .sub (.t 40) (.z 1)),
 .j 42 (.iaddr 1 (.t 39) (.t 41)),
 .j 43 (.load 1 false (.t 42)),
 .j 44 (.bin .neq (.t 38) (.t 43))]
@[go_sem] def q76_10 : List AI := [
 .j 45 (.mov (.t 0)),
 .j 46 (.mov (.t 3)),
 .j 47 (.mov (.t 4)),
 .j 48 (.mov (.t 5)),
 .j 49 (.iaddr 1 (.t 47) (.t 48)),
 .j 50 (.load 1 false (.t 49)),
 .j 51 (.iaddr 1 (.t 45) (.t 46)),
 .e (.store 1 (.t 51) (.t 50))]
@[go_sem] def q76_11 : List AI := [
 .j 52 (.mov (.t 3)),
 .j 53 (.bin .add (.t 52) (.z 1)),
 .j 3 (.mov (.t 53))]
@[go_sem] def q76_12 : List AI := [
 .j 33 (.mov (.t 5)),
 .j 34 (.bin .add (.t 33) (.z 1)),
 .j 5 (.mov (.t 34))]
@[go_sem] def slices_Compact_int_int_l1' : AC := .seq (.seq (.ops [q76_8]) (.cond (.t 32) (.skip) (.exit 2))) (.seq (.block 3 (.seq (.ops [q76_9]) (.cond (.t 44) (.seq (.ops [q76_10]) (.ops [q76_11])) (.skip)))) (.ops [q76_12]))
def slices_Compact_int_int_l1 : AC := slices_Compact_int_int_l1'
theorem slices_Compact_int_int_l1_eq : slices_Compact_int_int_l1 = slices_Compact_int_int_l1' := rfl
@[go_sem] def q76_13 : List AI := [
 .j 54 (.mov (.t 0)),
 .j 55 (.mov (.t 3)),
 .j 56 (.slc 1 (.t 54) (some (.t 55)) none),
 .e (.clr [(.int .i64 0)] (.t 56))]
@[go_sem] def q76_14 : List AI := [
 .j 57 (.mov (.t 0)),
 .j 58 (.mov (.t 3)),
 .j 59 (.slc 1 (.t 57) none (some (.t 58))),
 .j 2 (.mov (.t 59))]
@[go_sem] def q76_15 : List AI := [
 .j 14 (.mov (.t 3)),
 .j 15 (.bin .add (.t 14) (.z 1)),
 .j 3 (.mov (.t 15))]
@[go_sem] def slices_Compact_int_int_l0' : AC := .seq (.seq (.ops [q76_4]) (.cond (.t 13) (.skip) (.exit 0))) (.seq (.block 1 (.seq (.ops [q76_5]) (.cond (.t 25) (.seq (.ops [q76_6]) (.seq (.seq (.ops [q76_7]) (.block 2 (.loop slices_Compact_int_int_l1))) (.seq (.ops [q76_13]) (.seq (.ops [q76_14]) (.ret))))) (.skip)))) (.ops [q76_15]))
def slices_Compact_int_int_l0 : AC := slices_Compact_int_int_l0'
theorem slices_Compact_int_int_l0_eq : slices_Compact_int_int_l0 = slices_Compact_int_int_l0' := rfl
@[go_sem] def q76_16 : List AI := [
 .j 60 (.mov (.t 0)),
 .j 2 (.mov (.t 60))]
@[go_sem] def slices_Compact_int_int_c : AC := .seq (.ops [q76_0]) (.seq (.seq (.ops [q76_1]) (.cond (.t 8) (.seq (.ops [q76_2]) (.ret)) (.skip))) (.seq (.seq (.ops [q76_3]) (.block 0 (.loop slices_Compact_int_int_l0))) (.seq (.ops [q76_16]) (.ret))))
theorem slices_Compact_int_int_ok : compF Tryd.prog 76 = some (61, slices_Compact_int_int_c, [.t 2]) := by kernel_rfl



/-- The functions by number. -/
def exT : List (FuncId × Nat × AC × List RV) := [
  (3, 73, scriptinglaw40_DumpDistinct_c, [.t 6]),
  (4, 11, scriptinglaw40_large_c, [.t 2]),
  (5, 78, scriptinglaw40_awake_c, [.t 0]),
  (6, 41, dump_Put_c, [.t 2, .t 3]),
  (7, 33, scriptingref33_Same_c, [.t 4]),
  (8, 71, dump_Get_c, [.c 2 11 true, .t 3]),
  (9, 6, scriptingref33_Count_c, [.t 2]),
  (10, 23, scriptingref33_Size_c, [.t 2]),
  (11, 5, scriptinglaw40_small_c, [.c 0 11 true]),
  (12, 19, dump_Sum_c, [.t 2]),
  (13, 16, proto_Check_c, [.c 2 1 false]),
  (14, 181, dump_writer_function_c, []),
  (15, 44, scriptingref33_Each_c, [.t 2]),
  (16, 185, scriptingref33_one_c, [.t 4]),
  (17, 20, dump_decode_c, [.c 2 11 true, .c 3 1 false]),
  (18, 20, proto_depth_c, [.t 2]),
  (19, 4, proto_Each_c, [.t 2]),
  (20, 74, proto_single_c, [.t 2]),
  (21, 17, dump_writer_str_c, []),
  (22, 23, dump_writer_num_c, []),
  (23, 23, dump_writer_truth_c, []),
  (24, 43, dump_writer_value_c, []),
  (25, 19, dump_decode_1_c, []),
  (26, 119, dump_reader_function_c, [.c 4 11 true]),
  (27, 7, dump_reader_fail_c, []),
  (28, 7, proto_Each_1_c, []),
  (29, 23, proto_walk_c, [.t 4]),
  (30, 42, proto_copied_c, [.c 2 11 true]),
  (31, 53, proto_limits_c, [.t 2]),
  (32, 118, proto_form_c, [.t 2]),
  (33, 60, proto_instruction_c, [.t 4]),
  (34, 8, dump_reader_str_c, [.t 2]),
  (35, 24, dump_reader_num_c, [.t 2]),
  (36, 14, dump_reader_truth_c, [.t 2]),
  (37, 22, dump_reader_length_c, [.t 2]),
  (38, 37, dump_reader_value_c, [.c 2 5 true]),
  (39, 8, slices_Clone_api_Instr_api_Instr_c, [.t 2]),
  (40, 8, slices_Clone_int_int_c, [.t 2]),
  (41, 8, slices_Clone_api_Value_api_Value_c, [.t 2]),
  (42, 8, slices_Clone_api_Up_api_Up_c, [.t 2]),
  (43, 8, slices_Clone_api_Var_api_Var_c, [.t 2]),
  (44, 6, proto_limits_1_c, [.t 2]),
  (45, 9, slices_ContainsFunc_api_Up_api_Up_c, [.t 4]),
  (46, 8, proto_limits_2_c, [.t 3]),
  (47, 9, slices_ContainsFunc_api_Var_api_Var_c, [.t 4]),
  (48, 8, proto_limits_3_c, [.t 3]),
  (49, 9, slices_ContainsFunc_int_int_c, [.t 4]),
  (50, 5, proto_form_1_c, [.t 2]),
  (51, 6, proto_form_2_c, [.t 2]),
  (52, 74, value_Valid_c, [.t 2]),
  (53, 85, opcode_Check_c, [.t 2]),
  (54, 88, opcode_Reads_c, [.t 2, .t 3]),
  (55, 92, opcode_Writes_c, [.t 2, .t 3]),
  (56, 17, proto_within_c, [.t 6]),
  (57, 14, opcode_Target_c, [.t 2, .t 3]),
  (58, 63, proto_refers_c, [.t 4]),
  (59, 31, dump_reader_take_c, [.t 4]),
  (60, 19, slices_IndexFunc_api_Up_api_Up_c, [.t 4]),
  (61, 19, slices_IndexFunc_api_Var_api_Var_c, [.t 4]),
  (62, 19, slices_IndexFunc_int_int_c, [.t 4]),
  (63, 33, rational_Valid_c, [.t 2]),
  (64, 25, opcode_of_c, [.c 2 6 true, .t 3]),
  (65, 24, opcode_fields_c, [.c 4 4 true, .c 5 4 true]),
  (66, 29, opcode_between_c, [.t 2, .t 3]),
  (67, 53, opcode_last_c, [.t 4]),
  (68, 7, opcode_sorted_c, [.t 2]),
  (69, 23, opcode_span_c, [.t 4, .t 5]),
  (70, 8, proto_within_1_c, [.t 3]),
  (71, 22, proto_constant_c, [.t 2, .t 3]),
  (72, 12, rational_gcd_c, [.t 4]),
  (73, 106, strings_Fields_c, [.t 2]),
  (74, 75, opcode_shape_c, [.c 2 6 true]),
  (75, 11, slices_Sort_int_int_c, []),
  (76, 61, slices_Compact_int_int_c, [.t 2])]
theorem exT_ok : TabOK Tryd.prog exT := 
  (TabOK.cons scriptinglaw40_DumpDistinct_ok 
  (TabOK.cons scriptinglaw40_large_ok 
  (TabOK.cons scriptinglaw40_awake_ok 
  (TabOK.cons dump_Put_ok 
  (TabOK.cons scriptingref33_Same_ok 
  (TabOK.cons dump_Get_ok 
  (TabOK.cons scriptingref33_Count_ok 
  (TabOK.cons scriptingref33_Size_ok 
  (TabOK.cons scriptinglaw40_small_ok 
  (TabOK.cons dump_Sum_ok 
  (TabOK.cons proto_Check_ok 
  (TabOK.cons dump_writer_function_ok 
  (TabOK.cons scriptingref33_Each_ok 
  (TabOK.cons scriptingref33_one_ok 
  (TabOK.cons dump_decode_ok 
  (TabOK.cons proto_depth_ok 
  (TabOK.cons proto_Each_ok 
  (TabOK.cons proto_single_ok 
  (TabOK.cons dump_writer_str_ok 
  (TabOK.cons dump_writer_num_ok 
  (TabOK.cons dump_writer_truth_ok 
  (TabOK.cons dump_writer_value_ok 
  (TabOK.cons dump_decode_1_ok 
  (TabOK.cons dump_reader_function_ok 
  (TabOK.cons dump_reader_fail_ok 
  (TabOK.cons proto_Each_1_ok 
  (TabOK.cons proto_walk_ok 
  (TabOK.cons proto_copied_ok 
  (TabOK.cons proto_limits_ok 
  (TabOK.cons proto_form_ok 
  (TabOK.cons proto_instruction_ok 
  (TabOK.cons dump_reader_str_ok 
  (TabOK.cons dump_reader_num_ok 
  (TabOK.cons dump_reader_truth_ok 
  (TabOK.cons dump_reader_length_ok 
  (TabOK.cons dump_reader_value_ok 
  (TabOK.cons slices_Clone_api_Instr_api_Instr_ok 
  (TabOK.cons slices_Clone_int_int_ok 
  (TabOK.cons slices_Clone_api_Value_api_Value_ok 
  (TabOK.cons slices_Clone_api_Up_api_Up_ok 
  (TabOK.cons slices_Clone_api_Var_api_Var_ok 
  (TabOK.cons proto_limits_1_ok 
  (TabOK.cons slices_ContainsFunc_api_Up_api_Up_ok 
  (TabOK.cons proto_limits_2_ok 
  (TabOK.cons slices_ContainsFunc_api_Var_api_Var_ok 
  (TabOK.cons proto_limits_3_ok 
  (TabOK.cons slices_ContainsFunc_int_int_ok 
  (TabOK.cons proto_form_1_ok 
  (TabOK.cons proto_form_2_ok 
  (TabOK.cons value_Valid_ok 
  (TabOK.cons opcode_Check_ok 
  (TabOK.cons opcode_Reads_ok 
  (TabOK.cons opcode_Writes_ok 
  (TabOK.cons proto_within_ok 
  (TabOK.cons opcode_Target_ok 
  (TabOK.cons proto_refers_ok 
  (TabOK.cons dump_reader_take_ok 
  (TabOK.cons slices_IndexFunc_api_Up_api_Up_ok 
  (TabOK.cons slices_IndexFunc_api_Var_api_Var_ok 
  (TabOK.cons slices_IndexFunc_int_int_ok 
  (TabOK.cons rational_Valid_ok 
  (TabOK.cons opcode_of_ok 
  (TabOK.cons opcode_fields_ok 
  (TabOK.cons opcode_between_ok 
  (TabOK.cons opcode_last_ok 
  (TabOK.cons opcode_sorted_ok 
  (TabOK.cons opcode_span_ok 
  (TabOK.cons proto_within_1_ok 
  (TabOK.cons proto_constant_ok 
  (TabOK.cons rational_gcd_ok 
  (TabOK.cons strings_Fields_ok 
  (TabOK.cons opcode_shape_ok 
  (TabOK.cons slices_Sort_int_int_ok 
  (TabOK.cons slices_Compact_int_int_ok TabOK.nil))))))))))))))))))))))))))))))))))))))))))))))))))))))))))))))))))))))))))

end Go.Proofs.YtkjcokmbjdafnaaDoor
