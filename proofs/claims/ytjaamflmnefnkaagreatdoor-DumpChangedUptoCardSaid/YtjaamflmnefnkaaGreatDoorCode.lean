/-
  The code of the functions that this seat reaches, translated into abstract code (printed by a program, each proved to be the translation). No condition.
-/
import Derived.Test.YtjaamflmnefnkaaGreatDoorCodeA
import Derived.Test.YtjaamflmnefnkaaGreatDoorChecked
set_option maxRecDepth 1000000
namespace Go.Proofs.YtjaamflmnefnkaaGreatDoor
open Go.Abs
@[go_sem] def q66_0 : List AI := [
 .j 4 (.mov (.z 0))]
@[go_sem] def q66_1 : List AI := [
 .j 6 (.mov (.t 0)),
 .j 7 (.len 0 (.t 6)),
 .j 8 (.mov (.z 0))]
@[go_sem] def q66_2 : List AI := [
 .j 9 (.bin .lss (.t 8) (.t 7))]
@[go_sem] def q66_3 : List AI := [
 .j 10 (.mov (.t 8)),
 .j 5 (.mov (.t 10))]
@[go_sem] def q66_4 : List AI := [
 .j 11 (.mov (.t 1)),
 .j 12 (.mov (.t 0)),
 .j 13 (.mov (.t 5)),
 .j 14 (.iaddr 5 (.t 12) (.t 13)),
 .j 15 (.load 5 true (.t 14)),
 .j 16 (.callv (.t 11) [(.t 15)])]
@[go_sem] def q66_5 : List AI := [
 .j 17 (.mov (.t 5)),
 .j 4 (.mov (.t 17))]
@[go_sem] def q66_6 : List AI := [
 .j 18 (.bin .add (.t 8) (.z 1)),
 .j 8 (.mov (.t 18))]
@[go_sem] def slices_IndexFunc_api_Var_api_Var_l0' : AC := .seq (.ops [q66_2]) (.seq (.cond (.t 9) (.skip) (.exit 0)) (.seq (.block 1 (.seq (.ops [q66_3]) (.seq (.ops [q66_4]) (.cond (.t 16) (.seq (.ops [q66_5]) (.ret)) (.skip))))) (.ops [q66_6])))
def slices_IndexFunc_api_Var_api_Var_l0 : AC := slices_IndexFunc_api_Var_api_Var_l0'
theorem slices_IndexFunc_api_Var_api_Var_l0_eq : slices_IndexFunc_api_Var_api_Var_l0 = slices_IndexFunc_api_Var_api_Var_l0' := rfl
@[go_sem] def q66_7 : List AI := [
 .j 4 (.mov (.z (-1)))]
@[go_sem] def slices_IndexFunc_api_Var_api_Var_c : AC := .seq (.ops [q66_0]) (.seq (.seq (.ops [q66_1]) (.block 0 (.loop slices_IndexFunc_api_Var_api_Var_l0))) (.seq (.ops [q66_7]) (.ret)))
theorem slices_IndexFunc_api_Var_api_Var_ok : compF Tryz.prog 66 = some (19, slices_IndexFunc_api_Var_api_Var_c, [.t 4]) := by kernel_rfl

@[go_sem] def q67_0 : List AI := [
 .j 4 (.mov (.z 0))]
@[go_sem] def q67_1 : List AI := [
 .j 6 (.mov (.t 0)),
 .j 7 (.len 0 (.t 6)),
 .j 8 (.mov (.z 0))]
@[go_sem] def q67_2 : List AI := [
 .j 9 (.bin .lss (.t 8) (.t 7))]
@[go_sem] def q67_3 : List AI := [
 .j 10 (.mov (.t 8)),
 .j 5 (.mov (.t 10))]
@[go_sem] def q67_4 : List AI := [
 .j 11 (.mov (.t 1)),
 .j 12 (.mov (.t 0)),
 .j 13 (.mov (.t 5)),
 .j 14 (.iaddr 1 (.t 12) (.t 13)),
 .j 15 (.load 1 false (.t 14)),
 .j 16 (.callv (.t 11) [(.t 15)])]
@[go_sem] def q67_5 : List AI := [
 .j 17 (.mov (.t 5)),
 .j 4 (.mov (.t 17))]
@[go_sem] def q67_6 : List AI := [
 .j 18 (.bin .add (.t 8) (.z 1)),
 .j 8 (.mov (.t 18))]
@[go_sem] def slices_IndexFunc_int_int_l0' : AC := .seq (.ops [q67_2]) (.seq (.cond (.t 9) (.skip) (.exit 0)) (.seq (.block 1 (.seq (.ops [q67_3]) (.seq (.ops [q67_4]) (.cond (.t 16) (.seq (.ops [q67_5]) (.ret)) (.skip))))) (.ops [q67_6])))
def slices_IndexFunc_int_int_l0 : AC := slices_IndexFunc_int_int_l0'
theorem slices_IndexFunc_int_int_l0_eq : slices_IndexFunc_int_int_l0 = slices_IndexFunc_int_int_l0' := rfl
@[go_sem] def q67_7 : List AI := [
 .j 4 (.mov (.z (-1)))]
@[go_sem] def slices_IndexFunc_int_int_c : AC := .seq (.ops [q67_0]) (.seq (.seq (.ops [q67_1]) (.block 0 (.loop slices_IndexFunc_int_int_l0))) (.seq (.ops [q67_7]) (.ret)))
theorem slices_IndexFunc_int_int_ok : compF Tryz.prog 67 = some (19, slices_IndexFunc_int_int_c, [.t 4]) := by kernel_rfl

@[go_sem] def q68_0 : List AI := [
 .j 1 (.box 680001 2 (.t 0)),
 .j 2 (.mov (.c (.bool false)))]
@[go_sem] def q68_1 : List AI := [
 .j 3 (.faddr 1 (.t 1)),
 .j 4 (.load 1 false (.t 3)),
 .j 5 (.bin .geq (.t 4) (.z 1)),
 .j 6 (.mov (.t 5)),
 .k 7 6 true (.faddr 1 (.t 1)),
 .k 8 6 true (.load 1 false (.t 7)),
 .k 9 6 true (.bin .leq (.t 8) (.z 2147483647)),
 .j 10 (.pick (.t 6) (.t 9) (.c (.bool false))),
 .j 11 (.mov (.t 10)),
 .k 12 11 true (.faddr 0 (.t 1)),
 .k 13 11 true (.load 1 false (.t 12)),
 .k 14 11 true (.bin .geq (.t 13) (.z (-2147483647))),
 .j 15 (.pick (.t 11) (.t 14) (.c (.bool false))),
 .j 16 (.mov (.t 15)),
 .k 17 16 true (.faddr 0 (.t 1)),
 .k 18 16 true (.load 1 false (.t 17)),
 .k 19 16 true (.bin .leq (.t 18) (.z 2147483647)),
 .j 20 (.pick (.t 16) (.t 19) (.c (.bool false))),
 .j 21 (.mov (.t 20)),
 .k 22 21 true (.faddr 0 (.t 1)),
 .k 23 21 true (.load 1 false (.t 22)),
 .k 24 21 true (.faddr 0 (.t 1)),
 .k 25 21 true (.load 1 false (.t 24)),
 .k 26 21 true (.un .neg (.t 25)),
 .k 27 21 true (.mm true [(.t 23), (.t 26)]),
 .k 28 21 true (.faddr 1 (.t 1)),
 .k 29 21 true (.load 1 false (.t 28)),
 .k 30 21 true (.call 80 [(.t 27), (.t 29)]),
 .k 31 21 true (.bin .eql (.t 30) (.z 1)),
 .j 32 (.pick (.t 21) (.t 31) (.c (.bool false))),
 .j 2 (.mov (.t 32))]
@[go_sem] def rational_Valid_c : AC := .seq (.ops [q68_0]) (.seq (.ops [q68_1]) (.ret))
theorem rational_Valid_ok : compF Tryz.prog 68 = some (33, rational_Valid_c, [.t 2]) := by kernel_rfl

@[go_sem] def q69_0 : List AI := [
 .j 2 (.box 690002 6 (.c (.agg [(.str []), (.int .i64 0), (.int .i64 0), (.int .i64 0), (.int .i64 0), (.int .i64 0)]))),
 .j 3 (.mov (.c (.bool false)))]
@[go_sem] def q69_1 : List AI := [
 .j 6 (.call 81 [(.c (.str [109, 111, 118, 101, 32, 99, 111, 110, 115, 116, 32, 110, 105, 108, 32, 98, 111, 111, 108, 32, 117, 112, 103, 101, 116, 32, 117, 112, 115, 101, 116, 32, 103, 108, 111, 98, 97, 108, 32, 115, 101, 116, 103, 108, 111, 98, 32, 103, 101, 116, 32, 115, 101, 116, 32, 115, 101, 108, 102, 32, 117, 110, 97, 114, 121, 32, 98, 105, 110, 97, 114, 121, 32, 106, 117, 109, 112, 32, 116, 101, 115, 116, 32, 99, 97, 108, 108, 32, 116, 97, 105, 108, 32, 114, 101, 116, 117, 114, 110, 32, 118, 97, 114, 97, 114, 103, 32, 116, 97, 98, 108, 101, 32, 97, 112, 112, 101, 110, 100, 32, 99, 108, 111, 115, 117, 114, 101, 32, 112, 114, 101, 112, 32, 108, 111, 111, 112, 32, 105, 116, 101, 114, 32, 110, 101, 120, 116, 32, 99, 108, 111, 115, 101, 32, 109, 97, 114, 107, 32, 115, 116, 97, 116]))]),
 .j 4 (.mov (.t 6))]
@[go_sem] def q69_2 : List AI := [
 .j 7 (.mov (.t 0)),
 .j 8 (.bin .lss (.t 7) (.z 1)),
 .j 9 (.mov (.t 8)),
 .k 10 9 false (.mov (.t 0)),
 .k 11 9 false (.mov (.t 4)),
 .k 12 9 false (.len 0 (.t 11)),
 .k 13 9 false (.bin .gtr (.t 10) (.t 12)),
 .j 14 (.pick (.t 9) (.c (.bool true)) (.t 13))]
@[go_sem] def q69_3 : List AI := [
 .j 15 (.build [(.str []), (.int .i64 0), (.int .i64 0), (.int .i64 0), (.int .i64 0), (.int .i64 0)] []),
 .e (.store 6 (.t 2) (.t 15)),
 .j 3 (.mov (.c (.bool false)))]
@[go_sem] def q69_4 : List AI := [
 .j 16 (.mov (.t 0)),
 .j 17 (.call 82 [(.t 16)]),
 .j 5 (.box 690005 6 (.c (.agg [(.str []), (.int .i64 0), (.int .i64 0), (.int .i64 0), (.int .i64 0), (.int .i64 0)]))),
 .e (.store 6 (.t 5) (.t 17))]
@[go_sem] def q69_5 : List AI := [
 .j 18 (.mov (.t 4)),
 .j 19 (.mov (.t 0)),
 .j 20 (.bin .sub (.t 19) (.z 1)),
 .j 21 (.iaddr 1 (.t 18) (.t 20)),
 .j 22 (.load 1 false (.t 21)),
 .j 23 (.faddr 0 (.t 5)),
 .e (.store 1 (.t 23) (.t 22))]
@[go_sem] def q69_6 : List AI := [
 .j 24 (.load 6 true (.t 5)),
 .e (.store 6 (.t 2) (.t 24)),
 .j 3 (.mov (.c (.bool true)))]
@[go_sem] def opcode_of_c : AC := .seq (.ops [q69_0]) (.seq (.ops [q69_1]) (.seq (.seq (.ops [q69_2]) (.cond (.t 14) (.seq (.ops [q69_3]) (.ret)) (.skip))) (.seq (.ops [q69_4]) (.seq (.ops [q69_5]) (.seq (.ops [q69_6]) (.ret))))))
theorem opcode_of_ok : compF Tryz.prog 69 = some (25, opcode_of_c, [.c 2 6 true, .t 3]) := by kernel_rfl

@[go_sem] def q70_0 : List AI := [
 .j 2 (.box 700002 6 (.t 0)),
 .j 3 (.box 700003 5 (.t 1)),
 .j 4 (.box 700004 4 (.c (.agg [(.int .i64 0), (.int .i64 0), (.int .i64 0), (.int .i64 0)]))),
 .j 5 (.box 700005 4 (.c (.agg [(.int .i64 0), (.int .i64 0), (.int .i64 0), (.int .i64 0)])))]
@[go_sem] def q70_1_0 : List AI := [
 .j 6 (.faddr 1 (.t 2)),
 .j 7 (.load 1 false (.t 6)),
 .j 8 (.faddr 2 (.t 2)),
 .j 9 (.load 1 false (.t 8)),
 .j 10 (.faddr 3 (.t 2)),
 .j 11 (.load 1 false (.t 10)),
 .j 12 (.faddr 4 (.t 2)),
 .j 13 (.load 1 false (.t 12)),
 .j 14 (.build [(.int .i64 0), (.int .i64 0), (.int .i64 0), (.int .i64 0)] [(0, 1, (.t 7)), (1, 1, (.t 9)), (2, 1, (.t 11)), (3, 1, (.t 13))]),
 .j 15 (.faddr 1 (.t 3)),
 .j 16 (.load 1 false (.t 15)),
 .j 17 (.faddr 2 (.t 3)),
 .j 18 (.load 1 false (.t 17)),
 .j 19 (.faddr 3 (.t 3)),
 .j 20 (.load 1 false (.t 19)),
 .j 21 (.faddr 4 (.t 3)),
 .j 22 (.load 1 false (.t 21)),
 .j 23 (.build [(.int .i64 0), (.int .i64 0), (.int .i64 0), (.int .i64 0)] [(0, 1, (.t 16)), (1, 1, (.t 18)), (2, 1, (.t 20)), (3, 1, (.t 22))]),
 .e (.store 4 (.t 4) (.t 14)),
 .e (.store 4 (.t 5) (.t 23))]
@[go_sem] def q70_1_1 : List AI := [
 .j 6 (.faddr 1 (.t 2)),
 .j 7 (.load 1 false (.t 6)),
 .j 8 (.faddr 2 (.t 2)),
 .j 9 (.load 1 false (.t 8)),
 .j 10 (.faddr 3 (.t 2)),
 .j 11 (.load 1 false (.t 10)),
 .j 12 (.faddr 4 (.t 2)),
 .j 13 (.load 1 false (.t 12)),
 .j 14 (.build [(.int .i64 0), (.int .i64 0), (.int .i64 0), (.int .i64 0)] [(0, 1, (.t 7)), (1, 1, (.t 9)), (2, 1, (.t 11)), (3, 1, (.t 13))]),
 .j 15 (.faddr 1 (.t 3)),
 .j 16 (.load 1 false (.t 15)),
 .j 17 (.faddr 2 (.t 3)),
 .j 18 (.load 1 false (.t 17)),
 .j 19 (.faddr 3 (.t 3)),
 .j 20 (.load 1 false (.t 19)),
 .j 21 (.faddr 4 (.t 3)),
 .e (.store 4 (.t 4) (.t 14)),
 .j 22 (.load 1 false (.t 21)),
 .j 23 (.build [(.int .i64 0), (.int .i64 0), (.int .i64 0), (.int .i64 0)] [(0, 1, (.t 16)), (1, 1, (.t 18)), (2, 1, (.t 20)), (3, 1, (.t 22))]),
 .e (.store 4 (.t 5) (.t 23))]
@[go_sem] def q70_1_2 : List AI := [
 .j 6 (.faddr 1 (.t 2)),
 .j 7 (.load 1 false (.t 6)),
 .j 8 (.faddr 2 (.t 2)),
 .j 9 (.load 1 false (.t 8)),
 .j 10 (.faddr 3 (.t 2)),
 .j 11 (.load 1 false (.t 10)),
 .j 12 (.faddr 4 (.t 2)),
 .j 13 (.load 1 false (.t 12)),
 .j 14 (.build [(.int .i64 0), (.int .i64 0), (.int .i64 0), (.int .i64 0)] [(0, 1, (.t 7)), (1, 1, (.t 9)), (2, 1, (.t 11)), (3, 1, (.t 13))]),
 .j 15 (.faddr 1 (.t 3)),
 .j 16 (.load 1 false (.t 15)),
 .j 17 (.faddr 2 (.t 3)),
 .j 18 (.load 1 false (.t 17)),
 .j 19 (.faddr 3 (.t 3)),
 .j 21 (.faddr 4 (.t 3)),
 .j 22 (.load 1 false (.t 21)),
 .e (.store 4 (.t 4) (.t 14)),
 .j 20 (.load 1 false (.t 19)),
 .j 23 (.build [(.int .i64 0), (.int .i64 0), (.int .i64 0), (.int .i64 0)] [(0, 1, (.t 16)), (1, 1, (.t 18)), (2, 1, (.t 20)), (3, 1, (.t 22))]),
 .e (.store 4 (.t 5) (.t 23))]
@[go_sem] def q70_1_3 : List AI := [
 .j 6 (.faddr 1 (.t 2)),
 .j 7 (.load 1 false (.t 6)),
 .j 8 (.faddr 2 (.t 2)),
 .j 9 (.load 1 false (.t 8)),
 .j 10 (.faddr 3 (.t 2)),
 .j 11 (.load 1 false (.t 10)),
 .j 12 (.faddr 4 (.t 2)),
 .j 13 (.load 1 false (.t 12)),
 .j 14 (.build [(.int .i64 0), (.int .i64 0), (.int .i64 0), (.int .i64 0)] [(0, 1, (.t 7)), (1, 1, (.t 9)), (2, 1, (.t 11)), (3, 1, (.t 13))]),
 .j 15 (.faddr 1 (.t 3)),
 .j 16 (.load 1 false (.t 15)),
 .j 17 (.faddr 2 (.t 3)),
 .j 18 (.load 1 false (.t 17)),
 .j 19 (.faddr 3 (.t 3)),
 .j 21 (.faddr 4 (.t 3)),
 .e (.store 4 (.t 4) (.t 14)),
 .j 20 (.load 1 false (.t 19)),
 .j 22 (.load 1 false (.t 21)),
 .j 23 (.build [(.int .i64 0), (.int .i64 0), (.int .i64 0), (.int .i64 0)] [(0, 1, (.t 16)), (1, 1, (.t 18)), (2, 1, (.t 20)), (3, 1, (.t 22))]),
 .e (.store 4 (.t 5) (.t 23))]
@[go_sem] def q70_1_4 : List AI := [
 .j 6 (.faddr 1 (.t 2)),
 .j 7 (.load 1 false (.t 6)),
 .j 8 (.faddr 2 (.t 2)),
 .j 9 (.load 1 false (.t 8)),
 .j 10 (.faddr 3 (.t 2)),
 .j 11 (.load 1 false (.t 10)),
 .j 12 (.faddr 4 (.t 2)),
 .j 13 (.load 1 false (.t 12)),
 .j 14 (.build [(.int .i64 0), (.int .i64 0), (.int .i64 0), (.int .i64 0)] [(0, 1, (.t 7)), (1, 1, (.t 9)), (2, 1, (.t 11)), (3, 1, (.t 13))]),
 .j 15 (.faddr 1 (.t 3)),
 .j 16 (.load 1 false (.t 15)),
 .j 17 (.faddr 2 (.t 3)),
 .j 19 (.faddr 3 (.t 3)),
 .j 20 (.load 1 false (.t 19)),
 .j 21 (.faddr 4 (.t 3)),
 .j 22 (.load 1 false (.t 21)),
 .e (.store 4 (.t 4) (.t 14)),
 .j 18 (.load 1 false (.t 17)),
 .j 23 (.build [(.int .i64 0), (.int .i64 0), (.int .i64 0), (.int .i64 0)] [(0, 1, (.t 16)), (1, 1, (.t 18)), (2, 1, (.t 20)), (3, 1, (.t 22))]),
 .e (.store 4 (.t 5) (.t 23))]
@[go_sem] def q70_1_5 : List AI := [
 .j 6 (.faddr 1 (.t 2)),
 .j 7 (.load 1 false (.t 6)),
 .j 8 (.faddr 2 (.t 2)),
 .j 9 (.load 1 false (.t 8)),
 .j 10 (.faddr 3 (.t 2)),
 .j 11 (.load 1 false (.t 10)),
 .j 12 (.faddr 4 (.t 2)),
 .j 13 (.load 1 false (.t 12)),
 .j 14 (.build [(.int .i64 0), (.int .i64 0), (.int .i64 0), (.int .i64 0)] [(0, 1, (.t 7)), (1, 1, (.t 9)), (2, 1, (.t 11)), (3, 1, (.t 13))]),
 .j 15 (.faddr 1 (.t 3)),
 .j 16 (.load 1 false (.t 15)),
 .j 17 (.faddr 2 (.t 3)),
 .j 19 (.faddr 3 (.t 3)),
 .j 20 (.load 1 false (.t 19)),
 .j 21 (.faddr 4 (.t 3)),
 .e (.store 4 (.t 4) (.t 14)),
 .j 18 (.load 1 false (.t 17)),
 .j 22 (.load 1 false (.t 21)),
 .j 23 (.build [(.int .i64 0), (.int .i64 0), (.int .i64 0), (.int .i64 0)] [(0, 1, (.t 16)), (1, 1, (.t 18)), (2, 1, (.t 20)), (3, 1, (.t 22))]),
 .e (.store 4 (.t 5) (.t 23))]
@[go_sem] def q70_1_6 : List AI := [
 .j 6 (.faddr 1 (.t 2)),
 .j 7 (.load 1 false (.t 6)),
 .j 8 (.faddr 2 (.t 2)),
 .j 9 (.load 1 false (.t 8)),
 .j 10 (.faddr 3 (.t 2)),
 .j 11 (.load 1 false (.t 10)),
 .j 12 (.faddr 4 (.t 2)),
 .j 13 (.load 1 false (.t 12)),
 .j 14 (.build [(.int .i64 0), (.int .i64 0), (.int .i64 0), (.int .i64 0)] [(0, 1, (.t 7)), (1, 1, (.t 9)), (2, 1, (.t 11)), (3, 1, (.t 13))]),
 .j 15 (.faddr 1 (.t 3)),
 .j 16 (.load 1 false (.t 15)),
 .j 17 (.faddr 2 (.t 3)),
 .j 19 (.faddr 3 (.t 3)),
 .j 21 (.faddr 4 (.t 3)),
 .j 22 (.load 1 false (.t 21)),
 .e (.store 4 (.t 4) (.t 14)),
 .j 18 (.load 1 false (.t 17)),
 .j 20 (.load 1 false (.t 19)),
 .j 23 (.build [(.int .i64 0), (.int .i64 0), (.int .i64 0), (.int .i64 0)] [(0, 1, (.t 16)), (1, 1, (.t 18)), (2, 1, (.t 20)), (3, 1, (.t 22))]),
 .e (.store 4 (.t 5) (.t 23))]
@[go_sem] def q70_1_7 : List AI := [
 .j 6 (.faddr 1 (.t 2)),
 .j 7 (.load 1 false (.t 6)),
 .j 8 (.faddr 2 (.t 2)),
 .j 9 (.load 1 false (.t 8)),
 .j 10 (.faddr 3 (.t 2)),
 .j 11 (.load 1 false (.t 10)),
 .j 12 (.faddr 4 (.t 2)),
 .j 13 (.load 1 false (.t 12)),
 .j 14 (.build [(.int .i64 0), (.int .i64 0), (.int .i64 0), (.int .i64 0)] [(0, 1, (.t 7)), (1, 1, (.t 9)), (2, 1, (.t 11)), (3, 1, (.t 13))]),
 .j 15 (.faddr 1 (.t 3)),
 .j 16 (.load 1 false (.t 15)),
 .j 17 (.faddr 2 (.t 3)),
 .j 19 (.faddr 3 (.t 3)),
 .j 21 (.faddr 4 (.t 3)),
 .e (.store 4 (.t 4) (.t 14)),
 .j 18 (.load 1 false (.t 17)),
 .j 20 (.load 1 false (.t 19)),
 .j 22 (.load 1 false (.t 21)),
 .j 23 (.build [(.int .i64 0), (.int .i64 0), (.int .i64 0), (.int .i64 0)] [(0, 1, (.t 16)), (1, 1, (.t 18)), (2, 1, (.t 20)), (3, 1, (.t 22))]),
 .e (.store 4 (.t 5) (.t 23))]
@[go_sem] def q70_1_8 : List AI := [
 .j 6 (.faddr 1 (.t 2)),
 .j 7 (.load 1 false (.t 6)),
 .j 8 (.faddr 2 (.t 2)),
 .j 9 (.load 1 false (.t 8)),
 .j 10 (.faddr 3 (.t 2)),
 .j 11 (.load 1 false (.t 10)),
 .j 12 (.faddr 4 (.t 2)),
 .j 13 (.load 1 false (.t 12)),
 .j 14 (.build [(.int .i64 0), (.int .i64 0), (.int .i64 0), (.int .i64 0)] [(0, 1, (.t 7)), (1, 1, (.t 9)), (2, 1, (.t 11)), (3, 1, (.t 13))]),
 .j 15 (.faddr 1 (.t 3)),
 .j 17 (.faddr 2 (.t 3)),
 .j 18 (.load 1 false (.t 17)),
 .j 19 (.faddr 3 (.t 3)),
 .j 20 (.load 1 false (.t 19)),
 .j 21 (.faddr 4 (.t 3)),
 .j 22 (.load 1 false (.t 21)),
 .e (.store 4 (.t 4) (.t 14)),
 .j 16 (.load 1 false (.t 15)),
 .j 23 (.build [(.int .i64 0), (.int .i64 0), (.int .i64 0), (.int .i64 0)] [(0, 1, (.t 16)), (1, 1, (.t 18)), (2, 1, (.t 20)), (3, 1, (.t 22))]),
 .e (.store 4 (.t 5) (.t 23))]
@[go_sem] def q70_1_9 : List AI := [
 .j 6 (.faddr 1 (.t 2)),
 .j 7 (.load 1 false (.t 6)),
 .j 8 (.faddr 2 (.t 2)),
 .j 9 (.load 1 false (.t 8)),
 .j 10 (.faddr 3 (.t 2)),
 .j 11 (.load 1 false (.t 10)),
 .j 12 (.faddr 4 (.t 2)),
 .j 13 (.load 1 false (.t 12)),
 .j 14 (.build [(.int .i64 0), (.int .i64 0), (.int .i64 0), (.int .i64 0)] [(0, 1, (.t 7)), (1, 1, (.t 9)), (2, 1, (.t 11)), (3, 1, (.t 13))]),
 .j 15 (.faddr 1 (.t 3)),
 .j 17 (.faddr 2 (.t 3)),
 .j 18 (.load 1 false (.t 17)),
 .j 19 (.faddr 3 (.t 3)),
 .j 20 (.load 1 false (.t 19)),
 .j 21 (.faddr 4 (.t 3)),
 .e (.store 4 (.t 4) (.t 14)),
 .j 16 (.load 1 false (.t 15)),
 .j 22 (.load 1 false (.t 21)),
 .j 23 (.build [(.int .i64 0), (.int .i64 0), (.int .i64 0), (.int .i64 0)] [(0, 1, (.t 16)), (1, 1, (.t 18)), (2, 1, (.t 20)), (3, 1, (.t 22))]),
 .e (.store 4 (.t 5) (.t 23))]
@[go_sem] def q70_1_10 : List AI := [
 .j 6 (.faddr 1 (.t 2)),
 .j 7 (.load 1 false (.t 6)),
 .j 8 (.faddr 2 (.t 2)),
 .j 9 (.load 1 false (.t 8)),
 .j 10 (.faddr 3 (.t 2)),
 .j 11 (.load 1 false (.t 10)),
 .j 12 (.faddr 4 (.t 2)),
 .j 13 (.load 1 false (.t 12)),
 .j 14 (.build [(.int .i64 0), (.int .i64 0), (.int .i64 0), (.int .i64 0)] [(0, 1, (.t 7)), (1, 1, (.t 9)), (2, 1, (.t 11)), (3, 1, (.t 13))]),
 .j 15 (.faddr 1 (.t 3)),
 .j 17 (.faddr 2 (.t 3)),
 .j 18 (.load 1 false (.t 17)),
 .j 19 (.faddr 3 (.t 3)),
 .j 21 (.faddr 4 (.t 3)),
 .j 22 (.load 1 false (.t 21)),
 .e (.store 4 (.t 4) (.t 14)),
 .j 16 (.load 1 false (.t 15)),
 .j 20 (.load 1 false (.t 19)),
 .j 23 (.build [(.int .i64 0), (.int .i64 0), (.int .i64 0), (.int .i64 0)] [(0, 1, (.t 16)), (1, 1, (.t 18)), (2, 1, (.t 20)), (3, 1, (.t 22))]),
 .e (.store 4 (.t 5) (.t 23))]
@[go_sem] def q70_1_11 : List AI := [
 .j 6 (.faddr 1 (.t 2)),
 .j 7 (.load 1 false (.t 6)),
 .j 8 (.faddr 2 (.t 2)),
 .j 9 (.load 1 false (.t 8)),
 .j 10 (.faddr 3 (.t 2)),
 .j 11 (.load 1 false (.t 10)),
 .j 12 (.faddr 4 (.t 2)),
 .j 13 (.load 1 false (.t 12)),
 .j 14 (.build [(.int .i64 0), (.int .i64 0), (.int .i64 0), (.int .i64 0)] [(0, 1, (.t 7)), (1, 1, (.t 9)), (2, 1, (.t 11)), (3, 1, (.t 13))]),
 .j 15 (.faddr 1 (.t 3)),
 .j 17 (.faddr 2 (.t 3)),
 .j 18 (.load 1 false (.t 17)),
 .j 19 (.faddr 3 (.t 3)),
 .j 21 (.faddr 4 (.t 3)),
 .e (.store 4 (.t 4) (.t 14)),
 .j 16 (.load 1 false (.t 15)),
 .j 20 (.load 1 false (.t 19)),
 .j 22 (.load 1 false (.t 21)),
 .j 23 (.build [(.int .i64 0), (.int .i64 0), (.int .i64 0), (.int .i64 0)] [(0, 1, (.t 16)), (1, 1, (.t 18)), (2, 1, (.t 20)), (3, 1, (.t 22))]),
 .e (.store 4 (.t 5) (.t 23))]
@[go_sem] def q70_1_12 : List AI := [
 .j 6 (.faddr 1 (.t 2)),
 .j 7 (.load 1 false (.t 6)),
 .j 8 (.faddr 2 (.t 2)),
 .j 9 (.load 1 false (.t 8)),
 .j 10 (.faddr 3 (.t 2)),
 .j 11 (.load 1 false (.t 10)),
 .j 12 (.faddr 4 (.t 2)),
 .j 13 (.load 1 false (.t 12)),
 .j 14 (.build [(.int .i64 0), (.int .i64 0), (.int .i64 0), (.int .i64 0)] [(0, 1, (.t 7)), (1, 1, (.t 9)), (2, 1, (.t 11)), (3, 1, (.t 13))]),
 .j 15 (.faddr 1 (.t 3)),
 .j 17 (.faddr 2 (.t 3)),
 .j 19 (.faddr 3 (.t 3)),
 .j 20 (.load 1 false (.t 19)),
 .j 21 (.faddr 4 (.t 3)),
 .j 22 (.load 1 false (.t 21)),
 .e (.store 4 (.t 4) (.t 14)),
 .j 16 (.load 1 false (.t 15)),
 .j 18 (.load 1 false (.t 17)),
 .j 23 (.build [(.int .i64 0), (.int .i64 0), (.int .i64 0), (.int .i64 0)] [(0, 1, (.t 16)), (1, 1, (.t 18)), (2, 1, (.t 20)), (3, 1, (.t 22))]),
 .e (.store 4 (.t 5) (.t 23))]
@[go_sem] def q70_1_13 : List AI := [
 .j 6 (.faddr 1 (.t 2)),
 .j 7 (.load 1 false (.t 6)),
 .j 8 (.faddr 2 (.t 2)),
 .j 9 (.load 1 false (.t 8)),
 .j 10 (.faddr 3 (.t 2)),
 .j 11 (.load 1 false (.t 10)),
 .j 12 (.faddr 4 (.t 2)),
 .j 13 (.load 1 false (.t 12)),
 .j 14 (.build [(.int .i64 0), (.int .i64 0), (.int .i64 0), (.int .i64 0)] [(0, 1, (.t 7)), (1, 1, (.t 9)), (2, 1, (.t 11)), (3, 1, (.t 13))]),
 .j 15 (.faddr 1 (.t 3)),
 .j 17 (.faddr 2 (.t 3)),
 .j 19 (.faddr 3 (.t 3)),
 .j 20 (.load 1 false (.t 19)),
 .j 21 (.faddr 4 (.t 3)),
 .e (.store 4 (.t 4) (.t 14)),
 .j 16 (.load 1 false (.t 15)),
 .j 18 (.load 1 false (.t 17)),
 .j 22 (.load 1 false (.t 21)),
 .j 23 (.build [(.int .i64 0), (.int .i64 0), (.int .i64 0), (.int .i64 0)] [(0, 1, (.t 16)), (1, 1, (.t 18)), (2, 1, (.t 20)), (3, 1, (.t 22))]),
 .e (.store 4 (.t 5) (.t 23))]
@[go_sem] def q70_1_14 : List AI := [
 .j 6 (.faddr 1 (.t 2)),
 .j 7 (.load 1 false (.t 6)),
 .j 8 (.faddr 2 (.t 2)),
 .j 9 (.load 1 false (.t 8)),
 .j 10 (.faddr 3 (.t 2)),
 .j 11 (.load 1 false (.t 10)),
 .j 12 (.faddr 4 (.t 2)),
 .j 13 (.load 1 false (.t 12)),
 .j 14 (.build [(.int .i64 0), (.int .i64 0), (.int .i64 0), (.int .i64 0)] [(0, 1, (.t 7)), (1, 1, (.t 9)), (2, 1, (.t 11)), (3, 1, (.t 13))]),
 .j 15 (.faddr 1 (.t 3)),
 .j 17 (.faddr 2 (.t 3)),
 .j 19 (.faddr 3 (.t 3)),
 .j 21 (.faddr 4 (.t 3)),
 .j 22 (.load 1 false (.t 21)),
 .e (.store 4 (.t 4) (.t 14)),
 .j 16 (.load 1 false (.t 15)),
 .j 18 (.load 1 false (.t 17)),
 .j 20 (.load 1 false (.t 19)),
 .j 23 (.build [(.int .i64 0), (.int .i64 0), (.int .i64 0), (.int .i64 0)] [(0, 1, (.t 16)), (1, 1, (.t 18)), (2, 1, (.t 20)), (3, 1, (.t 22))]),
 .e (.store 4 (.t 5) (.t 23))]
@[go_sem] def q70_1_15 : List AI := [
 .j 6 (.faddr 1 (.t 2)),
 .j 7 (.load 1 false (.t 6)),
 .j 8 (.faddr 2 (.t 2)),
 .j 9 (.load 1 false (.t 8)),
 .j 10 (.faddr 3 (.t 2)),
 .j 11 (.load 1 false (.t 10)),
 .j 12 (.faddr 4 (.t 2)),
 .j 13 (.load 1 false (.t 12)),
 .j 14 (.build [(.int .i64 0), (.int .i64 0), (.int .i64 0), (.int .i64 0)] [(0, 1, (.t 7)), (1, 1, (.t 9)), (2, 1, (.t 11)), (3, 1, (.t 13))]),
 .j 15 (.faddr 1 (.t 3)),
 .j 17 (.faddr 2 (.t 3)),
 .j 19 (.faddr 3 (.t 3)),
 .j 21 (.faddr 4 (.t 3)),
 .e (.store 4 (.t 4) (.t 14)),
 .j 16 (.load 1 false (.t 15)),
 .j 18 (.load 1 false (.t 17)),
 .j 20 (.load 1 false (.t 19)),
 .j 22 (.load 1 false (.t 21)),
 .j 23 (.build [(.int .i64 0), (.int .i64 0), (.int .i64 0), (.int .i64 0)] [(0, 1, (.t 16)), (1, 1, (.t 18)), (2, 1, (.t 20)), (3, 1, (.t 22))]),
 .e (.store 4 (.t 5) (.t 23))]
@[go_sem] def opcode_fields_c : AC := .seq (.ops [q70_0]) (.seq (.ops [q70_1_0, q70_1_1, q70_1_2, q70_1_3, q70_1_4, q70_1_5, q70_1_6, q70_1_7, q70_1_8, q70_1_9, q70_1_10, q70_1_11, q70_1_12, q70_1_13, q70_1_14, q70_1_15]) (.ret))
theorem opcode_fields_ok : compF Tryz.prog 70 = some (24, opcode_fields_c, [.c 4 4 true, .c 5 4 true]) := by kernel_rfl

@[go_sem] def q71_0 : List AI := [
 .j 2 (.mov (.z 0)),
 .j 3 (.mov (.z 0))]
@[go_sem] def q71_1 : List AI := [
 .j 4 (.mov (.t 0))]
@[go_sem] def q71_2 : List AI := [
 .j 6 (.bin .eql (.t 4) (.z 1)),
 .j 5 (.mov (.t 6))]
@[go_sem] def q71_3 : List AI := [
 .j 2 (.mov (.z 0)),
 .j 3 (.mov (.z 4095))]
@[go_sem] def q71_4 : List AI := [
 .j 8 (.bin .eql (.t 4) (.z 2)),
 .j 7 (.mov (.t 8))]
@[go_sem] def q71_5 : List AI := [
 .j 2 (.mov (.z 0)),
 .j 3 (.mov (.z 4095))]
@[go_sem] def q71_6 : List AI := [
 .j 10 (.bin .eql (.t 4) (.z 3)),
 .j 9 (.mov (.t 10))]
@[go_sem] def q71_7 : List AI := [
 .j 2 (.mov (.z 0)),
 .j 3 (.mov (.z 59))]
@[go_sem] def q71_8 : List AI := [
 .j 12 (.bin .eql (.t 4) (.z 4)),
 .j 11 (.mov (.t 12))]
@[go_sem] def q71_9 : List AI := [
 .j 2 (.mov (.z 0)),
 .j 3 (.mov (.z 1023))]
@[go_sem] def q71_10 : List AI := [
 .j 14 (.bin .eql (.t 4) (.z 5)),
 .j 13 (.mov (.t 14))]
@[go_sem] def q71_11 : List AI := [
 .j 2 (.mov (.z 0)),
 .j 3 (.mov (.z 16383))]
@[go_sem] def q71_12 : List AI := [
 .j 16 (.bin .eql (.t 4) (.z 6)),
 .j 15 (.mov (.t 16))]
@[go_sem] def q71_13 : List AI := [
 .j 2 (.mov (.z (-1))),
 .j 3 (.mov (.z 200))]
@[go_sem] def q71_14 : List AI := [
 .j 18 (.bin .eql (.t 4) (.z 7)),
 .j 17 (.mov (.t 18))]
@[go_sem] def q71_15 : List AI := [
 .j 2 (.mov (.z (-1))),
 .j 3 (.mov (.z 4096))]
@[go_sem] def q71_16 : List AI := [
 .j 20 (.bin .eql (.t 4) (.z 8)),
 .j 19 (.mov (.t 20))]
@[go_sem] def q71_17 : List AI := [
 .j 2 (.mov (.z 0)),
 .j 3 (.mov (.z 1))]
@[go_sem] def q71_18 : List AI := [
 .j 22 (.bin .eql (.t 4) (.z 9)),
 .j 21 (.mov (.t 22))]
@[go_sem] def q71_19 : List AI := [
 .j 2 (.mov (.z 20)),
 .j 3 (.mov (.z 23))]
@[go_sem] def q71_20 : List AI := [
 .j 24 (.bin .eql (.t 4) (.z 10)),
 .j 23 (.mov (.t 24))]
@[go_sem] def q71_21 : List AI := [
 .j 2 (.mov (.z 1)),
 .j 3 (.mov (.z 19))]
@[go_sem] def q71_22 : List AI := [
 .j 26 (.bin .eql (.t 4) (.z 11)),
 .j 25 (.mov (.t 26))]
@[go_sem] def q71_23 : List AI := [
 .j 2 (.mov (.z 1)),
 .j 3 (.mov (.z 200))]
@[go_sem] def q71_24 : List AI := [
 .j 28 (.bin .eql (.t 4) (.z 12)),
 .j 27 (.mov (.t 28))]
@[go_sem] def q71_25 : List AI := [
 .j 2 (.mov (.z 1)),
 .j 3 (.mov (.z 32767))]
@[go_sem] def q71_26 : List AI := [
 .j 2 (.mov (.z 0)),
 .j 3 (.mov (.z 0))]
@[go_sem] def opcode_between_c : AC := .seq (.ops [q71_0]) (.seq (.seq (.ops [q71_1]) (.block 0 (.seq (.ops [q71_2]) (.cond (.t 5) (.seq (.ops [q71_3]) (.ret)) (.seq (.ops [q71_4]) (.cond (.t 7) (.seq (.ops [q71_5]) (.ret)) (.seq (.ops [q71_6]) (.cond (.t 9) (.seq (.ops [q71_7]) (.ret)) (.seq (.ops [q71_8]) (.cond (.t 11) (.seq (.ops [q71_9]) (.ret)) (.seq (.ops [q71_10]) (.cond (.t 13) (.seq (.ops [q71_11]) (.ret)) (.seq (.ops [q71_12]) (.cond (.t 15) (.seq (.ops [q71_13]) (.ret)) (.seq (.ops [q71_14]) (.cond (.t 17) (.seq (.ops [q71_15]) (.ret)) (.seq (.ops [q71_16]) (.cond (.t 19) (.seq (.ops [q71_17]) (.ret)) (.seq (.ops [q71_18]) (.cond (.t 21) (.seq (.ops [q71_19]) (.ret)) (.seq (.ops [q71_20]) (.cond (.t 23) (.seq (.ops [q71_21]) (.ret)) (.seq (.ops [q71_22]) (.cond (.t 25) (.seq (.ops [q71_23]) (.ret)) (.seq (.ops [q71_24]) (.cond (.t 27) (.seq (.ops [q71_25]) (.ret)) (.skip))))))))))))))))))))))))))) (.seq (.ops [q71_26]) (.ret)))
theorem opcode_between_ok : compF Tryz.prog 71 = some (29, opcode_between_c, [.t 2, .t 3]) := by kernel_rfl

@[go_sem] def q72_0 : List AI := [
 .j 2 (.box 720002 6 (.t 0)),
 .j 3 (.box 720003 5 (.t 1)),
 .j 4 (.mov (.z 0))]
@[go_sem] def q72_1 : List AI := [
 .j 6 (.faddr 1 (.t 3)),
 .j 7 (.load 1 false (.t 6)),
 .j 8 (.faddr 5 (.t 2)),
 .j 9 (.load 1 false (.t 8)),
 .j 10 (.bin .add (.t 7) (.t 9)),
 .j 5 (.mov (.t 10))]
@[go_sem] def q72_2 : List AI := [
 .j 11 (.faddr 0 (.t 3)),
 .j 12 (.load 1 false (.t 11))]
@[go_sem] def q72_3 : List AI := [
 .j 14 (.bin .eql (.t 12) (.z 16)),
 .j 13 (.mov (.t 14))]
@[go_sem] def q72_4 : List AI := [
 .j 15 (.faddr 1 (.t 3)),
 .j 16 (.load 1 false (.t 15)),
 .j 17 (.faddr 2 (.t 3)),
 .j 18 (.load 1 false (.t 17)),
 .j 19 (.bin .add (.t 16) (.t 18)),
 .j 20 (.faddr 1 (.t 3)),
 .j 21 (.load 1 false (.t 20)),
 .j 22 (.faddr 3 (.t 3)),
 .j 23 (.load 1 false (.t 22)),
 .j 24 (.bin .add (.t 21) (.t 23)),
 .j 25 (.bin .sub (.t 24) (.z 1)),
 .j 26 (.mm true [(.t 19), (.t 25)]),
 .j 5 (.mov (.t 26))]
@[go_sem] def q72_5 : List AI := [
 .j 28 (.bin .eql (.t 12) (.z 17)),
 .j 27 (.mov (.t 28))]
@[go_sem] def q72_6 : List AI := [
 .j 29 (.bin .eql (.t 12) (.z 21)),
 .j 27 (.mov (.t 29))]
@[go_sem] def q72_7 : List AI := [
 .j 30 (.faddr 1 (.t 3)),
 .j 31 (.load 1 false (.t 30)),
 .j 32 (.faddr 2 (.t 3)),
 .j 33 (.load 1 false (.t 32)),
 .j 34 (.bin .add (.t 31) (.t 33)),
 .j 5 (.mov (.t 34))]
@[go_sem] def q72_8 : List AI := [
 .j 36 (.bin .eql (.t 12) (.z 18)),
 .j 35 (.mov (.t 36))]
@[go_sem] def q72_9 : List AI := [
 .j 37 (.bin .eql (.t 12) (.z 19)),
 .j 35 (.mov (.t 37))]
@[go_sem] def q72_10 : List AI := [
 .j 38 (.faddr 1 (.t 3)),
 .j 39 (.load 1 false (.t 38)),
 .j 40 (.faddr 2 (.t 3)),
 .j 41 (.load 1 false (.t 40)),
 .j 42 (.bin .add (.t 39) (.t 41)),
 .j 43 (.bin .sub (.t 42) (.z 1)),
 .j 5 (.mov (.t 43))]
@[go_sem] def q72_11 : List AI := [
 .j 45 (.bin .eql (.t 12) (.z 25)),
 .j 44 (.mov (.t 45))]
@[go_sem] def q72_12 : List AI := [
 .j 46 (.faddr 1 (.t 3)),
 .j 47 (.load 1 false (.t 46)),
 .j 48 (.bin .add (.t 47) (.z 2)),
 .j 49 (.faddr 3 (.t 3)),
 .j 50 (.load 1 false (.t 49)),
 .j 51 (.bin .add (.t 48) (.t 50)),
 .j 5 (.mov (.t 51))]
@[go_sem] def q72_13 : List AI := [
 .j 52 (.mov (.t 5)),
 .j 4 (.mov (.t 52))]
@[go_sem] def opcode_last_c : AC := .seq (.ops [q72_0]) (.seq (.ops [q72_1]) (.seq (.seq (.ops [q72_2]) (.block 0 (.seq (.ops [q72_3]) (.cond (.t 13) (.ops [q72_4]) (.seq (.seq (.ops [q72_5]) (.cond (.t 27) (.skip) (.ops [q72_6]))) (.cond (.t 27) (.ops [q72_7]) (.seq (.seq (.ops [q72_8]) (.cond (.t 35) (.skip) (.ops [q72_9]))) (.cond (.t 35) (.ops [q72_10]) (.seq (.ops [q72_11]) (.cond (.t 44) (.ops [q72_12]) (.skip))))))))))) (.seq (.ops [q72_13]) (.ret))))
theorem opcode_last_ok : compF Tryz.prog 72 = some (53, opcode_last_c, [.t 4]) := by kernel_rfl

@[go_sem] def q73_0 : List AI := [
 .j 2 (.mov (.c .nils))]
@[go_sem] def q73_1 : List AI := [
 .j 3 (.mov (.t 0)),
 .j 4 (.call 83 [(.t 3)])]
@[go_sem] def q73_2 : List AI := [
 .j 5 (.mov (.t 0)),
 .j 6 (.call 84 [(.t 5)]),
 .j 2 (.mov (.t 6))]
@[go_sem] def opcode_sorted_c : AC := .seq (.ops [q73_0]) (.seq (.ops [q73_1]) (.seq (.ops [q73_2]) (.ret)))
theorem opcode_sorted_ok : compF Tryz.prog 73 = some (7, opcode_sorted_c, [.t 2]) := by kernel_rfl

@[go_sem] def q74_0 : List AI := [
 .j 4 (.mov (.c .nils)),
 .j 5 (.mov (.z 0))]
@[go_sem] def q74_1 : List AI := [
 .j 8 (.mov (.t 1)),
 .j 9 (.bin .lss (.t 8) (.z 0))]
@[go_sem] def q74_2 : List AI := [
 .j 10 (.mov (.t 0)),
 .j 4 (.mov (.c .nils)),
 .j 5 (.mov (.t 10))]
@[go_sem] def q74_3 : List AI := [
 .j 6 (.mov (.c .nils))]
@[go_sem] def q74_4 : List AI := [
 .j 11 (.mov (.t 1)),
 .j 12 (.mov (.z 0))]
@[go_sem] def q74_5 : List AI := [
 .j 13 (.bin .lss (.t 12) (.t 11))]
@[go_sem] def q74_6 : List AI := [
 .j 14 (.mov (.t 12)),
 .j 7 (.mov (.t 14))]
@[go_sem] def q74_7 : List AI := [
 .j 15 (.mov (.t 6)),
 .j 16 (.mov (.t 0)),
 .j 17 (.mov (.t 7)),
 .j 18 (.bin .add (.t 16) (.t 17)),
 .j 19 (.mkisl 1 [(.t 18)]),
 .j 20 (.app 740020 1 (.t 15) (.t 19)),
 .j 6 (.mov (.t 20))]
@[go_sem] def q74_8 : List AI := [
 .j 21 (.bin .add (.t 12) (.z 1)),
 .j 12 (.mov (.t 21))]
@[go_sem] def opcode_span_l0' : AC := .seq (.ops [q74_5]) (.seq (.cond (.t 13) (.skip) (.exit 0)) (.seq (.block 1 (.seq (.ops [q74_6]) (.ops [q74_7]))) (.ops [q74_8])))
def opcode_span_l0 : AC := opcode_span_l0'
theorem opcode_span_l0_eq : opcode_span_l0 = opcode_span_l0' := rfl
@[go_sem] def q74_9 : List AI := [
 .j 22 (.mov (.t 6)),
 .j 4 (.mov (.t 22)),
 .j 5 (.mov (.z (-1)))]
@[go_sem] def opcode_span_c : AC := .seq (.ops [q74_0]) (.seq (.seq (.ops [q74_1]) (.cond (.t 9) (.seq (.ops [q74_2]) (.ret)) (.skip))) (.seq (.ops [q74_3]) (.seq (.seq (.ops [q74_4]) (.block 0 (.loop opcode_span_l0))) (.seq (.ops [q74_9]) (.ret)))))
theorem opcode_span_ok : compF Tryz.prog 74 = some (23, opcode_span_c, [.t 4, .t 5]) := by kernel_rfl

@[go_sem] def q75_0 : List AI := [
 .j 3 (.mov (.c (.bool false)))]
@[go_sem] def q75_1 : List AI := [
 .j 4 (.mov (.t 0)),
 .j 5 (.faddr 4 (.t 1)),
 .j 6 (.load 1 false (.t 5)),
 .j 7 (.bin .geq (.t 4) (.t 6)),
 .j 3 (.mov (.t 7))]
@[go_sem] def proto_within_1_c : AC := .seq (.ops [q75_0]) (.seq (.ops [q75_1]) (.ret))
theorem proto_within_1_ok : compF Tryz.prog 75 = some (8, proto_within_1_c, [.t 3]) := by kernel_rfl

@[go_sem] def q76_0 : List AI := [
 .j 1 (.box 760001 5 (.t 0)),
 .j 2 (.mov (.z 0)),
 .j 3 (.mov (.c (.bool false)))]
@[go_sem] def q76_1 : List AI := [
 .j 4 (.faddr 0 (.t 1)),
 .j 5 (.load 1 false (.t 4))]
@[go_sem] def q76_2 : List AI := [
 .j 7 (.bin .eql (.t 5) (.z 2)),
 .j 6 (.mov (.t 7))]
@[go_sem] def q76_3 : List AI := [
 .j 8 (.faddr 2 (.t 1)),
 .j 9 (.load 1 false (.t 8)),
 .j 2 (.mov (.t 9)),
 .j 3 (.mov (.c (.bool false)))]
@[go_sem] def q76_4 : List AI := [
 .j 11 (.bin .eql (.t 5) (.z 7)),
 .j 10 (.mov (.t 11))]
@[go_sem] def q76_5 : List AI := [
 .j 12 (.faddr 2 (.t 1)),
 .j 13 (.load 1 false (.t 12)),
 .j 2 (.mov (.t 13)),
 .j 3 (.mov (.c (.bool true)))]
@[go_sem] def q76_6 : List AI := [
 .j 15 (.bin .eql (.t 5) (.z 8)),
 .j 14 (.mov (.t 15))]
@[go_sem] def q76_7 : List AI := [
 .j 16 (.faddr 1 (.t 1)),
 .j 17 (.load 1 false (.t 16)),
 .j 2 (.mov (.t 17)),
 .j 3 (.mov (.c (.bool true)))]
@[go_sem] def q76_8 : List AI := [
 .j 19 (.bin .eql (.t 5) (.z 11)),
 .j 18 (.mov (.t 19))]
@[go_sem] def q76_9 : List AI := [
 .j 20 (.faddr 3 (.t 1)),
 .j 21 (.load 1 false (.t 20)),
 .j 2 (.mov (.t 21)),
 .j 3 (.mov (.c (.bool true)))]
@[go_sem] def q76_10 : List AI := [
 .j 2 (.mov (.z (-1))),
 .j 3 (.mov (.c (.bool false)))]
@[go_sem] def proto_constant_c : AC := .seq (.ops [q76_0]) (.seq (.seq (.ops [q76_1]) (.block 0 (.seq (.ops [q76_2]) (.cond (.t 6) (.seq (.ops [q76_3]) (.ret)) (.seq (.ops [q76_4]) (.cond (.t 10) (.seq (.ops [q76_5]) (.ret)) (.seq (.ops [q76_6]) (.cond (.t 14) (.seq (.ops [q76_7]) (.ret)) (.seq (.ops [q76_8]) (.cond (.t 18) (.seq (.ops [q76_9]) (.ret)) (.skip))))))))))) (.seq (.ops [q76_10]) (.ret)))
theorem proto_constant_ok : compF Tryz.prog 76 = some (22, proto_constant_c, [.t 2, .t 3]) := by kernel_rfl

@[go_sem] def q77_0 : List AI := [
 .j 2 (.box 770002 11 (.t 0)),
 .j 4 (.mov (.c .nilm))]
@[go_sem] def q77_1 : List AI := [
 .j 14 (.mkmap 770014),
 .j 15 (.load 11 true (.t 2)),
 .j 16 (.call 85 [(.t 15)]),
 .e (.mput 0 (.t 14) (.z 0) (.t 16)),
 .j 17 (.mov (.t 14)),
 .j 5 (.mov (.t 17))]
@[go_sem] def q77_2 : List AI := [
 .j 6 (.mov (.c (.bool true)))]
@[go_sem] def q77_3 : List AI := [
 .j 18 (.mov (.t 6))]
@[go_sem] def q77_4 : List AI := [
 .j 6 (.mov (.c (.bool false)))]
@[go_sem] def q77_5 : List AI := [
 .j 19 (.mov (.t 1)),
 .j 20 (.len 0 (.t 19)),
 .j 21 (.mov (.z 0))]
@[go_sem] def q77_6 : List AI := [
 .j 22 (.bin .lss (.t 21) (.t 20))]
@[go_sem] def q77_7 : List AI := [
 .j 23 (.iaddr 2 (.t 19) (.t 21)),
 .j 24 (.load 2 true (.t 23)),
 .j 8 (.box 770008 2 (.c (.agg [(.int .i64 0), (.int .i64 0)]))),
 .e (.store 2 (.t 8) (.t 24))]
@[go_sem] def q77_8 : List AI := [
 .j 26 (.mov (.t 5)),
 .j 27 (.iaddrA 2 1 (.t 8) (.z 0)),
 .j 28 (.load 1 false (.t 27)),
 .j 29 (.look 0 (.agg [.nils, (.int .i64 0), .nils]) true (.t 26) (.t 28)),
 .j 25 (.mov (.t 29)),
 .j 30 (.ext 0 (.t 25)),
 .j 31 (.ext 1 (.t 25)),
 .j 9 (.box 770009 3 (.c (.agg [.nils, (.int .i64 0), .nils]))),
 .e (.store 3 (.t 9) (.t 30)),
 .j 10 (.mov (.t 31))]
@[go_sem] def q77_9 : List AI := [
 .j 32 (.mov (.t 10)),
 .j 33 (.un .not (.t 32))]
@[go_sem] def q77_10 : List AI := [
 .j 34 (.load 11 true (.t 2)),
 .j 35 (.load 2 true (.t 8)),
 .j 36 (.load 3 true (.t 9)),
 .j 37 (.call 86 [(.t 34), (.t 35), (.t 36)]),
 .j 11 (.box 770011 3 (.c (.agg [.nils, (.int .i64 0), .nils]))),
 .e (.store 3 (.t 11) (.t 37))]
@[go_sem] def q77_11 : List AI := [
 .j 39 (.mov (.t 5)),
 .j 40 (.iaddrA 2 1 (.t 8) (.z 1)),
 .j 41 (.load 1 false (.t 40)),
 .j 42 (.look 0 (.agg [.nils, (.int .i64 0), .nils]) true (.t 39) (.t 41)),
 .j 38 (.mov (.t 42)),
 .j 43 (.ext 0 (.t 38)),
 .j 44 (.ext 1 (.t 38)),
 .j 12 (.box 770012 3 (.c (.agg [.nils, (.int .i64 0), .nils]))),
 .e (.store 3 (.t 12) (.t 43)),
 .j 13 (.mov (.t 44))]
@[go_sem] def q77_12 : List AI := [
 .j 45 (.mov (.t 13)),
 .j 46 (.un .not (.t 45))]
@[go_sem] def q77_13 : List AI := [
 .j 47 (.mov (.t 5)),
 .j 48 (.iaddrA 2 1 (.t 8) (.z 1)),
 .j 49 (.load 1 false (.t 48)),
 .j 50 (.load 3 true (.t 11)),
 .e (.mput 0 (.t 47) (.t 49) (.t 50))]
@[go_sem] def q77_14 : List AI := [
 .j 6 (.mov (.c (.bool true)))]
@[go_sem] def q77_15 : List AI := [
 .j 51 (.load 3 true (.t 12)),
 .j 52 (.load 3 true (.t 11)),
 .j 53 (.call 87 [(.t 51), (.t 52)])]
@[go_sem] def q77_16 : List AI := [
 .j 6 (.mov (.c (.bool true)))]
@[go_sem] def q77_17 : List AI := [
 .j 54 (.bin .add (.t 21) (.z 1)),
 .j 21 (.mov (.t 54))]
@[go_sem] def verify_states_l1' : AC := .seq (.ops [q77_6]) (.seq (.cond (.t 22) (.skip) (.exit 2)) (.seq (.block 3 (.seq (.ops [q77_7]) (.seq (.ops [q77_8]) (.seq (.seq (.ops [q77_9]) (.cond (.t 33) (.exit 3) (.skip))) (.seq (.ops [q77_10]) (.seq (.ops [q77_11]) (.seq (.ops [q77_12]) (.cond (.t 46) (.seq (.ops [q77_13]) (.ops [q77_14])) (.seq (.ops [q77_15]) (.cond (.t 53) (.ops [q77_16]) (.skip))))))))))) (.ops [q77_17])))
def verify_states_l1 : AC := verify_states_l1'
theorem verify_states_l1_eq : verify_states_l1 = verify_states_l1' := rfl
@[go_sem] def verify_states_l0' : AC := .seq (.seq (.ops [q77_3]) (.cond (.t 18) (.skip) (.exit 0))) (.block 1 (.seq (.ops [q77_4]) (.seq (.ops [q77_5]) (.block 2 (.loop verify_states_l1)))))
def verify_states_l0 : AC := verify_states_l0'
theorem verify_states_l0_eq : verify_states_l0 = verify_states_l0' := rfl
@[go_sem] def q77_18 : List AI := [
 .j 55 (.mov (.t 5)),
 .j 4 (.mov (.t 55))]
@[go_sem] def verify_states_c : AC := .seq (.ops [q77_0]) (.seq (.ops [q77_1]) (.seq (.seq (.ops [q77_2]) (.block 0 (.loop verify_states_l0))) (.seq (.ops [q77_18]) (.ret))))
theorem verify_states_ok : compF Tryz.prog 77 = some (56, verify_states_c, [.t 4]) := by kernel_rfl

@[go_sem] def q78_0 : List AI := [
 .j 1 (.box 780001 11 (.t 0)),
 .j 2 (.mov (.c .nils))]
@[go_sem] def q78_1 : List AI := [
 .j 3 (.mov (.c .nils))]
@[go_sem] def q78_2 : List AI := [
 .j 7 (.faddr 5 (.t 1)),
 .j 8 (.load 1 false (.t 7)),
 .j 9 (.len 0 (.t 8)),
 .j 10 (.mov (.z 0))]
@[go_sem] def q78_3 : List AI := [
 .j 11 (.bin .lss (.t 10) (.t 9))]
@[go_sem] def q78_4 : List AI := [
 .j 12 (.mov (.t 10)),
 .j 4 (.mov (.t 12))]
@[go_sem] def q78_5 : List AI := [
 .j 13 (.load 11 true (.t 1)),
 .j 14 (.mov (.t 4)),
 .j 15 (.call 88 [(.t 13), (.t 14)]),
 .j 16 (.len 0 (.t 15)),
 .j 17 (.mov (.z 0))]
@[go_sem] def q78_6 : List AI := [
 .j 18 (.bin .lss (.t 17) (.t 16))]
@[go_sem] def q78_7 : List AI := [
 .j 19 (.iaddr 1 (.t 15) (.t 17)),
 .j 20 (.load 1 false (.t 19)),
 .j 6 (.mov (.t 20))]
@[go_sem] def q78_8 : List AI := [
 .j 21 (.mov (.t 3)),
 .j 22 (.mov (.t 4)),
 .j 23 (.mov (.t 6)),
 .j 24 (.build [(.int .i64 0), (.int .i64 0)] [(0, 1, (.t 22)), (1, 1, (.t 23))]),
 .j 25 (.mkisl 2 [(.t 24)]),
 .j 26 (.app 780026 2 (.t 21) (.t 25)),
 .j 3 (.mov (.t 26))]
@[go_sem] def q78_9 : List AI := [
 .j 27 (.bin .add (.t 17) (.z 1)),
 .j 17 (.mov (.t 27))]
@[go_sem] def verify_edges_l1' : AC := .seq (.ops [q78_6]) (.seq (.cond (.t 18) (.skip) (.exit 2)) (.seq (.block 3 (.seq (.ops [q78_7]) (.ops [q78_8]))) (.ops [q78_9])))
def verify_edges_l1 : AC := verify_edges_l1'
theorem verify_edges_l1_eq : verify_edges_l1 = verify_edges_l1' := rfl
@[go_sem] def q78_10 : List AI := [
 .j 28 (.bin .add (.t 10) (.z 1)),
 .j 10 (.mov (.t 28))]
@[go_sem] def verify_edges_l0' : AC := .seq (.ops [q78_3]) (.seq (.cond (.t 11) (.skip) (.exit 0)) (.seq (.block 1 (.seq (.ops [q78_4]) (.seq (.ops [q78_5]) (.block 2 (.loop verify_edges_l1))))) (.ops [q78_10])))
def verify_edges_l0 : AC := verify_edges_l0'
theorem verify_edges_l0_eq : verify_edges_l0 = verify_edges_l0' := rfl
@[go_sem] def q78_11 : List AI := [
 .j 29 (.mov (.t 3)),
 .j 2 (.mov (.t 29))]
@[go_sem] def verify_edges_c : AC := .seq (.ops [q78_0]) (.seq (.ops [q78_1]) (.seq (.seq (.ops [q78_2]) (.block 0 (.loop verify_edges_l0))) (.seq (.ops [q78_11]) (.ret))))
theorem verify_edges_ok : compF Tryz.prog 78 = some (30, verify_edges_c, [.t 2]) := by kernel_rfl

@[go_sem] def q79_0 : List AI := [
 .j 3 (.box 790003 11 (.t 0)),
 .j 6 (.mov (.c (.bool false)))]
@[go_sem] def q79_1 : List AI := [
 .j 14 (.mov (.t 2)),
 .j 15 (.mov (.t 1)),
 .j 16 (.look 0 (.agg [.nils, (.int .i64 0), .nils]) true (.t 14) (.t 15)),
 .j 13 (.mov (.t 16)),
 .j 17 (.ext 0 (.t 13)),
 .j 18 (.ext 1 (.t 13)),
 .j 7 (.box 790007 3 (.c (.agg [.nils, (.int .i64 0), .nils]))),
 .e (.store 3 (.t 7) (.t 17)),
 .j 8 (.mov (.t 18))]
@[go_sem] def q79_2 : List AI := [
 .j 19 (.mov (.t 8)),
 .j 20 (.un .not (.t 19))]
@[go_sem] def q79_3 : List AI := [
 .j 6 (.mov (.c (.bool false)))]
@[go_sem] def q79_4 : List AI := [
 .j 21 (.faddr 5 (.t 3)),
 .j 22 (.load 1 false (.t 21)),
 .j 23 (.mov (.t 1)),
 .j 24 (.iaddr 5 (.t 22) (.t 23)),
 .j 25 (.load 5 true (.t 24)),
 .j 9 (.box 790009 5 (.c (.agg [(.int .i64 0), (.int .i64 0), (.int .i64 0), (.int .i64 0), (.int .i64 0)]))),
 .e (.store 5 (.t 9) (.t 25))]
@[go_sem] def q79_5 : List AI := [
 .j 27 (.load 5 true (.t 9)),
 .j 28 (.call 89 [(.t 27)]),
 .j 29 (.mov (.t 28)),
 .k 30 29 true (.mov (.t 1)),
 .k 31 29 true (.faddr 5 (.t 3)),
 .k 32 29 true (.load 1 false (.t 31)),
 .k 33 29 true (.len 0 (.t 32)),
 .k 34 29 true (.bin .sub (.t 33) (.z 1)),
 .k 35 29 true (.bin .eql (.t 30) (.t 34)),
 .j 36 (.pick (.t 29) (.t 35) (.c (.bool false))),
 .j 26 (.mov (.t 36))]
@[go_sem] def q79_6 : List AI := [
 .j 6 (.mov (.c (.bool true)))]
@[go_sem] def q79_7 : List AI := [
 .j 38 (.load 11 true (.t 3)),
 .j 39 (.load 5 true (.t 9)),
 .j 40 (.load 3 true (.t 7)),
 .j 41 (.call 90 [(.t 38), (.t 39), (.t 40)]),
 .j 42 (.un .not (.t 41)),
 .j 37 (.mov (.t 42))]
@[go_sem] def q79_8 : List AI := [
 .j 6 (.mov (.c (.bool true)))]
@[go_sem] def q79_9 : List AI := [
 .j 44 (.faddr 0 (.t 9)),
 .j 45 (.load 1 false (.t 44)),
 .j 46 (.bin .eql (.t 45) (.z 28)),
 .j 47 (.mov (.t 46)),
 .k 48 47 true (.faddr 2 (.t 7)),
 .k 49 47 true (.load 1 false (.t 48)),
 .k 50 47 true (.mkfn 91 [(.t 9)]),
 .k 51 47 true (.call 53 [(.t 49), (.t 50)]),
 .j 52 (.pick (.t 47) (.t 51) (.c (.bool false))),
 .j 43 (.mov (.t 52))]
@[go_sem] def q79_10 : List AI := [
 .j 6 (.mov (.c (.bool true)))]
@[go_sem] def q79_11 : List AI := [
 .j 54 (.faddr 0 (.t 9)),
 .j 55 (.load 1 false (.t 54)),
 .j 56 (.bin .eql (.t 55) (.z 17)),
 .j 57 (.mov (.t 56)),
 .k 58 57 true (.faddr 2 (.t 7)),
 .k 59 57 true (.load 1 false (.t 58)),
 .k 60 57 true (.len 0 (.t 59)),
 .k 61 57 true (.bin .gtr (.t 60) (.z 0)),
 .j 62 (.pick (.t 57) (.t 61) (.c (.bool false))),
 .j 53 (.mov (.t 62))]
@[go_sem] def q79_12 : List AI := [
 .j 6 (.mov (.c (.bool true)))]
@[go_sem] def q79_13 : List AI := [
 .j 63 (.load 11 true (.t 3)),
 .j 64 (.mov (.t 1)),
 .j 65 (.call 88 [(.t 63), (.t 64)]),
 .j 66 (.len 0 (.t 65)),
 .j 67 (.mov (.z 0))]
@[go_sem] def q79_14 : List AI := [
 .j 68 (.bin .lss (.t 67) (.t 66))]
@[go_sem] def q79_15 : List AI := [
 .j 69 (.iaddr 1 (.t 65) (.t 67)),
 .j 70 (.load 1 false (.t 69)),
 .j 11 (.mov (.t 70))]
@[go_sem] def q79_16 : List AI := [
 .j 71 (.load 11 true (.t 3)),
 .j 72 (.mov (.t 1)),
 .j 73 (.mov (.t 11)),
 .j 74 (.build [(.int .i64 0), (.int .i64 0)] [(0, 1, (.t 72)), (1, 1, (.t 73))]),
 .j 75 (.load 3 true (.t 7)),
 .j 76 (.call 86 [(.t 71), (.t 74), (.t 75)]),
 .j 12 (.box 790012 3 (.c (.agg [.nils, (.int .i64 0), .nils]))),
 .e (.store 3 (.t 12) (.t 76))]
@[go_sem] def q79_17 : List AI := [
 .j 77 (.faddr 1 (.t 12)),
 .j 78 (.load 1 false (.t 77)),
 .j 79 (.mov (.t 2)),
 .j 80 (.mov (.t 11)),
 .j 81 (.look 0 (.agg [.nils, (.int .i64 0), .nils]) false (.t 79) (.t 80)),
 .j 82 (.fld 1 1 false (.t 81)),
 .j 83 (.bin .neq (.t 78) (.t 82)),
 .j 84 (.mov (.t 83)),
 .k 85 84 false (.faddr 2 (.t 12)),
 .k 86 84 false (.load 1 false (.t 85)),
 .k 87 84 false (.mov (.t 2)),
 .k 88 84 false (.mov (.t 11)),
 .k 89 84 false (.look 0 (.agg [.nils, (.int .i64 0), .nils]) false (.t 87) (.t 88)),
 .k 90 84 false (.fld 2 1 false (.t 89)),
 .k 91 84 false (.call 92 [(.t 86), (.t 90)]),
 .k 92 84 false (.un .not (.t 91)),
 .j 93 (.pick (.t 84) (.c (.bool true)) (.t 92)),
 .j 94 (.mov (.t 93)),
 .k 95 94 false (.mov (.t 11)),
 .k 96 94 false (.mov (.t 1)),
 .k 97 94 false (.bin .leq (.t 95) (.t 96)),
 .k 98 94 false (.mov (.t 97)),
 .k 99 98 true (.faddr 5 (.t 3)),
 .k 100 98 true (.load 1 false (.t 99)),
 .k 101 98 true (.mov (.t 11)),
 .k 102 98 true (.iaddr 5 (.t 100) (.t 101)),
 .k 103 98 true (.faddr 0 (.t 102)),
 .k 104 98 true (.load 1 false (.t 103)),
 .k 105 98 true (.bin .neq (.t 104) (.z 29)),
 .k 106 94 false (.pick (.t 98) (.t 105) (.c (.bool false))),
 .j 107 (.pick (.t 94) (.c (.bool true)) (.t 106))]
@[go_sem] def q79_18 : List AI := [
 .j 6 (.mov (.c (.bool true)))]
@[go_sem] def q79_19 : List AI := [
 .j 108 (.bin .add (.t 67) (.z 1)),
 .j 67 (.mov (.t 108))]
@[go_sem] def verify_violates_l0' : AC := .seq (.ops [q79_14]) (.seq (.cond (.t 68) (.skip) (.exit 1)) (.seq (.block 2 (.seq (.ops [q79_15]) (.seq (.ops [q79_16]) (.seq (.ops [q79_17]) (.cond (.t 107) (.seq (.ops [q79_18]) (.ret)) (.skip)))))) (.ops [q79_19])))
def verify_violates_l0 : AC := verify_violates_l0'
theorem verify_violates_l0_eq : verify_violates_l0 = verify_violates_l0' := rfl
@[go_sem] def q79_20 : List AI := [
 .j 6 (.mov (.c (.bool false)))]
@[go_sem] def verify_violates_c : AC := .seq (.ops [q79_0]) (.seq (.ops [q79_1]) (.seq (.seq (.ops [q79_2]) (.cond (.t 20) (.seq (.ops [q79_3]) (.ret)) (.skip))) (.seq (.ops [q79_4]) (.seq (.block 0 (.seq (.ops [q79_5]) (.cond (.t 26) (.seq (.ops [q79_6]) (.ret)) (.seq (.ops [q79_7]) (.cond (.t 37) (.seq (.ops [q79_8]) (.ret)) (.seq (.ops [q79_9]) (.cond (.t 43) (.seq (.ops [q79_10]) (.ret)) (.seq (.ops [q79_11]) (.cond (.t 53) (.seq (.ops [q79_12]) (.ret)) (.skip)))))))))) (.seq (.seq (.ops [q79_13]) (.block 1 (.loop verify_violates_l0))) (.seq (.ops [q79_20]) (.ret)))))))
theorem verify_violates_ok : compF Tryz.prog 79 = some (109, verify_violates_c, [.t 6]) := by kernel_rfl

@[go_sem] def q80_0 : List AI := [
 .j 4 (.mov (.z 0))]
@[go_sem] def q80_1 : List AI := [
 .j 5 (.mov (.t 1)),
 .j 6 (.bin .neq (.t 5) (.z 0))]
@[go_sem] def q80_2 : List AI := [
 .j 7 (.mov (.t 1)),
 .j 8 (.mov (.t 0)),
 .j 9 (.mov (.t 1)),
 .j 10 (.bin .rem (.t 8) (.t 9)),
 .j 0 (.mov (.t 7)),
 .j 1 (.mov (.t 10))]
@[go_sem] def rational_gcd_l0' : AC := .seq (.seq (.ops [q80_1]) (.cond (.t 6) (.skip) (.exit 0))) (.block 1 (.ops [q80_2]))
def rational_gcd_l0 : AC := rational_gcd_l0'
theorem rational_gcd_l0_eq : rational_gcd_l0 = rational_gcd_l0' := rfl
@[go_sem] def q80_3 : List AI := [
 .j 11 (.mov (.t 0)),
 .j 4 (.mov (.t 11))]
@[go_sem] def rational_gcd_c : AC := .seq (.ops [q80_0]) (.seq (.block 0 (.loop rational_gcd_l0)) (.seq (.ops [q80_3]) (.ret)))
theorem rational_gcd_ok : compF Tryz.prog 80 = some (12, rational_gcd_c, [.t 4]) := by kernel_rfl

@[go_sem] def q81_0 : List AI := [
 .j 2 (.mov (.c .nils))]
@[go_sem] def q81_1 : List AI := [
 .j 3 (.mov (.z 0))]
@[go_sem] def q81_2 : List AI := [
 .j 4 (.mov (.z 1))]
@[go_sem] def q81_3 : List AI := [
 .j 5 (.mov (.c (.int .u8 0)))]
@[go_sem] def q81_4 : List AI := [
 .j 6 (.mov (.z 0))]
@[go_sem] def q81_5 : List AI := [
 .j 13 (.mov (.t 6)),
 .j 14 (.mov (.t 0)),
 .j 15 (.len 1 (.t 14)),
 .j 16 (.bin .lss (.t 13) (.t 15))]
@[go_sem] def q81_6 : List AI := [
 .j 19 (.mov (.t 0)),
 .j 20 (.mov (.t 6)),
 .j 21 (.idx (.t 19) (.t 20)),
 .j 7 (.mov (.t 21))]
@[go_sem] def q81_7 : List AI := [
 .j 22 (.mov (.t 5)),
 .j 23 (.mov (.t 7)),
 .j 24 (.bin .or (.t 22) (.t 23)),
 .j 5 (.mov (.t 24))]
@[go_sem] def q81_8 : List AI := [
 .j 25 (.mov (.t 7)),
 .j 26 (.iaddrA 256 1 (.g 0) (.t 25)),
 .j 27 (.load 1 false (.t 26)),
 .j 28 (.conv .i64 (.t 27)),
 .j 8 (.mov (.t 28))]
@[go_sem] def q81_9 : List AI := [
 .j 29 (.mov (.t 3)),
 .j 30 (.mov (.t 4)),
 .j 31 (.mov (.t 8)),
 .j 32 (.un .xor (.t 31)),
 .j 33 (.bin .and (.t 30) (.t 32)),
 .j 34 (.bin .add (.t 29) (.t 33)),
 .j 3 (.mov (.t 34))]
@[go_sem] def q81_10 : List AI := [
 .j 35 (.mov (.t 8)),
 .j 4 (.mov (.t 35))]
@[go_sem] def q81_11 : List AI := [
 .j 17 (.mov (.t 6)),
 .j 18 (.bin .add (.t 17) (.z 1)),
 .j 6 (.mov (.t 18))]
@[go_sem] def strings_Fields_l0' : AC := .seq (.seq (.ops [q81_5]) (.cond (.t 16) (.skip) (.exit 0))) (.seq (.block 1 (.seq (.ops [q81_6]) (.seq (.ops [q81_7]) (.seq (.ops [q81_8]) (.seq (.ops [q81_9]) (.ops [q81_10])))))) (.ops [q81_11]))
def strings_Fields_l0 : AC := strings_Fields_l0'
theorem strings_Fields_l0_eq : strings_Fields_l0 = strings_Fields_l0' := rfl
@[go_sem] def q81_12 : List AI := [
 .j 36 (.mov (.t 5)),
 .j 37 (.bin .geq (.t 36) (.c (.int .u8 128)))]
@[go_sem] def q81_13 : List AI := [
 .j 38 (.mov (.t 0)),
 .j 39 (.call 93 [(.t 38), (.f 94)]),
 .j 2 (.mov (.t 39))]
@[go_sem] def q81_14 : List AI := [
 .j 40 (.mov (.t 3)),
 .j 41 (.mksl 810041 [(.str [])] (.t 40)),
 .j 9 (.mov (.t 41))]
@[go_sem] def q81_15 : List AI := [
 .j 10 (.mov (.z 0))]
@[go_sem] def q81_16 : List AI := [
 .j 11 (.mov (.z 0))]
@[go_sem] def q81_17 : List AI := [
 .j 12 (.mov (.z 0))]
@[go_sem] def q81_18 : List AI := [
 .j 42 (.mov (.t 12)),
 .j 43 (.mov (.t 0)),
 .j 44 (.len 1 (.t 43)),
 .j 45 (.bin .lss (.t 42) (.t 44)),
 .j 46 (.mov (.t 45)),
 .k 47 46 true (.mov (.t 0)),
 .k 48 46 true (.mov (.t 12)),
 .k 49 46 true (.idx (.t 47) (.t 48)),
 .k 50 46 true (.iaddrA 256 1 (.g 0) (.t 49)),
 .k 51 46 true (.load 1 false (.t 50)),
 .k 52 46 true (.bin .neq (.t 51) (.c (.int .u8 0))),
 .j 53 (.pick (.t 46) (.t 52) (.c (.bool false)))]
@[go_sem] def q81_19 : List AI := [
 .j 54 (.mov (.t 12)),
 .j 55 (.bin .add (.t 54) (.z 1)),
 .j 12 (.mov (.t 55))]
@[go_sem] def strings_Fields_l1' : AC := .seq (.seq (.ops [q81_18]) (.cond (.t 53) (.skip) (.exit 2))) (.block 3 (.ops [q81_19]))
def strings_Fields_l1 : AC := strings_Fields_l1'
theorem strings_Fields_l1_eq : strings_Fields_l1 = strings_Fields_l1' := rfl
@[go_sem] def q81_20 : List AI := [
 .j 56 (.mov (.t 12)),
 .j 11 (.mov (.t 56))]
@[go_sem] def q81_21 : List AI := [
 .j 57 (.mov (.t 12)),
 .j 58 (.mov (.t 0)),
 .j 59 (.len 1 (.t 58)),
 .j 60 (.bin .lss (.t 57) (.t 59))]
@[go_sem] def q81_22 : List AI := [
 .j 61 (.mov (.t 0)),
 .j 62 (.mov (.t 12)),
 .j 63 (.idx (.t 61) (.t 62)),
 .j 64 (.iaddrA 256 1 (.g 0) (.t 63)),
 .j 65 (.load 1 false (.t 64)),
 .j 66 (.bin .eql (.t 65) (.c (.int .u8 0)))]
@[go_sem] def q81_23 : List AI := [
 .j 67 (.mov (.t 12)),
 .j 68 (.bin .add (.t 67) (.z 1)),
 .j 12 (.mov (.t 68))]
@[go_sem] def q81_24 : List AI := [
 .j 69 (.mov (.t 9)),
 .j 70 (.mov (.t 10)),
 .j 71 (.mov (.t 0)),
 .j 72 (.mov (.t 11)),
 .j 73 (.mov (.t 12)),
 .j 74 (.sls (.t 71) (some (.t 72)) (some (.t 73))),
 .j 75 (.iaddr 1 (.t 69) (.t 70)),
 .e (.store 1 (.t 75) (.t 74))]
@[go_sem] def q81_25 : List AI := [
 .j 76 (.mov (.t 10)),
 .j 77 (.bin .add (.t 76) (.z 1)),
 .j 10 (.mov (.t 77))]
@[go_sem] def q81_26 : List AI := [
 .j 78 (.mov (.t 12)),
 .j 79 (.bin .add (.t 78) (.z 1)),
 .j 12 (.mov (.t 79))]
@[go_sem] def q81_27 : List AI := [
 .j 80 (.mov (.t 12)),
 .j 81 (.mov (.t 0)),
 .j 82 (.len 1 (.t 81)),
 .j 83 (.bin .lss (.t 80) (.t 82)),
 .j 84 (.mov (.t 83)),
 .k 85 84 true (.mov (.t 0)),
 .k 86 84 true (.mov (.t 12)),
 .k 87 84 true (.idx (.t 85) (.t 86)),
 .k 88 84 true (.iaddrA 256 1 (.g 0) (.t 87)),
 .k 89 84 true (.load 1 false (.t 88)),
 .k 90 84 true (.bin .neq (.t 89) (.c (.int .u8 0))),
 .j 91 (.pick (.t 84) (.t 90) (.c (.bool false)))]
@[go_sem] def q81_28 : List AI := [
 .j 92 (.mov (.t 12)),
 .j 93 (.bin .add (.t 92) (.z 1)),
 .j 12 (.mov (.t 93))]
@[go_sem] def strings_Fields_l3' : AC := .seq (.seq (.ops [q81_27]) (.cond (.t 91) (.skip) (.exit 6))) (.block 7 (.ops [q81_28]))
def strings_Fields_l3 : AC := strings_Fields_l3'
theorem strings_Fields_l3_eq : strings_Fields_l3 = strings_Fields_l3' := rfl
@[go_sem] def q81_29 : List AI := [
 .j 94 (.mov (.t 12)),
 .j 11 (.mov (.t 94))]
@[go_sem] def strings_Fields_l2' : AC := .seq (.seq (.ops [q81_21]) (.cond (.t 60) (.skip) (.exit 4))) (.block 5 (.seq (.seq (.ops [q81_22]) (.cond (.t 66) (.seq (.ops [q81_23]) (.exit 5)) (.skip))) (.seq (.ops [q81_24]) (.seq (.ops [q81_25]) (.seq (.ops [q81_26]) (.seq (.block 6 (.loop strings_Fields_l3)) (.ops [q81_29])))))))
def strings_Fields_l2 : AC := strings_Fields_l2'
theorem strings_Fields_l2_eq : strings_Fields_l2 = strings_Fields_l2' := rfl
@[go_sem] def q81_30 : List AI := [
 .j 95 (.mov (.t 11)),
 .j 96 (.mov (.t 0)),
 .j 97 (.len 1 (.t 96)),
 .j 98 (.bin .lss (.t 95) (.t 97))]
@[go_sem] def q81_31 : List AI := [
 .j 99 (.mov (.t 9)),
 .j 100 (.mov (.t 10)),
 .j 101 (.mov (.t 0)),
 .j 102 (.mov (.t 11)),
 .j 103 (.sls (.t 101) (some (.t 102)) none),
 .j 104 (.iaddr 1 (.t 99) (.t 100)),
 .e (.store 1 (.t 104) (.t 103))]
@[go_sem] def q81_32 : List AI := [
 .j 105 (.mov (.t 9)),
 .j 2 (.mov (.t 105))]
@[go_sem] def strings_Fields_c : AC := .seq (.ops [q81_0]) (.seq (.ops [q81_1]) (.seq (.ops [q81_2]) (.seq (.ops [q81_3]) (.seq (.seq (.ops [q81_4]) (.block 0 (.loop strings_Fields_l0))) (.seq (.seq (.ops [q81_12]) (.cond (.t 37) (.seq (.ops [q81_13]) (.ret)) (.skip))) (.seq (.ops [q81_14]) (.seq (.ops [q81_15]) (.seq (.ops [q81_16]) (.seq (.ops [q81_17]) (.seq (.block 2 (.loop strings_Fields_l1)) (.seq (.ops [q81_20]) (.seq (.block 4 (.loop strings_Fields_l2)) (.seq (.seq (.ops [q81_30]) (.cond (.t 98) (.ops [q81_31]) (.skip))) (.seq (.ops [q81_32]) (.ret)))))))))))))))
theorem strings_Fields_ok : compF Tryz.prog 81 = some (106, strings_Fields_c, [.t 2]) := by kernel_rfl

@[go_sem] def q82_0 : List AI := [
 .j 2 (.box 820002 6 (.c (.agg [(.str []), (.int .i64 0), (.int .i64 0), (.int .i64 0), (.int .i64 0), (.int .i64 0)])))]
@[go_sem] def q82_1 : List AI := [
 .j 3 (.mov (.t 0))]
@[go_sem] def q82_2 : List AI := [
 .j 5 (.bin .eql (.t 3) (.z 1)),
 .j 4 (.mov (.t 5))]
@[go_sem] def q82_3 : List AI := [
 .j 6 (.build [(.str []), (.int .i64 0), (.int .i64 0), (.int .i64 0), (.int .i64 0), (.int .i64 0)] [(1, 1, (.z 1)), (2, 1, (.z 1))]),
 .e (.store 6 (.t 2) (.t 6))]
@[go_sem] def q82_4 : List AI := [
 .j 8 (.bin .eql (.t 3) (.z 2)),
 .j 7 (.mov (.t 8))]
@[go_sem] def q82_5 : List AI := [
 .j 9 (.bin .eql (.t 3) (.z 7)),
 .j 7 (.mov (.t 9))]
@[go_sem] def q82_6 : List AI := [
 .j 10 (.build [(.str []), (.int .i64 0), (.int .i64 0), (.int .i64 0), (.int .i64 0), (.int .i64 0)] [(1, 1, (.z 1)), (2, 1, (.z 2))]),
 .e (.store 6 (.t 2) (.t 10))]
@[go_sem] def q82_7 : List AI := [
 .j 12 (.bin .eql (.t 3) (.z 3)),
 .j 11 (.mov (.t 12))]
@[go_sem] def q82_8 : List AI := [
 .j 13 (.build [(.str []), (.int .i64 0), (.int .i64 0), (.int .i64 0), (.int .i64 0), (.int .i64 0)] [(1, 1, (.z 1)), (2, 1, (.z 1))]),
 .e (.store 6 (.t 2) (.t 13))]
@[go_sem] def q82_9 : List AI := [
 .j 15 (.bin .eql (.t 3) (.z 4)),
 .j 14 (.mov (.t 15))]
@[go_sem] def q82_10 : List AI := [
 .j 16 (.build [(.str []), (.int .i64 0), (.int .i64 0), (.int .i64 0), (.int .i64 0), (.int .i64 0)] [(1, 1, (.z 1)), (2, 1, (.z 8))]),
 .e (.store 6 (.t 2) (.t 16))]
@[go_sem] def q82_11 : List AI := [
 .j 18 (.bin .eql (.t 3) (.z 5)),
 .j 17 (.mov (.t 18))]
@[go_sem] def q82_12 : List AI := [
 .j 19 (.build [(.str []), (.int .i64 0), (.int .i64 0), (.int .i64 0), (.int .i64 0), (.int .i64 0)] [(1, 1, (.z 1)), (2, 1, (.z 3))]),
 .e (.store 6 (.t 2) (.t 19))]
@[go_sem] def q82_13 : List AI := [
 .j 21 (.bin .eql (.t 3) (.z 6)),
 .j 20 (.mov (.t 21))]
@[go_sem] def q82_14 : List AI := [
 .j 22 (.build [(.str []), (.int .i64 0), (.int .i64 0), (.int .i64 0), (.int .i64 0), (.int .i64 0)] [(1, 1, (.z 3)), (2, 1, (.z 1))]),
 .e (.store 6 (.t 2) (.t 22))]
@[go_sem] def q82_15 : List AI := [
 .j 24 (.bin .eql (.t 3) (.z 8)),
 .j 23 (.mov (.t 24))]
@[go_sem] def q82_16 : List AI := [
 .j 25 (.build [(.str []), (.int .i64 0), (.int .i64 0), (.int .i64 0), (.int .i64 0), (.int .i64 0)] [(1, 1, (.z 2)), (2, 1, (.z 1))]),
 .e (.store 6 (.t 2) (.t 25))]
@[go_sem] def q82_17 : List AI := [
 .j 27 (.bin .eql (.t 3) (.z 9)),
 .j 26 (.mov (.t 27))]
@[go_sem] def q82_18 : List AI := [
 .j 28 (.bin .eql (.t 3) (.z 10)),
 .j 26 (.mov (.t 28))]
@[go_sem] def q82_19 : List AI := [
 .j 29 (.build [(.str []), (.int .i64 0), (.int .i64 0), (.int .i64 0), (.int .i64 0), (.int .i64 0)] [(1, 1, (.z 1)), (2, 1, (.z 1)), (3, 1, (.z 1))]),
 .e (.store 6 (.t 2) (.t 29))]
@[go_sem] def q82_20 : List AI := [
 .j 31 (.bin .eql (.t 3) (.z 11)),
 .j 30 (.mov (.t 31))]
@[go_sem] def q82_21 : List AI := [
 .j 32 (.build [(.str []), (.int .i64 0), (.int .i64 0), (.int .i64 0), (.int .i64 0), (.int .i64 0)] [(1, 1, (.z 1)), (2, 1, (.z 1)), (3, 1, (.z 2)), (5, 1, (.z 1))]),
 .e (.store 6 (.t 2) (.t 32))]
@[go_sem] def q82_22 : List AI := [
 .j 34 (.bin .eql (.t 3) (.z 12)),
 .j 33 (.mov (.t 34))]
@[go_sem] def q82_23 : List AI := [
 .j 35 (.build [(.str []), (.int .i64 0), (.int .i64 0), (.int .i64 0), (.int .i64 0), (.int .i64 0)] [(1, 1, (.z 1)), (2, 1, (.z 1)), (3, 1, (.z 9))]),
 .e (.store 6 (.t 2) (.t 35))]
@[go_sem] def q82_24 : List AI := [
 .j 37 (.bin .eql (.t 3) (.z 13)),
 .j 36 (.mov (.t 37))]
@[go_sem] def q82_25 : List AI := [
 .j 38 (.build [(.str []), (.int .i64 0), (.int .i64 0), (.int .i64 0), (.int .i64 0), (.int .i64 0)] [(1, 1, (.z 1)), (2, 1, (.z 1)), (3, 1, (.z 1)), (4, 1, (.z 10))]),
 .e (.store 6 (.t 2) (.t 38))]
@[go_sem] def q82_26 : List AI := [
 .j 40 (.bin .eql (.t 3) (.z 14)),
 .j 39 (.mov (.t 40))]
@[go_sem] def q82_27 : List AI := [
 .j 41 (.build [(.str []), (.int .i64 0), (.int .i64 0), (.int .i64 0), (.int .i64 0), (.int .i64 0)] [(2, 1, (.z 5))]),
 .e (.store 6 (.t 2) (.t 41))]
@[go_sem] def q82_28 : List AI := [
 .j 43 (.bin .eql (.t 3) (.z 15)),
 .j 42 (.mov (.t 43))]
@[go_sem] def q82_29 : List AI := [
 .j 44 (.build [(.str []), (.int .i64 0), (.int .i64 0), (.int .i64 0), (.int .i64 0), (.int .i64 0)] [(1, 1, (.z 1)), (2, 1, (.z 5)), (3, 1, (.z 8))]),
 .e (.store 6 (.t 2) (.t 44))]
@[go_sem] def q82_30 : List AI := [
 .j 46 (.bin .eql (.t 3) (.z 16)),
 .j 45 (.mov (.t 46))]
@[go_sem] def q82_31 : List AI := [
 .j 47 (.build [(.str []), (.int .i64 0), (.int .i64 0), (.int .i64 0), (.int .i64 0), (.int .i64 0)] [(1, 1, (.z 1)), (2, 1, (.z 7)), (3, 1, (.z 6))]),
 .e (.store 6 (.t 2) (.t 47))]
@[go_sem] def q82_32 : List AI := [
 .j 49 (.bin .eql (.t 3) (.z 17)),
 .j 48 (.mov (.t 49))]
@[go_sem] def q82_33 : List AI := [
 .j 50 (.bin .eql (.t 3) (.z 18)),
 .j 48 (.mov (.t 50))]
@[go_sem] def q82_34 : List AI := [
 .j 51 (.build [(.str []), (.int .i64 0), (.int .i64 0), (.int .i64 0), (.int .i64 0), (.int .i64 0)] [(1, 1, (.z 1)), (2, 1, (.z 7))]),
 .e (.store 6 (.t 2) (.t 51))]
@[go_sem] def q82_35 : List AI := [
 .j 53 (.bin .eql (.t 3) (.z 19)),
 .j 52 (.mov (.t 53))]
@[go_sem] def q82_36 : List AI := [
 .j 54 (.build [(.str []), (.int .i64 0), (.int .i64 0), (.int .i64 0), (.int .i64 0), (.int .i64 0)] [(1, 1, (.z 1)), (2, 1, (.z 6))]),
 .e (.store 6 (.t 2) (.t 54))]
@[go_sem] def q82_37 : List AI := [
 .j 56 (.bin .eql (.t 3) (.z 21)),
 .j 55 (.mov (.t 56))]
@[go_sem] def q82_38 : List AI := [
 .j 57 (.build [(.str []), (.int .i64 0), (.int .i64 0), (.int .i64 0), (.int .i64 0), (.int .i64 0)] [(1, 1, (.z 1)), (2, 1, (.z 7)), (3, 1, (.z 12))]),
 .e (.store 6 (.t 2) (.t 57))]
@[go_sem] def q82_39 : List AI := [
 .j 59 (.bin .eql (.t 3) (.z 22)),
 .j 58 (.mov (.t 59))]
@[go_sem] def q82_40 : List AI := [
 .j 60 (.build [(.str []), (.int .i64 0), (.int .i64 0), (.int .i64 0), (.int .i64 0), (.int .i64 0)] [(1, 1, (.z 1)), (2, 1, (.z 4))]),
 .e (.store 6 (.t 2) (.t 60))]
@[go_sem] def q82_41 : List AI := [
 .j 62 (.bin .eql (.t 3) (.z 23)),
 .j 61 (.mov (.t 62))]
@[go_sem] def q82_42 : List AI := [
 .j 63 (.bin .eql (.t 3) (.z 24)),
 .j 61 (.mov (.t 63))]
@[go_sem] def q82_43 : List AI := [
 .j 64 (.bin .eql (.t 3) (.z 26)),
 .j 61 (.mov (.t 64))]
@[go_sem] def q82_44 : List AI := [
 .j 65 (.build [(.str []), (.int .i64 0), (.int .i64 0), (.int .i64 0), (.int .i64 0), (.int .i64 0)] [(1, 1, (.z 1)), (2, 1, (.z 5)), (5, 1, (.z 3))]),
 .e (.store 6 (.t 2) (.t 65))]
@[go_sem] def q82_45 : List AI := [
 .j 67 (.bin .eql (.t 3) (.z 25)),
 .j 66 (.mov (.t 67))]
@[go_sem] def q82_46 : List AI := [
 .j 68 (.build [(.str []), (.int .i64 0), (.int .i64 0), (.int .i64 0), (.int .i64 0), (.int .i64 0)] [(1, 1, (.z 1)), (3, 1, (.z 11)), (5, 1, (.z 3))]),
 .e (.store 6 (.t 2) (.t 68))]
@[go_sem] def q82_47 : List AI := [
 .j 70 (.bin .eql (.t 3) (.z 20)),
 .j 69 (.mov (.t 70))]
@[go_sem] def q82_48 : List AI := [
 .j 71 (.bin .eql (.t 3) (.z 27)),
 .j 69 (.mov (.t 71))]
@[go_sem] def q82_49 : List AI := [
 .j 72 (.bin .eql (.t 3) (.z 28)),
 .j 69 (.mov (.t 72))]
@[go_sem] def q82_50 : List AI := [
 .j 73 (.build [(.str []), (.int .i64 0), (.int .i64 0), (.int .i64 0), (.int .i64 0), (.int .i64 0)] [(1, 1, (.z 1))]),
 .e (.store 6 (.t 2) (.t 73))]
@[go_sem] def q82_51 : List AI := [
 .j 74 (.build [(.str []), (.int .i64 0), (.int .i64 0), (.int .i64 0), (.int .i64 0), (.int .i64 0)] [(1, 1, (.z 8))]),
 .e (.store 6 (.t 2) (.t 74))]
@[go_sem] def opcode_shape_c : AC := .seq (.ops [q82_0]) (.seq (.seq (.ops [q82_1]) (.block 0 (.seq (.ops [q82_2]) (.cond (.t 4) (.seq (.ops [q82_3]) (.ret)) (.seq (.seq (.ops [q82_4]) (.cond (.t 7) (.skip) (.ops [q82_5]))) (.cond (.t 7) (.seq (.ops [q82_6]) (.ret)) (.seq (.ops [q82_7]) (.cond (.t 11) (.seq (.ops [q82_8]) (.ret)) (.seq (.ops [q82_9]) (.cond (.t 14) (.seq (.ops [q82_10]) (.ret)) (.seq (.ops [q82_11]) (.cond (.t 17) (.seq (.ops [q82_12]) (.ret)) (.seq (.ops [q82_13]) (.cond (.t 20) (.seq (.ops [q82_14]) (.ret)) (.seq (.ops [q82_15]) (.cond (.t 23) (.seq (.ops [q82_16]) (.ret)) (.seq (.seq (.ops [q82_17]) (.cond (.t 26) (.skip) (.ops [q82_18]))) (.cond (.t 26) (.seq (.ops [q82_19]) (.ret)) (.seq (.ops [q82_20]) (.cond (.t 30) (.seq (.ops [q82_21]) (.ret)) (.seq (.ops [q82_22]) (.cond (.t 33) (.seq (.ops [q82_23]) (.ret)) (.seq (.ops [q82_24]) (.cond (.t 36) (.seq (.ops [q82_25]) (.ret)) (.seq (.ops [q82_26]) (.cond (.t 39) (.seq (.ops [q82_27]) (.ret)) (.seq (.ops [q82_28]) (.cond (.t 42) (.seq (.ops [q82_29]) (.ret)) (.seq (.ops [q82_30]) (.cond (.t 45) (.seq (.ops [q82_31]) (.ret)) (.seq (.seq (.ops [q82_32]) (.cond (.t 48) (.skip) (.ops [q82_33]))) (.cond (.t 48) (.seq (.ops [q82_34]) (.ret)) (.seq (.ops [q82_35]) (.cond (.t 52) (.seq (.ops [q82_36]) (.ret)) (.seq (.ops [q82_37]) (.cond (.t 55) (.seq (.ops [q82_38]) (.ret)) (.seq (.ops [q82_39]) (.cond (.t 58) (.seq (.ops [q82_40]) (.ret)) (.seq (.seq (.ops [q82_41]) (.cond (.t 61) (.skip) (.seq (.ops [q82_42]) (.cond (.t 61) (.skip) (.ops [q82_43]))))) (.cond (.t 61) (.seq (.ops [q82_44]) (.ret)) (.seq (.ops [q82_45]) (.cond (.t 66) (.seq (.ops [q82_46]) (.ret)) (.seq (.seq (.ops [q82_47]) (.cond (.t 69) (.skip) (.seq (.ops [q82_48]) (.cond (.t 69) (.skip) (.ops [q82_49]))))) (.cond (.t 69) (.seq (.ops [q82_50]) (.ret)) (.skip))))))))))))))))))))))))))))))))))))))))))))) (.seq (.ops [q82_51]) (.ret)))
theorem opcode_shape_ok : compF Tryz.prog 82 = some (75, opcode_shape_c, [.c 2 6 true]) := by kernel_rfl

@[go_sem] def q83_0 : List AI := [
 .j 3 (.mov (.t 0)),
 .j 4 (.len 0 (.t 3)),
 .j 2 (.mov (.t 4))]
@[go_sem] def q83_1 : List AI := [
 .j 5 (.mov (.t 0)),
 .j 6 (.mov (.t 2)),
 .j 7 (.mov (.t 2)),
 .j 8 (.conv .u64 (.t 7)),
 .j 9 (.call 96 [(.t 8)]),
 .j 10 (.call 95 [(.t 5), (.z 0), (.t 6), (.t 9)])]
@[go_sem] def slices_Sort_int_int_c : AC := .seq (.ops [q83_0]) (.ops [q83_1])
theorem slices_Sort_int_int_ok : compF Tryz.prog 83 = some (11, slices_Sort_int_int_c, []) := by kernel_rfl

@[go_sem] def q84_0 : List AI := [
 .j 2 (.mov (.c .nils))]
@[go_sem] def q84_1 : List AI := [
 .j 6 (.mov (.t 0)),
 .j 7 (.len 0 (.t 6)),
 .j 8 (.bin .lss (.t 7) (.z 2))]
@[go_sem] def q84_2 : List AI := [
 .j 9 (.mov (.t 0)),
 .j 2 (.mov (.t 9))]
@[go_sem] def q84_3 : List AI := [
 .j 3 (.mov (.z 1))]
@[go_sem] def q84_4 : List AI := [
 .j 10 (.mov (.t 3)),
 .j 11 (.mov (.t 0)),
 .j 12 (.len 0 (.t 11)),
 .j 13 (.bin .lss (.t 10) (.t 12))]
@[go_sem] def q84_5 : List AI := [
 .j 16 (.mov (.t 0)),
 .j 17 (.mov (.t 3)),
 .j 18 (.iaddr 1 (.t 16) (.t 17)),
 .j 19 (.load 1 false (.t 18)),
 .j 20 (.mov (.t 0)),
 .j 21 (.mov (.t 3)),
 .j 22 (.bin .sub (.t 21) (.z 1)),
 .j 23 (.iaddr 1 (.t 20) (.t 22)),
 .j 24 (.load 1 false (.t 23)),
 .j 25 (.bin .eql (.t 19) (.t 24))]
@[go_sem] def q84_6 : List AI := [
 .j 26 (.mov (.t 0)),
 .j 27 (.mov (.t 3)),
 .j 28 (.slc 1 (.t 26) (some (.t 27)) none),
 .j 4 (.mov (.t 28))]
@[go_sem] def q84_7 : List AI := [
 .j 5 (.mov (.z 1))]
@[go_sem] def q84_8 : List AI := [
 .j 29 (.mov (.t 5)),
 .j 30 (.mov (.t 4)),
 .j 31 (.len 0 (.t 30)),
 .j 32 (.bin .lss (.t 29) (.t 31))]
@[go_sem] def q84_9 : List AI := [
 .j 35 (.mov (.t 4)),
 .j 36 (.mov (.t 5)),
 .j 37 (.iaddr 1 (.t 35) (.t 36)),
 .j 38 (.load 1 false (.t 37)),
 .j 39 (.mov (.t 4)),
 .j 40 (.mov (.t 5)),
 .j 41 (.bin .sub (.t 40) (.z 1)),
 .j 42 (.iaddr 1 (.t 39) (.t 41)),
 .j 43 (.load 1 false (.t 42)),
 .j 44 (.bin .neq (.t 38) (.t 43))]
@[go_sem] def q84_10 : List AI := [
 .j 45 (.mov (.t 0)),
 .j 46 (.mov (.t 3)),
 .j 47 (.mov (.t 4)),
 .j 48 (.mov (.t 5)),
 .j 49 (.iaddr 1 (.t 47) (.t 48)),
 .j 50 (.load 1 false (.t 49)),
 .j 51 (.iaddr 1 (.t 45) (.t 46)),
 .e (.store 1 (.t 51) (.t 50))]
@[go_sem] def q84_11 : List AI := [
 .j 52 (.mov (.t 3)),
 .j 53 (.bin .add (.t 52) (.z 1)),
 .j 3 (.mov (.t 53))]
@[go_sem] def q84_12 : List AI := [
 .j 33 (.mov (.t 5)),
 .j 34 (.bin .add (.t 33) (.z 1)),
 .j 5 (.mov (.t 34))]
@[go_sem] def slices_Compact_int_int_l1' : AC := .seq (.seq (.ops [q84_8]) (.cond (.t 32) (.skip) (.exit 2))) (.seq (.block 3 (.seq (.ops [q84_9]) (.cond (.t 44) (.seq (.ops [q84_10]) (.ops [q84_11])) (.skip)))) (.ops [q84_12]))
def slices_Compact_int_int_l1 : AC := slices_Compact_int_int_l1'
theorem slices_Compact_int_int_l1_eq : slices_Compact_int_int_l1 = slices_Compact_int_int_l1' := rfl
@[go_sem] def q84_13 : List AI := [
 .j 54 (.mov (.t 0)),
 .j 55 (.mov (.t 3)),
 .j 56 (.slc 1 (.t 54) (some (.t 55)) none),
 .e (.clr [(.int .i64 0)] (.t 56))]
@[go_sem] def q84_14 : List AI := [
 .j 57 (.mov (.t 0)),
 .j 58 (.mov (.t 3)),
 .j 59 (.slc 1 (.t 57) none (some (.t 58))),
 .j 2 (.mov (.t 59))]
@[go_sem] def q84_15 : List AI := [
 .j 14 (.mov (.t 3)),
 .j 15 (.bin .add (.t 14) (.z 1)),
 .j 3 (.mov (.t 15))]
@[go_sem] def slices_Compact_int_int_l0' : AC := .seq (.seq (.ops [q84_4]) (.cond (.t 13) (.skip) (.exit 0))) (.seq (.block 1 (.seq (.ops [q84_5]) (.cond (.t 25) (.seq (.ops [q84_6]) (.seq (.seq (.ops [q84_7]) (.block 2 (.loop slices_Compact_int_int_l1))) (.seq (.ops [q84_13]) (.seq (.ops [q84_14]) (.ret))))) (.skip)))) (.ops [q84_15]))
def slices_Compact_int_int_l0 : AC := slices_Compact_int_int_l0'
theorem slices_Compact_int_int_l0_eq : slices_Compact_int_int_l0 = slices_Compact_int_int_l0' := rfl
@[go_sem] def q84_16 : List AI := [
 .j 60 (.mov (.t 0)),
 .j 2 (.mov (.t 60))]
@[go_sem] def slices_Compact_int_int_c : AC := .seq (.ops [q84_0]) (.seq (.seq (.ops [q84_1]) (.cond (.t 8) (.seq (.ops [q84_2]) (.ret)) (.skip))) (.seq (.seq (.ops [q84_3]) (.block 0 (.loop slices_Compact_int_int_l0))) (.seq (.ops [q84_16]) (.ret))))
theorem slices_Compact_int_int_ok : compF Tryz.prog 84 = some (61, slices_Compact_int_int_c, [.t 2]) := by kernel_rfl

@[go_sem] def q85_0 : List AI := [
 .j 1 (.box 850001 11 (.t 0)),
 .j 2 (.box 850002 3 (.c (.agg [.nils, (.int .i64 0), .nils])))]
@[go_sem] def q85_1 : List AI := [
 .j 5 (.faddr 4 (.t 1)),
 .j 6 (.load 1 false (.t 5)),
 .j 7 (.mksl 850007 [(.bool false)] (.t 6)),
 .j 8 (.build [.nils, (.int .i64 0), .nils] [(0, 1, (.t 7)), (1, 1, (.z (-1)))]),
 .j 3 (.box 850003 3 (.c (.agg [.nils, (.int .i64 0), .nils]))),
 .e (.store 3 (.t 3) (.t 8))]
@[go_sem] def q85_2 : List AI := [
 .j 9 (.faddr 2 (.t 1)),
 .j 10 (.load 1 false (.t 9)),
 .j 11 (.mov (.z 0))]
@[go_sem] def q85_3 : List AI := [
 .j 12 (.bin .lss (.t 11) (.t 10))]
@[go_sem] def q85_4 : List AI := [
 .j 13 (.mov (.t 11)),
 .j 4 (.mov (.t 13))]
@[go_sem] def q85_5 : List AI := [
 .j 14 (.faddr 0 (.t 3)),
 .j 15 (.load 1 false (.t 14)),
 .j 16 (.mov (.t 4)),
 .j 17 (.iaddr 1 (.t 15) (.t 16)),
 .e (.store 1 (.t 17) (.c (.bool true)))]
@[go_sem] def q85_6 : List AI := [
 .j 18 (.bin .add (.t 11) (.z 1)),
 .j 11 (.mov (.t 18))]
@[go_sem] def verify_entry_l0' : AC := .seq (.ops [q85_3]) (.seq (.cond (.t 12) (.skip) (.exit 0)) (.seq (.block 1 (.seq (.ops [q85_4]) (.ops [q85_5]))) (.ops [q85_6])))
def verify_entry_l0 : AC := verify_entry_l0'
theorem verify_entry_l0_eq : verify_entry_l0 = verify_entry_l0' := rfl
@[go_sem] def q85_7 : List AI := [
 .j 19 (.load 3 true (.t 3)),
 .e (.store 3 (.t 2) (.t 19))]
@[go_sem] def verify_entry_c : AC := .seq (.ops [q85_0]) (.seq (.ops [q85_1]) (.seq (.seq (.ops [q85_2]) (.block 0 (.loop verify_entry_l0))) (.seq (.ops [q85_7]) (.ret))))
theorem verify_entry_ok : compF Tryz.prog 85 = some (20, verify_entry_c, [.c 2 3 true]) := by kernel_rfl

@[go_sem] def q86_0 : List AI := [
 .j 3 (.box 860003 11 (.t 0)),
 .j 4 (.box 860004 2 (.t 1)),
 .j 5 (.box 860005 3 (.t 2)),
 .j 6 (.box 860006 3 (.c (.agg [.nils, (.int .i64 0), .nils])))]
@[go_sem] def q86_1 : List AI := [
 .j 10 (.faddr 5 (.t 3)),
 .j 11 (.load 1 false (.t 10)),
 .j 12 (.iaddrA 2 1 (.t 4) (.z 0)),
 .j 13 (.load 1 false (.t 12)),
 .j 14 (.iaddr 5 (.t 11) (.t 13)),
 .j 15 (.load 5 true (.t 14)),
 .j 7 (.box 860007 5 (.c (.agg [(.int .i64 0), (.int .i64 0), (.int .i64 0), (.int .i64 0), (.int .i64 0)]))),
 .e (.store 5 (.t 7) (.t 15))]
@[go_sem] def q86_2 : List AI := [
 .j 16 (.load 5 true (.t 7)),
 .j 17 (.load 3 true (.t 5)),
 .j 18 (.call 97 [(.t 16), (.t 17)]),
 .j 8 (.box 860008 3 (.c (.agg [.nils, (.int .i64 0), .nils]))),
 .e (.store 3 (.t 8) (.t 18))]
@[go_sem] def q86_3 : List AI := [
 .j 19 (.faddr 0 (.t 7)),
 .j 20 (.load 1 false (.t 19)),
 .j 21 (.bin .eql (.t 20) (.z 23)),
 .j 22 (.mov (.t 21)),
 .k 23 22 true (.iaddrA 2 1 (.t 4) (.z 1)),
 .k 24 22 true (.load 1 false (.t 23)),
 .k 25 22 true (.faddr 2 (.t 7)),
 .k 26 22 true (.load 1 false (.t 25)),
 .k 27 22 true (.bin .eql (.t 24) (.t 26)),
 .j 28 (.pick (.t 22) (.t 27) (.c (.bool false))),
 .j 29 (.mov (.t 28)),
 .k 30 29 false (.faddr 0 (.t 7)),
 .k 31 29 false (.load 1 false (.t 30)),
 .k 32 29 false (.bin .eql (.t 31) (.z 24)),
 .k 33 29 false (.mov (.t 32)),
 .k 34 33 true (.iaddrA 2 1 (.t 4) (.z 1)),
 .k 35 33 true (.load 1 false (.t 34)),
 .k 36 33 true (.faddr 2 (.t 7)),
 .k 37 33 true (.load 1 false (.t 36)),
 .k 38 33 true (.bin .neq (.t 35) (.t 37)),
 .k 39 33 true (.mov (.t 38)),
 .k 40 39 false (.faddr 2 (.t 7)),
 .k 41 39 false (.load 1 false (.t 40)),
 .k 42 39 false (.iaddrA 2 1 (.t 4) (.z 0)),
 .k 43 39 false (.load 1 false (.t 42)),
 .k 44 39 false (.bin .add (.t 43) (.z 1)),
 .k 45 39 false (.bin .eql (.t 41) (.t 44)),
 .k 46 33 true (.pick (.t 39) (.c (.bool true)) (.t 45)),
 .k 47 29 false (.pick (.t 33) (.t 46) (.c (.bool false))),
 .j 48 (.pick (.t 29) (.c (.bool true)) (.t 47)),
 .j 9 (.mov (.t 48))]
@[go_sem] def q86_4 : List AI := [
 .j 49 (.mov (.t 9)),
 .j 50 (.mov (.t 49)),
 .k 51 50 true (.faddr 0 (.t 5)),
 .k 52 50 true (.load 1 false (.t 51)),
 .k 53 50 true (.faddr 1 (.t 7)),
 .k 54 50 true (.load 1 false (.t 53)),
 .k 55 50 true (.bin .add (.t 54) (.z 3)),
 .k 56 50 true (.iaddr 1 (.t 52) (.t 55)),
 .k 57 50 true (.load 1 false (.t 56)),
 .k 58 50 true (.un .not (.t 57)),
 .j 59 (.pick (.t 50) (.t 58) (.c (.bool false)))]
@[go_sem] def q86_5 : List AI := [
 .j 60 (.faddr 0 (.t 8)),
 .j 61 (.load 1 false (.t 60)),
 .j 62 (.faddr 1 (.t 7)),
 .j 63 (.load 1 false (.t 62)),
 .j 64 (.bin .add (.t 63) (.z 3)),
 .j 65 (.iaddr 1 (.t 61) (.t 64)),
 .e (.store 1 (.t 65) (.c (.bool false)))]
@[go_sem] def q86_6 : List AI := [
 .j 66 (.load 3 true (.t 8)),
 .e (.store 3 (.t 6) (.t 66))]
@[go_sem] def verify_passed_c : AC := .seq (.ops [q86_0]) (.seq (.ops [q86_1]) (.seq (.ops [q86_2]) (.seq (.ops [q86_3]) (.seq (.seq (.ops [q86_4]) (.cond (.t 59) (.ops [q86_5]) (.skip))) (.seq (.ops [q86_6]) (.ret))))))
theorem verify_passed_ok : compF Tryz.prog 86 = some (67, verify_passed_c, [.c 6 3 true]) := by kernel_rfl

@[go_sem] def q87_0 : List AI := [
 .j 2 (.box 870002 3 (.t 0)),
 .j 3 (.box 870003 3 (.t 1)),
 .j 4 (.mov (.c (.bool false)))]
@[go_sem] def q87_1 : List AI := [
 .j 5 (.mov (.c (.bool false)))]
@[go_sem] def q87_2 : List AI := [
 .j 7 (.faddr 0 (.t 2)),
 .j 8 (.load 1 false (.t 7)),
 .j 9 (.len 0 (.t 8)),
 .j 10 (.mov (.z 0))]
@[go_sem] def q87_3 : List AI := [
 .j 11 (.bin .lss (.t 10) (.t 9))]
@[go_sem] def q87_4 : List AI := [
 .j 12 (.mov (.t 10)),
 .j 6 (.mov (.t 12))]
@[go_sem] def q87_5 : List AI := [
 .j 13 (.faddr 0 (.t 2)),
 .j 14 (.load 1 false (.t 13)),
 .j 15 (.mov (.t 6)),
 .j 16 (.iaddr 1 (.t 14) (.t 15)),
 .j 17 (.load 1 false (.t 16)),
 .j 18 (.mov (.t 17)),
 .k 19 18 true (.faddr 0 (.t 3)),
 .k 20 18 true (.load 1 false (.t 19)),
 .k 21 18 true (.mov (.t 6)),
 .k 22 18 true (.iaddr 1 (.t 20) (.t 21)),
 .k 23 18 true (.load 1 false (.t 22)),
 .k 24 18 true (.un .not (.t 23)),
 .j 25 (.pick (.t 18) (.t 24) (.c (.bool false)))]
@[go_sem] def q87_6 : List AI := [
 .j 26 (.faddr 0 (.t 2)),
 .j 27 (.load 1 false (.t 26)),
 .j 28 (.mov (.t 6)),
 .j 29 (.iaddr 1 (.t 27) (.t 28)),
 .e (.store 1 (.t 29) (.c (.bool false)))]
@[go_sem] def q87_7 : List AI := [
 .j 5 (.mov (.c (.bool true)))]
@[go_sem] def q87_8 : List AI := [
 .j 30 (.bin .add (.t 10) (.z 1)),
 .j 10 (.mov (.t 30))]
@[go_sem] def verify_join_l0' : AC := .seq (.ops [q87_3]) (.seq (.cond (.t 11) (.skip) (.exit 0)) (.seq (.block 1 (.seq (.ops [q87_4]) (.seq (.ops [q87_5]) (.cond (.t 25) (.seq (.ops [q87_6]) (.ops [q87_7])) (.skip))))) (.ops [q87_8])))
def verify_join_l0 : AC := verify_join_l0'
theorem verify_join_l0_eq : verify_join_l0 = verify_join_l0' := rfl
@[go_sem] def q87_9 : List AI := [
 .j 31 (.mov (.t 5)),
 .j 4 (.mov (.t 31))]
@[go_sem] def verify_join_c : AC := .seq (.ops [q87_0]) (.seq (.ops [q87_1]) (.seq (.seq (.ops [q87_2]) (.block 0 (.loop verify_join_l0))) (.seq (.ops [q87_9]) (.ret))))
theorem verify_join_ok : compF Tryz.prog 87 = some (32, verify_join_c, [.t 4]) := by kernel_rfl

@[go_sem] def q88_0 : List AI := [
 .j 2 (.box 880002 11 (.t 0)),
 .j 4 (.mov (.c .nils))]
@[go_sem] def q88_1 : List AI := [
 .j 8 (.mov (.t 1)),
 .j 9 (.bin .lss (.t 8) (.z 0)),
 .j 10 (.mov (.t 9)),
 .k 11 10 false (.mov (.t 1)),
 .k 12 10 false (.faddr 5 (.t 2)),
 .k 13 10 false (.load 1 false (.t 12)),
 .k 14 10 false (.len 0 (.t 13)),
 .k 15 10 false (.bin .geq (.t 11) (.t 14)),
 .j 16 (.pick (.t 10) (.c (.bool true)) (.t 15))]
@[go_sem] def q88_2 : List AI := [
 .j 4 (.mov (.c .nils))]
@[go_sem] def q88_3 : List AI := [
 .j 5 (.mov (.c .nils))]
@[go_sem] def q88_4 : List AI := [
 .j 18 (.faddr 5 (.t 2)),
 .j 19 (.load 1 false (.t 18)),
 .j 20 (.mov (.t 1)),
 .j 21 (.iaddr 5 (.t 19) (.t 20)),
 .j 22 (.load 5 true (.t 21)),
 .j 23 (.call 61 [(.t 22)]),
 .j 17 (.mov (.t 23)),
 .j 24 (.ext 0 (.t 17)),
 .j 25 (.ext 1 (.t 17)),
 .j 6 (.mov (.t 24)),
 .j 7 (.mov (.t 25))]
@[go_sem] def q88_5 : List AI := [
 .j 26 (.mov (.t 7)),
 .j 27 (.mov (.t 26)),
 .k 28 27 true (.mov (.t 6)),
 .k 29 27 true (.bin .geq (.t 28) (.z 0)),
 .j 30 (.pick (.t 27) (.t 29) (.c (.bool false))),
 .j 31 (.mov (.t 30)),
 .k 32 31 true (.mov (.t 6)),
 .k 33 31 true (.faddr 5 (.t 2)),
 .k 34 31 true (.load 1 false (.t 33)),
 .k 35 31 true (.len 0 (.t 34)),
 .k 36 31 true (.bin .lss (.t 32) (.t 35)),
 .j 37 (.pick (.t 31) (.t 36) (.c (.bool false)))]
@[go_sem] def q88_6 : List AI := [
 .j 38 (.mov (.t 5)),
 .j 39 (.mov (.t 6)),
 .j 40 (.mkisl 1 [(.t 39)]),
 .j 41 (.app 880041 1 (.t 38) (.t 40)),
 .j 5 (.mov (.t 41))]
@[go_sem] def q88_7 : List AI := [
 .j 42 (.faddr 5 (.t 2)),
 .j 43 (.load 1 false (.t 42)),
 .j 44 (.mov (.t 1)),
 .j 45 (.iaddr 5 (.t 43) (.t 44)),
 .j 46 (.load 5 true (.t 45)),
 .j 47 (.call 89 [(.t 46)]),
 .j 48 (.mov (.t 47)),
 .k 49 48 true (.mov (.t 1)),
 .k 50 48 true (.bin .add (.t 49) (.z 1)),
 .k 51 48 true (.faddr 5 (.t 2)),
 .k 52 48 true (.load 1 false (.t 51)),
 .k 53 48 true (.len 0 (.t 52)),
 .k 54 48 true (.bin .lss (.t 50) (.t 53)),
 .j 55 (.pick (.t 48) (.t 54) (.c (.bool false)))]
@[go_sem] def q88_8 : List AI := [
 .j 56 (.mov (.t 5)),
 .j 57 (.mov (.t 1)),
 .j 58 (.bin .add (.t 57) (.z 1)),
 .j 59 (.mkisl 1 [(.t 58)]),
 .j 60 (.app 880060 1 (.t 56) (.t 59)),
 .j 5 (.mov (.t 60))]
@[go_sem] def q88_9 : List AI := [
 .j 61 (.mov (.t 5)),
 .j 62 (.call 83 [(.t 61)])]
@[go_sem] def q88_10 : List AI := [
 .j 63 (.mov (.t 5)),
 .j 64 (.call 84 [(.t 63)]),
 .j 4 (.mov (.t 64))]
@[go_sem] def flow_Next_c : AC := .seq (.ops [q88_0]) (.seq (.seq (.ops [q88_1]) (.cond (.t 16) (.seq (.ops [q88_2]) (.ret)) (.skip))) (.seq (.ops [q88_3]) (.seq (.seq (.ops [q88_4]) (.seq (.ops [q88_5]) (.cond (.t 37) (.ops [q88_6]) (.skip)))) (.seq (.seq (.ops [q88_7]) (.cond (.t 55) (.ops [q88_8]) (.skip))) (.seq (.ops [q88_9]) (.seq (.ops [q88_10]) (.ret)))))))
theorem flow_Next_ok : compF Tryz.prog 88 = some (65, flow_Next_c, [.t 4]) := by kernel_rfl

@[go_sem] def q89_0 : List AI := [
 .j 1 (.box 890001 5 (.t 0)),
 .j 2 (.mov (.c (.bool false)))]
@[go_sem] def q89_1 : List AI := [
 .j 3 (.faddr 0 (.t 1)),
 .j 4 (.load 1 false (.t 3)),
 .j 5 (.bin .neq (.t 4) (.z 14)),
 .j 6 (.mov (.t 5)),
 .k 7 6 true (.faddr 0 (.t 1)),
 .k 8 6 true (.load 1 false (.t 7)),
 .k 9 6 true (.bin .neq (.t 8) (.z 17)),
 .j 10 (.pick (.t 6) (.t 9) (.c (.bool false))),
 .j 11 (.mov (.t 10)),
 .k 12 11 true (.faddr 0 (.t 1)),
 .k 13 11 true (.load 1 false (.t 12)),
 .k 14 11 true (.bin .neq (.t 13) (.z 18)),
 .j 15 (.pick (.t 11) (.t 14) (.c (.bool false))),
 .j 2 (.mov (.t 15))]
@[go_sem] def opcode_Falls_c : AC := .seq (.ops [q89_0]) (.seq (.ops [q89_1]) (.ret))
theorem opcode_Falls_ok : compF Tryz.prog 89 = some (16, opcode_Falls_c, [.t 2]) := by kernel_rfl

@[go_sem] def q90_0 : List AI := [
 .j 3 (.box 900003 11 (.t 0)),
 .j 4 (.box 900004 5 (.t 1)),
 .j 5 (.box 900005 3 (.t 2)),
 .j 6 (.mov (.c (.bool false)))]
@[go_sem] def q90_1 : List AI := [
 .j 13 (.load 5 true (.t 4)),
 .j 14 (.call 58 [(.t 13)]),
 .j 12 (.mov (.t 14)),
 .j 15 (.ext 0 (.t 12)),
 .j 16 (.ext 1 (.t 12)),
 .j 7 (.mov (.t 15)),
 .j 8 (.mov (.t 16))]
@[go_sem] def q90_2 : List AI := [
 .j 17 (.mov (.t 8)),
 .j 18 (.bin .geq (.t 17) (.z 0)),
 .j 19 (.faddr 1 (.t 5)),
 .j 20 (.load 1 false (.t 19)),
 .j 21 (.bin .geq (.t 20) (.z 0)),
 .j 22 (.eqp 2 true (.t 18) (.t 21)),
 .j 23 (.mov (.t 22)),
 .k 24 23 false (.mov (.t 8)),
 .k 25 23 false (.faddr 1 (.t 5)),
 .k 26 23 false (.load 1 false (.t 25)),
 .k 27 23 false (.bin .gtr (.t 24) (.t 26)),
 .j 28 (.pick (.t 23) (.c (.bool true)) (.t 27))]
@[go_sem] def q90_3 : List AI := [
 .j 6 (.mov (.c (.bool false)))]
@[go_sem] def q90_4 : List AI := [
 .j 29 (.mov (.t 8)),
 .j 9 (.mov (.t 29))]
@[go_sem] def q90_5 : List AI := [
 .j 30 (.mov (.t 9)),
 .j 31 (.bin .geq (.t 30) (.z 0)),
 .j 32 (.mov (.t 31)),
 .k 33 32 true (.mov (.t 9)),
 .k 34 32 true (.faddr 1 (.t 5)),
 .k 35 32 true (.load 1 false (.t 34)),
 .k 36 32 true (.bin .lss (.t 33) (.t 35)),
 .j 37 (.pick (.t 32) (.t 36) (.c (.bool false)))]
@[go_sem] def q90_6 : List AI := [
 .j 40 (.mov (.t 7)),
 .j 41 (.mov (.t 9)),
 .j 42 (.mkisl 1 [(.t 41)]),
 .j 43 (.app 900043 1 (.t 40) (.t 42)),
 .j 7 (.mov (.t 43))]
@[go_sem] def q90_7 : List AI := [
 .j 38 (.mov (.t 9)),
 .j 39 (.bin .add (.t 38) (.z 1)),
 .j 9 (.mov (.t 39))]
@[go_sem] def verify_reads_l0' : AC := .seq (.seq (.ops [q90_5]) (.cond (.t 37) (.skip) (.exit 0))) (.seq (.block 1 (.ops [q90_6])) (.ops [q90_7]))
def verify_reads_l0 : AC := verify_reads_l0'
theorem verify_reads_l0_eq : verify_reads_l0 = verify_reads_l0' := rfl
@[go_sem] def q90_8 : List AI := [
 .j 44 (.faddr 0 (.t 4)),
 .j 45 (.load 1 false (.t 44)),
 .j 46 (.bin .eql (.t 45) (.z 22))]
@[go_sem] def q90_9 : List AI := [
 .j 47 (.faddr 8 (.t 3)),
 .j 48 (.load 1 false (.t 47)),
 .j 49 (.faddr 2 (.t 4)),
 .j 50 (.load 1 false (.t 49)),
 .j 51 (.iaddr 11 (.t 48) (.t 50)),
 .j 52 (.faddr 9 (.t 51)),
 .j 53 (.load 1 false (.t 52)),
 .j 54 (.len 0 (.t 53)),
 .j 55 (.mov (.z 0))]
@[go_sem] def q90_10 : List AI := [
 .j 56 (.bin .lss (.t 55) (.t 54))]
@[go_sem] def q90_11 : List AI := [
 .j 57 (.iaddr 3 (.t 53) (.t 55)),
 .j 58 (.load 3 true (.t 57)),
 .j 11 (.box 900011 3 (.c (.agg [(.str []), (.bool false), (.int .i64 0)]))),
 .e (.store 3 (.t 11) (.t 58))]
@[go_sem] def q90_12 : List AI := [
 .j 59 (.faddr 1 (.t 11)),
 .j 60 (.load 1 false (.t 59))]
@[go_sem] def q90_13 : List AI := [
 .j 61 (.mov (.t 7)),
 .j 62 (.faddr 2 (.t 11)),
 .j 63 (.load 1 false (.t 62)),
 .j 64 (.mkisl 1 [(.t 63)]),
 .j 65 (.app 900065 1 (.t 61) (.t 64)),
 .j 7 (.mov (.t 65))]
@[go_sem] def q90_14 : List AI := [
 .j 66 (.bin .add (.t 55) (.z 1)),
 .j 55 (.mov (.t 66))]
@[go_sem] def verify_reads_l1' : AC := .seq (.ops [q90_10]) (.seq (.cond (.t 56) (.skip) (.exit 2)) (.seq (.block 3 (.seq (.ops [q90_11]) (.seq (.ops [q90_12]) (.cond (.t 60) (.ops [q90_13]) (.skip))))) (.ops [q90_14])))
def verify_reads_l1 : AC := verify_reads_l1'
theorem verify_reads_l1_eq : verify_reads_l1 = verify_reads_l1' := rfl
@[go_sem] def q90_15 : List AI := [
 .j 67 (.mov (.t 7)),
 .j 68 (.mkfn 98 [(.t 5)]),
 .j 69 (.call 53 [(.t 67), (.t 68)]),
 .j 70 (.un .not (.t 69)),
 .j 6 (.mov (.t 70))]
@[go_sem] def verify_reads_c : AC := .seq (.ops [q90_0]) (.seq (.ops [q90_1]) (.seq (.seq (.ops [q90_2]) (.cond (.t 28) (.seq (.ops [q90_3]) (.ret)) (.skip))) (.seq (.seq (.ops [q90_4]) (.block 0 (.loop verify_reads_l0))) (.seq (.seq (.ops [q90_8]) (.cond (.t 46) (.seq (.ops [q90_9]) (.block 2 (.loop verify_reads_l1))) (.skip))) (.seq (.ops [q90_15]) (.ret))))))
theorem verify_reads_ok : compF Tryz.prog 90 = some (71, verify_reads_c, [.t 6]) := by kernel_rfl

@[go_sem] def q91_0 : List AI := [
 .j 3 (.mov (.c (.bool false)))]
@[go_sem] def q91_1 : List AI := [
 .j 4 (.mov (.t 0)),
 .j 5 (.faddr 1 (.t 1)),
 .j 6 (.load 1 false (.t 5)),
 .j 7 (.bin .geq (.t 4) (.t 6)),
 .j 3 (.mov (.t 7))]
@[go_sem] def verify_violates_1_c : AC := .seq (.ops [q91_0]) (.seq (.ops [q91_1]) (.ret))
theorem verify_violates_1_ok : compF Tryz.prog 91 = some (8, verify_violates_1_c, [.t 3]) := by kernel_rfl

@[go_sem] def q92_0 : List AI := [
 .j 4 (.mov (.c (.bool false)))]
@[go_sem] def q92_1 : List AI := [
 .j 6 (.mov (.t 0)),
 .j 7 (.len 0 (.t 6)),
 .j 8 (.mov (.t 1)),
 .j 9 (.len 0 (.t 8)),
 .j 10 (.bin .neq (.t 7) (.t 9))]
@[go_sem] def q92_2 : List AI := [
 .j 4 (.mov (.c (.bool false)))]
@[go_sem] def q92_3 : List AI := [
 .j 11 (.mov (.t 0)),
 .j 12 (.len 0 (.t 11)),
 .j 13 (.mov (.z 0))]
@[go_sem] def q92_4 : List AI := [
 .j 14 (.bin .lss (.t 13) (.t 12))]
@[go_sem] def q92_5 : List AI := [
 .j 15 (.mov (.t 13)),
 .j 5 (.mov (.t 15))]
@[go_sem] def q92_6 : List AI := [
 .j 16 (.mov (.t 0)),
 .j 17 (.mov (.t 5)),
 .j 18 (.iaddr 1 (.t 16) (.t 17)),
 .j 19 (.load 1 false (.t 18)),
 .j 20 (.mov (.t 1)),
 .j 21 (.mov (.t 5)),
 .j 22 (.iaddr 1 (.t 20) (.t 21)),
 .j 23 (.load 1 false (.t 22)),
 .j 24 (.bin .neq (.t 19) (.t 23))]
@[go_sem] def q92_7 : List AI := [
 .j 4 (.mov (.c (.bool false)))]
@[go_sem] def q92_8 : List AI := [
 .j 25 (.bin .add (.t 13) (.z 1)),
 .j 13 (.mov (.t 25))]
@[go_sem] def slices_Equal_int_int_l0' : AC := .seq (.ops [q92_4]) (.seq (.cond (.t 14) (.skip) (.exit 0)) (.seq (.block 1 (.seq (.ops [q92_5]) (.seq (.ops [q92_6]) (.cond (.t 24) (.seq (.ops [q92_7]) (.ret)) (.skip))))) (.ops [q92_8])))
def slices_Equal_int_int_l0 : AC := slices_Equal_int_int_l0'
theorem slices_Equal_int_int_l0_eq : slices_Equal_int_int_l0 = slices_Equal_int_int_l0' := rfl
@[go_sem] def q92_9 : List AI := [
 .j 4 (.mov (.c (.bool true)))]
@[go_sem] def slices_Equal_int_int_c : AC := .seq (.ops [q92_0]) (.seq (.seq (.ops [q92_1]) (.cond (.t 10) (.seq (.ops [q92_2]) (.ret)) (.skip))) (.seq (.seq (.ops [q92_3]) (.block 0 (.loop slices_Equal_int_int_l0))) (.seq (.ops [q92_9]) (.ret))))
theorem slices_Equal_int_int_ok : compF Tryz.prog 92 = some (26, slices_Equal_int_int_c, [.t 4]) := by kernel_rfl

@[go_sem] def q97_0 : List AI := [
 .j 2 (.box 970002 5 (.t 0)),
 .j 3 (.box 970003 3 (.t 1)),
 .j 4 (.box 970004 3 (.c (.agg [.nils, (.int .i64 0), .nils])))]
@[go_sem] def q97_1_0 : List AI := [
 .j 10 (.faddr 0 (.t 3)),
 .j 11 (.load 1 false (.t 10)),
 .j 13 (.faddr 2 (.t 3)),
 .j 14 (.load 1 false (.t 13)),
 .j 12 (.call 111 [(.t 11)]),
 .j 15 (.call 44 [(.t 14)]),
 .j 16 (.build [.nils, (.int .i64 0), .nils] [(0, 1, (.t 12)), (1, 1, (.z (-1))), (2, 1, (.t 15))]),
 .j 5 (.box 970005 3 (.c (.agg [.nils, (.int .i64 0), .nils]))),
 .e (.store 3 (.t 5) (.t 16))]
@[go_sem] def q97_1_1 : List AI := [
 .j 10 (.faddr 0 (.t 3)),
 .j 11 (.load 1 false (.t 10)),
 .j 13 (.faddr 2 (.t 3)),
 .j 14 (.load 1 false (.t 13)),
 .j 12 (.call 111 [(.t 11)]),
 .j 5 (.box 970005 3 (.c (.agg [.nils, (.int .i64 0), .nils]))),
 .j 15 (.call 44 [(.t 14)]),
 .j 16 (.build [.nils, (.int .i64 0), .nils] [(0, 1, (.t 12)), (1, 1, (.z (-1))), (2, 1, (.t 15))]),
 .e (.store 3 (.t 5) (.t 16))]
@[go_sem] def q97_1_2 : List AI := [
 .j 10 (.faddr 0 (.t 3)),
 .j 11 (.load 1 false (.t 10)),
 .j 13 (.faddr 2 (.t 3)),
 .j 14 (.load 1 false (.t 13)),
 .j 5 (.box 970005 3 (.c (.agg [.nils, (.int .i64 0), .nils]))),
 .j 12 (.call 111 [(.t 11)]),
 .j 15 (.call 44 [(.t 14)]),
 .j 16 (.build [.nils, (.int .i64 0), .nils] [(0, 1, (.t 12)), (1, 1, (.z (-1))), (2, 1, (.t 15))]),
 .e (.store 3 (.t 5) (.t 16))]
@[go_sem] def q97_1_3 : List AI := [
 .j 10 (.faddr 0 (.t 3)),
 .j 11 (.load 1 false (.t 10)),
 .j 13 (.faddr 2 (.t 3)),
 .j 5 (.box 970005 3 (.c (.agg [.nils, (.int .i64 0), .nils]))),
 .j 14 (.load 1 false (.t 13)),
 .j 12 (.call 111 [(.t 11)]),
 .j 15 (.call 44 [(.t 14)]),
 .j 16 (.build [.nils, (.int .i64 0), .nils] [(0, 1, (.t 12)), (1, 1, (.z (-1))), (2, 1, (.t 15))]),
 .e (.store 3 (.t 5) (.t 16))]
@[go_sem] def q97_1_4 : List AI := [
 .j 10 (.faddr 0 (.t 3)),
 .j 11 (.load 1 false (.t 10)),
 .j 13 (.faddr 2 (.t 3)),
 .j 12 (.call 111 [(.t 11)]),
 .j 14 (.load 1 false (.t 13)),
 .j 15 (.call 44 [(.t 14)]),
 .j 16 (.build [.nils, (.int .i64 0), .nils] [(0, 1, (.t 12)), (1, 1, (.z (-1))), (2, 1, (.t 15))]),
 .j 5 (.box 970005 3 (.c (.agg [.nils, (.int .i64 0), .nils]))),
 .e (.store 3 (.t 5) (.t 16))]
@[go_sem] def q97_1_5 : List AI := [
 .j 10 (.faddr 0 (.t 3)),
 .j 11 (.load 1 false (.t 10)),
 .j 13 (.faddr 2 (.t 3)),
 .j 12 (.call 111 [(.t 11)]),
 .j 14 (.load 1 false (.t 13)),
 .j 5 (.box 970005 3 (.c (.agg [.nils, (.int .i64 0), .nils]))),
 .j 15 (.call 44 [(.t 14)]),
 .j 16 (.build [.nils, (.int .i64 0), .nils] [(0, 1, (.t 12)), (1, 1, (.z (-1))), (2, 1, (.t 15))]),
 .e (.store 3 (.t 5) (.t 16))]
@[go_sem] def q97_1_6 : List AI := [
 .j 10 (.faddr 0 (.t 3)),
 .j 11 (.load 1 false (.t 10)),
 .j 13 (.faddr 2 (.t 3)),
 .j 12 (.call 111 [(.t 11)]),
 .j 5 (.box 970005 3 (.c (.agg [.nils, (.int .i64 0), .nils]))),
 .j 14 (.load 1 false (.t 13)),
 .j 15 (.call 44 [(.t 14)]),
 .j 16 (.build [.nils, (.int .i64 0), .nils] [(0, 1, (.t 12)), (1, 1, (.z (-1))), (2, 1, (.t 15))]),
 .e (.store 3 (.t 5) (.t 16))]
@[go_sem] def q97_1_7 : List AI := [
 .j 10 (.faddr 0 (.t 3)),
 .j 11 (.load 1 false (.t 10)),
 .j 13 (.faddr 2 (.t 3)),
 .j 5 (.box 970005 3 (.c (.agg [.nils, (.int .i64 0), .nils]))),
 .j 12 (.call 111 [(.t 11)]),
 .j 14 (.load 1 false (.t 13)),
 .j 15 (.call 44 [(.t 14)]),
 .j 16 (.build [.nils, (.int .i64 0), .nils] [(0, 1, (.t 12)), (1, 1, (.z (-1))), (2, 1, (.t 15))]),
 .e (.store 3 (.t 5) (.t 16))]
@[go_sem] def q97_1_8 : List AI := [
 .j 10 (.faddr 0 (.t 3)),
 .j 13 (.faddr 2 (.t 3)),
 .j 14 (.load 1 false (.t 13)),
 .j 5 (.box 970005 3 (.c (.agg [.nils, (.int .i64 0), .nils]))),
 .j 11 (.load 1 false (.t 10)),
 .j 12 (.call 111 [(.t 11)]),
 .j 15 (.call 44 [(.t 14)]),
 .j 16 (.build [.nils, (.int .i64 0), .nils] [(0, 1, (.t 12)), (1, 1, (.z (-1))), (2, 1, (.t 15))]),
 .e (.store 3 (.t 5) (.t 16))]
@[go_sem] def q97_1_9 : List AI := [
 .j 10 (.faddr 0 (.t 3)),
 .j 13 (.faddr 2 (.t 3)),
 .j 5 (.box 970005 3 (.c (.agg [.nils, (.int .i64 0), .nils]))),
 .j 11 (.load 1 false (.t 10)),
 .j 14 (.load 1 false (.t 13)),
 .j 12 (.call 111 [(.t 11)]),
 .j 15 (.call 44 [(.t 14)]),
 .j 16 (.build [.nils, (.int .i64 0), .nils] [(0, 1, (.t 12)), (1, 1, (.z (-1))), (2, 1, (.t 15))]),
 .e (.store 3 (.t 5) (.t 16))]
@[go_sem] def q97_1_10 : List AI := [
 .j 10 (.faddr 0 (.t 3)),
 .j 13 (.faddr 2 (.t 3)),
 .j 5 (.box 970005 3 (.c (.agg [.nils, (.int .i64 0), .nils]))),
 .j 11 (.load 1 false (.t 10)),
 .j 12 (.call 111 [(.t 11)]),
 .j 14 (.load 1 false (.t 13)),
 .j 15 (.call 44 [(.t 14)]),
 .j 16 (.build [.nils, (.int .i64 0), .nils] [(0, 1, (.t 12)), (1, 1, (.z (-1))), (2, 1, (.t 15))]),
 .e (.store 3 (.t 5) (.t 16))]
@[go_sem] def q97_2 : List AI := [
 .j 17 (.faddr 0 (.t 2)),
 .j 18 (.load 1 false (.t 17))]
@[go_sem] def q97_3 : List AI := [
 .j 20 (.bin .eql (.t 18) (.z 16)),
 .j 19 (.mov (.t 20))]
@[go_sem] def q97_4 : List AI := [
 .j 21 (.faddr 0 (.t 5)),
 .j 22 (.load 1 false (.t 21)),
 .j 23 (.faddr 1 (.t 2)),
 .j 24 (.load 1 false (.t 23)),
 .j 25 (.call 112 [(.t 22), (.t 24)])]
@[go_sem] def q97_5 : List AI := [
 .j 27 (.bin .eql (.t 18) (.z 25)),
 .j 26 (.mov (.t 27))]
@[go_sem] def q97_6 : List AI := [
 .j 28 (.faddr 0 (.t 5)),
 .j 29 (.load 1 false (.t 28)),
 .j 30 (.faddr 1 (.t 2)),
 .j 31 (.load 1 false (.t 30)),
 .j 32 (.bin .add (.t 31) (.z 3)),
 .j 33 (.call 112 [(.t 29), (.t 32)])]
@[go_sem] def q97_7 : List AI := [
 .j 35 (.bin .eql (.t 18) (.z 28)),
 .j 34 (.mov (.t 35))]
@[go_sem] def q97_8 : List AI := [
 .j 36 (.faddr 2 (.t 5)),
 .j 37 (.load 1 false (.t 36)),
 .j 38 (.faddr 1 (.t 2)),
 .j 39 (.load 1 false (.t 38)),
 .j 40 (.mkisl 1 [(.t 39)]),
 .j 41 (.app 970041 1 (.t 37) (.t 40)),
 .j 42 (.faddr 2 (.t 5)),
 .e (.store 1 (.t 42) (.t 41))]
@[go_sem] def q97_9 : List AI := [
 .j 44 (.bin .eql (.t 18) (.z 27)),
 .j 43 (.mov (.t 44))]
@[go_sem] def q97_10 : List AI := [
 .j 45 (.faddr 2 (.t 5)),
 .j 46 (.load 1 false (.t 45)),
 .j 47 (.mkfn 114 [(.t 2)]),
 .j 48 (.call 113 [(.t 46), (.t 47)]),
 .j 49 (.faddr 2 (.t 5)),
 .e (.store 1 (.t 49) (.t 48))]
@[go_sem] def q97_11 : List AI := [
 .j 51 (.load 5 true (.t 2)),
 .j 52 (.call 59 [(.t 51)]),
 .j 50 (.mov (.t 52)),
 .j 53 (.ext 0 (.t 50)),
 .j 54 (.ext 1 (.t 50)),
 .j 6 (.mov (.t 53)),
 .j 7 (.mov (.t 54))]
@[go_sem] def q97_12 : List AI := [
 .j 55 (.mov (.t 6)),
 .j 56 (.len 0 (.t 55)),
 .j 57 (.mov (.z 0))]
@[go_sem] def q97_13 : List AI := [
 .j 58 (.bin .lss (.t 57) (.t 56))]
@[go_sem] def q97_14 : List AI := [
 .j 59 (.iaddr 1 (.t 55) (.t 57)),
 .j 60 (.load 1 false (.t 59)),
 .j 9 (.mov (.t 60))]
@[go_sem] def q97_15 : List AI := [
 .j 61 (.faddr 0 (.t 5)),
 .j 62 (.load 1 false (.t 61)),
 .j 63 (.mov (.t 9)),
 .j 64 (.iaddr 1 (.t 62) (.t 63)),
 .e (.store 1 (.t 64) (.c (.bool true)))]
@[go_sem] def q97_16 : List AI := [
 .j 65 (.bin .add (.t 57) (.z 1)),
 .j 57 (.mov (.t 65))]
@[go_sem] def verify_effect_l0' : AC := .seq (.ops [q97_13]) (.seq (.cond (.t 58) (.skip) (.exit 1)) (.seq (.block 2 (.seq (.ops [q97_14]) (.ops [q97_15]))) (.ops [q97_16])))
def verify_effect_l0 : AC := verify_effect_l0'
theorem verify_effect_l0_eq : verify_effect_l0 = verify_effect_l0' := rfl
@[go_sem] def q97_17 : List AI := [
 .j 66 (.mov (.t 7)),
 .j 67 (.bin .geq (.t 66) (.z 0))]
@[go_sem] def q97_18 : List AI := [
 .j 68 (.faddr 0 (.t 5)),
 .j 69 (.load 1 false (.t 68)),
 .j 70 (.mov (.t 7)),
 .j 71 (.call 112 [(.t 69), (.t 70)])]
@[go_sem] def q97_19 : List AI := [
 .j 72 (.mov (.t 7)),
 .j 73 (.faddr 1 (.t 5)),
 .e (.store 1 (.t 73) (.t 72))]
@[go_sem] def q97_20 : List AI := [
 .j 74 (.load 3 true (.t 5)),
 .e (.store 3 (.t 4) (.t 74))]
@[go_sem] def verify_effect_c : AC := .seq (.ops [q97_0]) (.seq (.ops [q97_1_0, q97_1_1, q97_1_2, q97_1_3, q97_1_4, q97_1_5, q97_1_6, q97_1_7, q97_1_8, q97_1_9, q97_1_10]) (.seq (.seq (.ops [q97_2]) (.block 0 (.seq (.ops [q97_3]) (.cond (.t 19) (.ops [q97_4]) (.seq (.ops [q97_5]) (.cond (.t 26) (.ops [q97_6]) (.seq (.ops [q97_7]) (.cond (.t 34) (.ops [q97_8]) (.seq (.ops [q97_9]) (.cond (.t 43) (.ops [q97_10]) (.skip))))))))))) (.seq (.ops [q97_11]) (.seq (.seq (.ops [q97_12]) (.block 1 (.loop verify_effect_l0))) (.seq (.seq (.ops [q97_17]) (.cond (.t 67) (.seq (.ops [q97_18]) (.ops [q97_19])) (.skip))) (.seq (.ops [q97_20]) (.ret)))))))
theorem verify_effect_ok : compF Tryz.prog 97 = some (75, verify_effect_c, [.c 4 3 true]) := by kernel_rfl

@[go_sem] def q98_0 : List AI := [
 .j 3 (.mov (.c (.bool false)))]
@[go_sem] def q98_1 : List AI := [
 .j 4 (.faddr 0 (.t 1)),
 .j 5 (.load 1 false (.t 4)),
 .j 6 (.mov (.t 0)),
 .j 7 (.iaddr 1 (.t 5) (.t 6)),
 .j 8 (.load 1 false (.t 7)),
 .j 9 (.un .not (.t 8)),
 .j 3 (.mov (.t 9))]
@[go_sem] def verify_reads_1_c : AC := .seq (.ops [q98_0]) (.seq (.ops [q98_1]) (.ret))
theorem verify_reads_1_ok : compF Tryz.prog 98 = some (10, verify_reads_1_c, [.t 3]) := by kernel_rfl

@[go_sem] def q111_0 : List AI := [
 .j 2 (.mov (.c .nils))]
@[go_sem] def q111_1 : List AI := [
 .j 3 (.mov (.t 0)),
 .j 4 (.eqn false false (.t 3))]
@[go_sem] def q111_2 : List AI := [
 .j 2 (.mov (.c .nils))]
@[go_sem] def q111_3 : List AI := [
 .j 5 (.mkrow 1110005 1 []),
 .j 6 (.mov (.t 0)),
 .j 7 (.apb 140737488355328 1110007 1 (.t 5) (.t 6)),
 .j 2 (.mov (.t 7))]
@[go_sem] def slices_Clone_bool_bool_c : AC := .seq (.ops [q111_0]) (.seq (.seq (.ops [q111_1]) (.cond (.t 4) (.seq (.ops [q111_2]) (.ret)) (.skip))) (.seq (.ops [q111_3]) (.ret)))
theorem slices_Clone_bool_bool_ok : compF Tryz.prog 111 = some (8, slices_Clone_bool_bool_c, [.t 2]) := by kernel_rfl

@[go_sem] def q112_0 : List AI := [
 .j 5 (.mov (.t 1)),
 .j 4 (.mov (.t 5))]
@[go_sem] def q112_1 : List AI := [
 .j 6 (.mov (.t 4)),
 .j 7 (.mov (.t 0)),
 .j 8 (.len 0 (.t 7)),
 .j 9 (.bin .lss (.t 6) (.t 8))]
@[go_sem] def q112_2 : List AI := [
 .j 12 (.mov (.t 0)),
 .j 13 (.mov (.t 4)),
 .j 14 (.iaddr 1 (.t 12) (.t 13)),
 .e (.store 1 (.t 14) (.c (.bool false)))]
@[go_sem] def q112_3 : List AI := [
 .j 10 (.mov (.t 4)),
 .j 11 (.bin .add (.t 10) (.z 1)),
 .j 4 (.mov (.t 11))]
@[go_sem] def verify_unset_l0' : AC := .seq (.seq (.ops [q112_1]) (.cond (.t 9) (.skip) (.exit 0))) (.seq (.block 1 (.ops [q112_2])) (.ops [q112_3]))
def verify_unset_l0 : AC := verify_unset_l0'
theorem verify_unset_l0_eq : verify_unset_l0 = verify_unset_l0' := rfl
@[go_sem] def verify_unset_c : AC := .seq (.ops [q112_0]) (.block 0 (.loop verify_unset_l0))
theorem verify_unset_ok : compF Tryz.prog 112 = some (15, verify_unset_c, []) := by kernel_rfl

@[go_sem] def q113_0 : List AI := [
 .j 4 (.mov (.c .nils))]
@[go_sem] def q113_1 : List AI := [
 .j 8 (.mov (.t 0)),
 .j 9 (.mov (.t 1)),
 .j 10 (.call 67 [(.t 8), (.t 9)]),
 .j 5 (.mov (.t 10))]
@[go_sem] def q113_2 : List AI := [
 .j 11 (.mov (.t 5)),
 .j 12 (.bin .eql (.t 11) (.z (-1)))]
@[go_sem] def q113_3 : List AI := [
 .j 13 (.mov (.t 0)),
 .j 4 (.mov (.t 13))]
@[go_sem] def q113_4 : List AI := [
 .j 14 (.mov (.t 5)),
 .j 15 (.bin .add (.t 14) (.z 1)),
 .j 6 (.mov (.t 15))]
@[go_sem] def q113_5 : List AI := [
 .j 16 (.mov (.t 6)),
 .j 17 (.mov (.t 0)),
 .j 18 (.len 0 (.t 17)),
 .j 19 (.bin .lss (.t 16) (.t 18))]
@[go_sem] def q113_6 : List AI := [
 .j 22 (.mov (.t 0)),
 .j 23 (.mov (.t 6)),
 .j 24 (.iaddr 1 (.t 22) (.t 23)),
 .j 25 (.load 1 false (.t 24)),
 .j 7 (.mov (.t 25))]
@[go_sem] def q113_7 : List AI := [
 .j 26 (.mov (.t 1)),
 .j 27 (.mov (.t 7)),
 .j 28 (.callv (.t 26) [(.t 27)]),
 .j 29 (.un .not (.t 28))]
@[go_sem] def q113_8 : List AI := [
 .j 30 (.mov (.t 0)),
 .j 31 (.mov (.t 5)),
 .j 32 (.mov (.t 7)),
 .j 33 (.iaddr 1 (.t 30) (.t 31)),
 .e (.store 1 (.t 33) (.t 32))]
@[go_sem] def q113_9 : List AI := [
 .j 34 (.mov (.t 5)),
 .j 35 (.bin .add (.t 34) (.z 1)),
 .j 5 (.mov (.t 35))]
@[go_sem] def q113_10 : List AI := [
 .j 20 (.mov (.t 6)),
 .j 21 (.bin .add (.t 20) (.z 1)),
 .j 6 (.mov (.t 21))]
@[go_sem] def slices_DeleteFunc_int_int_l0' : AC := .seq (.seq (.ops [q113_5]) (.cond (.t 19) (.skip) (.exit 0))) (.seq (.block 1 (.seq (.ops [q113_6]) (.seq (.ops [q113_7]) (.cond (.t 29) (.seq (.ops [q113_8]) (.ops [q113_9])) (.skip))))) (.ops [q113_10]))
def slices_DeleteFunc_int_int_l0 : AC := slices_DeleteFunc_int_int_l0'
theorem slices_DeleteFunc_int_int_l0_eq : slices_DeleteFunc_int_int_l0 = slices_DeleteFunc_int_int_l0' := rfl
@[go_sem] def q113_11 : List AI := [
 .j 36 (.mov (.t 0)),
 .j 37 (.mov (.t 5)),
 .j 38 (.slc 1 (.t 36) (some (.t 37)) none),
 .e (.clr [(.int .i64 0)] (.t 38))]
@[go_sem] def q113_12 : List AI := [
 .j 39 (.mov (.t 0)),
 .j 40 (.mov (.t 5)),
 .j 41 (.slc 1 (.t 39) none (some (.t 40))),
 .j 4 (.mov (.t 41))]
@[go_sem] def slices_DeleteFunc_int_int_c : AC := .seq (.ops [q113_0]) (.seq (.ops [q113_1]) (.seq (.seq (.ops [q113_2]) (.cond (.t 12) (.seq (.ops [q113_3]) (.ret)) (.skip))) (.seq (.seq (.ops [q113_4]) (.block 0 (.loop slices_DeleteFunc_int_int_l0))) (.seq (.ops [q113_11]) (.seq (.ops [q113_12]) (.ret))))))
theorem slices_DeleteFunc_int_int_ok : compF Tryz.prog 113 = some (42, slices_DeleteFunc_int_int_c, [.t 4]) := by kernel_rfl

@[go_sem] def q114_0 : List AI := [
 .j 3 (.mov (.c (.bool false)))]
@[go_sem] def q114_1 : List AI := [
 .j 4 (.mov (.t 0)),
 .j 5 (.faddr 1 (.t 1)),
 .j 6 (.load 1 false (.t 5)),
 .j 7 (.bin .geq (.t 4) (.t 6)),
 .j 3 (.mov (.t 7))]
@[go_sem] def verify_effect_1_c : AC := .seq (.ops [q114_0]) (.seq (.ops [q114_1]) (.ret))
theorem verify_effect_1_ok : compF Tryz.prog 114 = some (8, verify_effect_1_c, [.t 3]) := by kernel_rfl



/-- The functions by number. -/
def exT : List (FuncId × Nat × AC × List RV) := [
  (3, 76, scriptinglaw40_DumpChanged_c, [.t 6]),
  (4, 11, scriptinglaw40_large_c, [.t 2]),
  (5, 78, scriptinglaw40_awake_c, [.t 0]),
  (6, 41, dump_Put_c, [.t 2, .t 3]),
  (7, 71, dump_Get_c, [.c 2 11 true, .t 3]),
  (8, 20, dump_Load_c, [.c 2 11 true, .t 3]),
  (9, 6, scriptingref33_Count_c, [.t 2]),
  (10, 23, scriptingref33_Size_c, [.t 2]),
  (11, 5, scriptinglaw40_small_c, [.c 0 11 true]),
  (12, 33, scriptingref33_Same_c, [.t 4]),
  (13, 19, dump_Sum_c, [.t 2]),
  (14, 16, proto_Check_c, [.c 2 1 false]),
  (15, 181, dump_writer_function_c, []),
  (16, 20, dump_decode_c, [.c 2 11 true, .c 3 1 false]),
  (17, 13, verify_Check_c, [.t 2]),
  (18, 44, scriptingref33_Each_c, [.t 2]),
  (19, 185, scriptingref33_one_c, [.t 4]),
  (20, 20, proto_depth_c, [.t 2]),
  (21, 4, proto_Each_c, [.t 2]),
  (22, 74, proto_single_c, [.t 2]),
  (23, 17, dump_writer_str_c, []),
  (24, 23, dump_writer_num_c, []),
  (25, 23, dump_writer_truth_c, []),
  (26, 43, dump_writer_value_c, []),
  (27, 19, dump_decode_1_c, []),
  (28, 119, dump_reader_function_c, [.c 4 11 true]),
  (29, 7, dump_reader_fail_c, []),
  (30, 23, verify_Explain_c, [.t 2, .t 3, .t 4]),
  (31, 7, proto_Each_1_c, []),
  (32, 23, proto_walk_c, [.t 4]),
  (33, 42, proto_copied_c, [.c 2 11 true]),
  (34, 53, proto_limits_c, [.t 2]),
  (35, 118, proto_form_c, [.t 2]),
  (36, 60, proto_instruction_c, [.t 4]),
  (37, 8, dump_reader_str_c, [.t 2]),
  (38, 24, dump_reader_num_c, [.t 2]),
  (39, 14, dump_reader_truth_c, [.t 2]),
  (40, 22, dump_reader_length_c, [.t 2]),
  (41, 37, dump_reader_value_c, [.c 2 5 true]),
  (42, 42, verify_search_c, [.t 4, .t 5, .t 6]),
  (43, 8, slices_Clone_api_Instr_api_Instr_c, [.t 2]),
  (44, 8, slices_Clone_int_int_c, [.t 2]),
  (45, 8, slices_Clone_api_Value_api_Value_c, [.t 2]),
  (46, 8, slices_Clone_api_Up_api_Up_c, [.t 2]),
  (47, 8, slices_Clone_api_Var_api_Var_c, [.t 2]),
  (48, 6, proto_limits_1_c, [.t 2]),
  (49, 9, slices_ContainsFunc_api_Up_api_Up_c, [.t 4]),
  (50, 8, proto_limits_2_c, [.t 3]),
  (51, 9, slices_ContainsFunc_api_Var_api_Var_c, [.t 4]),
  (52, 8, proto_limits_3_c, [.t 3]),
  (53, 9, slices_ContainsFunc_int_int_c, [.t 4]),
  (54, 5, proto_form_1_c, [.t 2]),
  (55, 6, proto_form_2_c, [.t 2]),
  (56, 74, value_Valid_c, [.t 2]),
  (57, 85, opcode_Check_c, [.t 2]),
  (58, 88, opcode_Reads_c, [.t 2, .t 3]),
  (59, 92, opcode_Writes_c, [.t 2, .t 3]),
  (60, 17, proto_within_c, [.t 6]),
  (61, 14, opcode_Target_c, [.t 2, .t 3]),
  (62, 63, proto_refers_c, [.t 4]),
  (63, 31, dump_reader_take_c, [.t 4]),
  (64, 21, verify_first_c, [.t 2]),
  (65, 19, slices_IndexFunc_api_Up_api_Up_c, [.t 4]),
  (66, 19, slices_IndexFunc_api_Var_api_Var_c, [.t 4]),
  (67, 19, slices_IndexFunc_int_int_c, [.t 4]),
  (68, 33, rational_Valid_c, [.t 2]),
  (69, 25, opcode_of_c, [.c 2 6 true, .t 3]),
  (70, 24, opcode_fields_c, [.c 4 4 true, .c 5 4 true]),
  (71, 29, opcode_between_c, [.t 2, .t 3]),
  (72, 53, opcode_last_c, [.t 4]),
  (73, 7, opcode_sorted_c, [.t 2]),
  (74, 23, opcode_span_c, [.t 4, .t 5]),
  (75, 8, proto_within_1_c, [.t 3]),
  (76, 22, proto_constant_c, [.t 2, .t 3]),
  (77, 56, verify_states_c, [.t 4]),
  (78, 30, verify_edges_c, [.t 2]),
  (79, 109, verify_violates_c, [.t 6]),
  (80, 12, rational_gcd_c, [.t 4]),
  (81, 106, strings_Fields_c, [.t 2]),
  (82, 75, opcode_shape_c, [.c 2 6 true]),
  (83, 11, slices_Sort_int_int_c, []),
  (84, 61, slices_Compact_int_int_c, [.t 2]),
  (85, 20, verify_entry_c, [.c 2 3 true]),
  (86, 67, verify_passed_c, [.c 6 3 true]),
  (87, 32, verify_join_c, [.t 4]),
  (88, 65, flow_Next_c, [.t 4]),
  (89, 16, opcode_Falls_c, [.t 2]),
  (90, 71, verify_reads_c, [.t 6]),
  (91, 8, verify_violates_1_c, [.t 3]),
  (92, 26, slices_Equal_int_int_c, [.t 4]),
  (97, 75, verify_effect_c, [.c 4 3 true]),
  (98, 10, verify_reads_1_c, [.t 3]),
  (111, 8, slices_Clone_bool_bool_c, [.t 2]),
  (112, 15, verify_unset_c, []),
  (113, 42, slices_DeleteFunc_int_int_c, [.t 4]),
  (114, 8, verify_effect_1_c, [.t 3])]
theorem exT_ok : TabOK Tryz.prog exT := 
  (TabOK.cons scriptinglaw40_DumpChanged_ok 
  (TabOK.cons scriptinglaw40_large_ok 
  (TabOK.cons scriptinglaw40_awake_ok 
  (TabOK.cons dump_Put_ok 
  (TabOK.cons dump_Get_ok 
  (TabOK.cons dump_Load_ok 
  (TabOK.cons scriptingref33_Count_ok 
  (TabOK.cons scriptingref33_Size_ok 
  (TabOK.cons scriptinglaw40_small_ok 
  (TabOK.cons scriptingref33_Same_ok 
  (TabOK.cons dump_Sum_ok 
  (TabOK.cons proto_Check_ok 
  (TabOK.cons dump_writer_function_ok 
  (TabOK.cons dump_decode_ok 
  (TabOK.cons verify_Check_ok 
  (TabOK.cons scriptingref33_Each_ok 
  (TabOK.cons scriptingref33_one_ok 
  (TabOK.cons proto_depth_ok 
  (TabOK.cons proto_Each_ok 
  (TabOK.cons proto_single_ok 
  (TabOK.cons dump_writer_str_ok 
  (TabOK.cons dump_writer_num_ok 
  (TabOK.cons dump_writer_truth_ok 
  (TabOK.cons dump_writer_value_ok 
  (TabOK.cons dump_decode_1_ok 
  (TabOK.cons dump_reader_function_ok 
  (TabOK.cons dump_reader_fail_ok 
  (TabOK.cons verify_Explain_ok 
  (TabOK.cons proto_Each_1_ok 
  (TabOK.cons proto_walk_ok 
  (TabOK.cons proto_copied_ok 
  (TabOK.cons proto_limits_ok 
  (TabOK.cons proto_form_ok 
  (TabOK.cons proto_instruction_ok 
  (TabOK.cons dump_reader_str_ok 
  (TabOK.cons dump_reader_num_ok 
  (TabOK.cons dump_reader_truth_ok 
  (TabOK.cons dump_reader_length_ok 
  (TabOK.cons dump_reader_value_ok 
  (TabOK.cons verify_search_ok 
  (TabOK.cons slices_Clone_api_Instr_api_Instr_ok 
  (TabOK.cons slices_Clone_int_int_ok 
  (TabOK.cons slices_Clone_api_Value_api_Value_ok 
  (TabOK.cons slices_Clone_api_Up_api_Up_ok 
  (TabOK.cons slices_Clone_api_Var_api_Var_ok 
  (TabOK.cons proto_limits_1_ok 
  (TabOK.cons slices_ContainsFunc_api_Up_api_Up_ok 
  (TabOK.cons proto_limits_2_ok 
  (TabOK.cons slices_ContainsFunc_api_Var_api_Var_ok 
  (TabOK.cons proto_limits_3_ok 
  (TabOK.cons slices_ContainsFunc_int_int_ok 
  (TabOK.cons proto_form_1_ok 
  (TabOK.cons proto_form_2_ok 
  (TabOK.cons value_Valid_ok 
  (TabOK.cons opcode_Check_ok 
  (TabOK.cons opcode_Reads_ok 
  (TabOK.cons opcode_Writes_ok 
  (TabOK.cons proto_within_ok 
  (TabOK.cons opcode_Target_ok 
  (TabOK.cons proto_refers_ok 
  (TabOK.cons dump_reader_take_ok 
  (TabOK.cons verify_first_ok 
  (TabOK.cons slices_IndexFunc_api_Up_api_Up_ok 
  (TabOK.cons slices_IndexFunc_api_Var_api_Var_ok 
  (TabOK.cons slices_IndexFunc_int_int_ok 
  (TabOK.cons rational_Valid_ok 
  (TabOK.cons opcode_of_ok 
  (TabOK.cons opcode_fields_ok 
  (TabOK.cons opcode_between_ok 
  (TabOK.cons opcode_last_ok 
  (TabOK.cons opcode_sorted_ok 
  (TabOK.cons opcode_span_ok 
  (TabOK.cons proto_within_1_ok 
  (TabOK.cons proto_constant_ok 
  (TabOK.cons verify_states_ok 
  (TabOK.cons verify_edges_ok 
  (TabOK.cons verify_violates_ok 
  (TabOK.cons rational_gcd_ok 
  (TabOK.cons strings_Fields_ok 
  (TabOK.cons opcode_shape_ok 
  (TabOK.cons slices_Sort_int_int_ok 
  (TabOK.cons slices_Compact_int_int_ok 
  (TabOK.cons verify_entry_ok 
  (TabOK.cons verify_passed_ok 
  (TabOK.cons verify_join_ok 
  (TabOK.cons flow_Next_ok 
  (TabOK.cons opcode_Falls_ok 
  (TabOK.cons verify_reads_ok 
  (TabOK.cons verify_violates_1_ok 
  (TabOK.cons slices_Equal_int_int_ok 
  (TabOK.cons verify_effect_ok 
  (TabOK.cons verify_reads_1_ok 
  (TabOK.cons slices_Clone_bool_bool_ok 
  (TabOK.cons verify_unset_ok 
  (TabOK.cons slices_DeleteFunc_int_int_ok 
  (TabOK.cons verify_effect_1_ok TabOK.nil))))))))))))))))))))))))))))))))))))))))))))))))))))))))))))))))))))))))))))))))))))))))))))))))

end Go.Proofs.YtjaamflmnefnkaaGreatDoor
