/-
  The code of the functions that this seat reaches, translated into abstract code (printed by a program, each proved to be the translation). No condition.
-/
import Derived.Test.YtnjbkhidikbeiaaGreatDoorExe
import Derived.Test.YtnjbkhidikbeiaaGreatDoorChecked
set_option maxRecDepth 1000000
namespace Go.Proofs.YtnjbkhidikbeiaaGreatDoor
open Go.Abs

@[go_sem] def q3_0 : List AI := [
 .j 1 (.box 30001 5 (.t 0)),
 .j 2 (.mov (.c (.bool false)))]
@[go_sem] def q3_1 : List AI := [
 .j 10 (.load 5 true (.t 1)),
 .j 11 (.call 4 [(.t 10)]),
 .j 12 (.bin .neq (.t 11) (.z 0))]
@[go_sem] def q3_2 : List AI := [
 .j 13 (.call 5 []),
 .j 2 (.mov (.t 13))]
@[go_sem] def q3_3 : List AI := [
 .j 14 (.load 5 true (.t 1)),
 .j 15 (.call 7 [(.t 14)]),
 .j 16 (.call 6 [(.t 15)]),
 .j 3 (.mov (.t 16))]
@[go_sem] def q3_4 : List AI := [
 .j 17 (.faddr 1 (.t 1)),
 .j 18 (.load 1 false (.t 17)),
 .j 19 (.faddr 2 (.t 1)),
 .j 20 (.load 1 false (.t 19)),
 .j 21 (.faddr 3 (.t 1)),
 .j 22 (.load 1 false (.t 21)),
 .j 23 (.faddr 4 (.t 1)),
 .j 24 (.load 1 false (.t 23)),
 .j 25 (.mkrow 30025 1 [(.t 18), (.t 20), (.t 22), (.t 24)]),
 .j 4 (.mov (.t 25))]
@[go_sem] def q3_5 : List AI := [
 .j 5 (.mov (.z 0)),
 .j 6 (.mov (.z 0))]
@[go_sem] def q3_6 : List AI := [
 .j 26 (.mov (.t 3)),
 .j 27 (.len 0 (.t 26)),
 .j 28 (.mov (.z 0))]
@[go_sem] def q3_7 : List AI := [
 .j 29 (.bin .lss (.t 28) (.t 27))]
@[go_sem] def q3_8 : List AI := [
 .j 30 (.mov (.t 28)),
 .j 7 (.mov (.t 30))]
@[go_sem] def q3_9 : List AI := [
 .j 32 (.mov (.t 3)),
 .j 33 (.mov (.t 7)),
 .j 34 (.iaddr 1 (.t 32) (.t 33)),
 .j 35 (.load 1 false (.t 34)),
 .j 36 (.call 8 [(.t 35)]),
 .j 31 (.mov (.t 36)),
 .j 37 (.ext 0 (.t 31)),
 .j 38 (.ext 1 (.t 31)),
 .j 8 (.box 30008 2 (.c (.agg [(.int .i64 0), (.int .i64 0)]))),
 .e (.store 2 (.t 8) (.t 37)),
 .j 9 (.mov (.t 38))]
@[go_sem] def q3_10 : List AI := [
 .j 39 (.mov (.t 9)),
 .j 40 (.bin .neq (.t 39) (.z 0)),
 .j 41 (.mov (.t 40)),
 .k 42 41 false (.faddr 1 (.t 8)),
 .k 43 41 false (.load 1 false (.t 42)),
 .k 44 41 false (.bin .neq (.t 43) (.z 1)),
 .j 45 (.pick (.t 41) (.c (.bool true)) (.t 44))]
@[go_sem] def q3_11 : List AI := [
 .j 2 (.mov (.c (.bool false)))]
@[go_sem] def q3_12 : List AI := [
 .j 46 (.mov (.t 5)),
 .j 47 (.bin .lss (.t 46) (.z 4)),
 .j 48 (.mov (.t 47)),
 .k 49 48 true (.mov (.t 4)),
 .k 50 48 true (.mov (.t 5)),
 .k 51 48 true (.iaddr 1 (.t 49) (.t 50)),
 .k 52 48 true (.load 1 false (.t 51)),
 .k 53 48 true (.faddr 0 (.t 8)),
 .k 54 48 true (.load 1 false (.t 53)),
 .k 55 48 true (.bin .neq (.t 52) (.t 54)),
 .j 56 (.pick (.t 48) (.t 55) (.c (.bool false)))]
@[go_sem] def q3_13 : List AI := [
 .j 57 (.mov (.t 5)),
 .j 58 (.bin .add (.t 57) (.z 1)),
 .j 5 (.mov (.t 58))]
@[go_sem] def scriptinglaw32_OpcodeFields_l1' : AC := .seq (.seq (.ops [q3_12]) (.cond (.t 56) (.skip) (.exit 2))) (.block 3 (.ops [q3_13]))
def scriptinglaw32_OpcodeFields_l1 : AC := scriptinglaw32_OpcodeFields_l1'
theorem scriptinglaw32_OpcodeFields_l1_eq : scriptinglaw32_OpcodeFields_l1 = scriptinglaw32_OpcodeFields_l1' := rfl
@[go_sem] def q3_14 : List AI := [
 .j 59 (.mov (.t 5)),
 .j 60 (.bin .eql (.t 59) (.z 4))]
@[go_sem] def q3_15 : List AI := [
 .j 2 (.mov (.c (.bool false)))]
@[go_sem] def q3_16 : List AI := [
 .j 61 (.mov (.t 5)),
 .j 62 (.bin .add (.t 61) (.z 1)),
 .j 5 (.mov (.t 62))]
@[go_sem] def q3_17 : List AI := [
 .j 63 (.mov (.t 6)),
 .j 64 (.faddr 0 (.t 8)),
 .j 65 (.load 1 false (.t 64)),
 .j 66 (.bin .add (.t 63) (.t 65)),
 .j 6 (.mov (.t 66))]
@[go_sem] def q3_18 : List AI := [
 .j 67 (.bin .add (.t 28) (.z 1)),
 .j 28 (.mov (.t 67))]
@[go_sem] def scriptinglaw32_OpcodeFields_l0' : AC := .seq (.ops [q3_7]) (.seq (.cond (.t 29) (.skip) (.exit 0)) (.seq (.block 1 (.seq (.ops [q3_8]) (.seq (.ops [q3_9]) (.seq (.seq (.ops [q3_10]) (.cond (.t 45) (.seq (.ops [q3_11]) (.ret)) (.skip))) (.seq (.block 2 (.loop scriptinglaw32_OpcodeFields_l1)) (.seq (.seq (.ops [q3_14]) (.cond (.t 60) (.seq (.ops [q3_15]) (.ret)) (.skip))) (.seq (.ops [q3_16]) (.ops [q3_17])))))))) (.ops [q3_18])))
def scriptinglaw32_OpcodeFields_l0 : AC := scriptinglaw32_OpcodeFields_l0'
theorem scriptinglaw32_OpcodeFields_l0_eq : scriptinglaw32_OpcodeFields_l0 = scriptinglaw32_OpcodeFields_l0' := rfl
@[go_sem] def q3_19 : List AI := [
 .j 68 (.mov (.t 6)),
 .j 69 (.faddr 1 (.t 1)),
 .j 70 (.load 1 false (.t 69)),
 .j 71 (.faddr 2 (.t 1)),
 .j 72 (.load 1 false (.t 71)),
 .j 73 (.bin .add (.t 70) (.t 72)),
 .j 74 (.faddr 3 (.t 1)),
 .j 75 (.load 1 false (.t 74)),
 .j 76 (.bin .add (.t 73) (.t 75)),
 .j 77 (.faddr 4 (.t 1)),
 .j 78 (.load 1 false (.t 77)),
 .j 79 (.bin .add (.t 76) (.t 78)),
 .j 80 (.bin .eql (.t 68) (.t 79)),
 .j 81 (.mov (.t 80)),
 .k 82 81 true (.call 5 []),
 .j 83 (.pick (.t 81) (.t 82) (.c (.bool false))),
 .j 2 (.mov (.t 83))]
@[go_sem] def scriptinglaw32_OpcodeFields_c : AC := .seq (.ops [q3_0]) (.seq (.seq (.ops [q3_1]) (.cond (.t 12) (.seq (.ops [q3_2]) (.ret)) (.skip))) (.seq (.ops [q3_3]) (.seq (.ops [q3_4]) (.seq (.ops [q3_5]) (.seq (.seq (.ops [q3_6]) (.block 0 (.loop scriptinglaw32_OpcodeFields_l0))) (.seq (.ops [q3_19]) (.ret)))))))
theorem scriptinglaw32_OpcodeFields_ok : compF Tryz.prog 3 = some (84, scriptinglaw32_OpcodeFields_c, [.t 2]) := by kernel_rfl

@[go_sem] def q4_0 : List AI := [
 .j 1 (.box 40001 5 (.t 0)),
 .j 2 (.mov (.z 0))]
@[go_sem] def q4_1 : List AI := [
 .j 14 (.faddr 0 (.t 1)),
 .j 15 (.load 1 false (.t 14)),
 .j 16 (.call 9 [(.t 15)]),
 .j 13 (.mov (.t 16)),
 .j 17 (.ext 0 (.t 13)),
 .j 18 (.ext 1 (.t 13)),
 .j 3 (.box 40003 6 (.c (.agg [(.str []), (.int .i64 0), (.int .i64 0), (.int .i64 0), (.int .i64 0), (.int .i64 0)]))),
 .e (.store 6 (.t 3) (.t 17)),
 .j 4 (.mov (.t 18))]
@[go_sem] def q4_2 : List AI := [
 .j 19 (.mov (.t 4)),
 .j 20 (.un .not (.t 19))]
@[go_sem] def q4_3 : List AI := [
 .j 2 (.mov (.z 4))]
@[go_sem] def q4_4 : List AI := [
 .j 22 (.load 6 true (.t 3)),
 .j 23 (.load 5 true (.t 1)),
 .j 24 (.call 10 [(.t 22), (.t 23)]),
 .j 21 (.mov (.t 24)),
 .j 25 (.ext 0 (.t 21)),
 .j 26 (.ext 1 (.t 21)),
 .j 5 (.box 40005 4 (.c (.agg [(.int .i64 0), (.int .i64 0), (.int .i64 0), (.int .i64 0)]))),
 .j 6 (.box 40006 4 (.c (.agg [(.int .i64 0), (.int .i64 0), (.int .i64 0), (.int .i64 0)]))),
 .e (.store 4 (.t 5) (.t 25)),
 .e (.store 4 (.t 6) (.t 26))]
@[go_sem] def q4_5 : List AI := [
 .j 27 (.load 4 true (.t 5)),
 .j 28 (.mov (.z 0))]
@[go_sem] def q4_6 : List AI := [
 .j 29 (.bin .lss (.t 28) (.z 4))]
@[go_sem] def q4_7 : List AI := [
 .j 30 (.mov (.t 28)),
 .j 31 (.idxA 4 1 1 false (.t 27) (.t 28)),
 .j 7 (.mov (.t 30)),
 .j 8 (.mov (.t 31))]
@[go_sem] def q4_8 : List AI := [
 .j 32 (.mov (.t 8)),
 .j 33 (.bin .eql (.t 32) (.z 0)),
 .j 34 (.mov (.t 33)),
 .k 35 34 true (.mov (.t 7)),
 .k 36 34 true (.iaddrA 4 1 (.t 6) (.t 35)),
 .k 37 34 true (.load 1 false (.t 36)),
 .k 38 34 true (.bin .neq (.t 37) (.z 0)),
 .j 39 (.pick (.t 34) (.t 38) (.c (.bool false)))]
@[go_sem] def q4_9 : List AI := [
 .j 2 (.mov (.z 4))]
@[go_sem] def q4_10 : List AI := [
 .j 40 (.bin .add (.t 28) (.z 1)),
 .j 28 (.mov (.t 40))]
@[go_sem] def opcode_Check_l0' : AC := .seq (.ops [q4_6]) (.seq (.cond (.t 29) (.skip) (.exit 0)) (.seq (.block 1 (.seq (.ops [q4_7]) (.seq (.ops [q4_8]) (.cond (.t 39) (.seq (.ops [q4_9]) (.ret)) (.skip))))) (.ops [q4_10])))
def opcode_Check_l0 : AC := opcode_Check_l0'
theorem opcode_Check_l0_eq : opcode_Check_l0 = opcode_Check_l0' := rfl
@[go_sem] def q4_11 : List AI := [
 .j 41 (.load 4 true (.t 5)),
 .j 42 (.mov (.z 0))]
@[go_sem] def q4_12 : List AI := [
 .j 43 (.bin .lss (.t 42) (.z 4))]
@[go_sem] def q4_13 : List AI := [
 .j 44 (.mov (.t 42)),
 .j 45 (.idxA 4 1 1 false (.t 41) (.t 42)),
 .j 9 (.mov (.t 44)),
 .j 10 (.mov (.t 45))]
@[go_sem] def q4_14 : List AI := [
 .j 47 (.mov (.t 10)),
 .j 48 (.call 11 [(.t 47)]),
 .j 46 (.mov (.t 48)),
 .j 49 (.ext 0 (.t 46)),
 .j 50 (.ext 1 (.t 46)),
 .j 11 (.mov (.t 49)),
 .j 12 (.mov (.t 50))]
@[go_sem] def q4_15 : List AI := [
 .j 51 (.mov (.t 9)),
 .j 52 (.iaddrA 4 1 (.t 6) (.t 51)),
 .j 53 (.load 1 false (.t 52)),
 .j 54 (.mov (.t 11)),
 .j 55 (.bin .lss (.t 53) (.t 54)),
 .j 56 (.mov (.t 55)),
 .k 57 56 false (.mov (.t 9)),
 .k 58 56 false (.iaddrA 4 1 (.t 6) (.t 57)),
 .k 59 56 false (.load 1 false (.t 58)),
 .k 60 56 false (.mov (.t 12)),
 .k 61 56 false (.bin .gtr (.t 59) (.t 60)),
 .j 62 (.pick (.t 56) (.c (.bool true)) (.t 61))]
@[go_sem] def q4_16 : List AI := [
 .j 2 (.mov (.z 6))]
@[go_sem] def q4_17 : List AI := [
 .j 63 (.bin .add (.t 42) (.z 1)),
 .j 42 (.mov (.t 63))]
@[go_sem] def opcode_Check_l1' : AC := .seq (.ops [q4_12]) (.seq (.cond (.t 43) (.skip) (.exit 2)) (.seq (.block 3 (.seq (.ops [q4_13]) (.seq (.ops [q4_14]) (.seq (.ops [q4_15]) (.cond (.t 62) (.seq (.ops [q4_16]) (.ret)) (.skip)))))) (.ops [q4_17])))
def opcode_Check_l1 : AC := opcode_Check_l1'
theorem opcode_Check_l1_eq : opcode_Check_l1 = opcode_Check_l1' := rfl
@[go_sem] def q4_18 : List AI := [
 .j 64 (.faddr 1 (.t 3)),
 .j 65 (.load 1 false (.t 64)),
 .j 66 (.bin .eql (.t 65) (.z 1)),
 .j 67 (.mov (.t 66)),
 .k 68 67 true (.load 6 true (.t 3)),
 .k 69 67 true (.load 5 true (.t 1)),
 .k 70 67 true (.call 12 [(.t 68), (.t 69)]),
 .k 71 67 true (.bin .geq (.t 70) (.z 4096)),
 .j 72 (.pick (.t 67) (.t 71) (.c (.bool false))),
 .j 73 (.mov (.t 72)),
 .k 74 73 false (.faddr 0 (.t 1)),
 .k 75 73 false (.load 1 false (.t 74)),
 .k 76 73 false (.bin .eql (.t 75) (.z 3)),
 .k 77 73 false (.mov (.t 76)),
 .k 78 77 true (.faddr 2 (.t 1)),
 .k 79 77 true (.load 1 false (.t 78)),
 .k 80 77 true (.faddr 1 (.t 1)),
 .k 81 77 true (.load 1 false (.t 80)),
 .k 82 77 true (.bin .lss (.t 79) (.t 81)),
 .k 83 73 false (.pick (.t 77) (.t 82) (.c (.bool false))),
 .j 84 (.pick (.t 73) (.c (.bool true)) (.t 83))]
@[go_sem] def q4_19 : List AI := [
 .j 2 (.mov (.z 6))]
@[go_sem] def q4_20 : List AI := [
 .j 2 (.mov (.z 0))]
@[go_sem] def opcode_Check_c : AC := .seq (.ops [q4_0]) (.seq (.ops [q4_1]) (.seq (.seq (.ops [q4_2]) (.cond (.t 20) (.seq (.ops [q4_3]) (.ret)) (.skip))) (.seq (.ops [q4_4]) (.seq (.seq (.ops [q4_5]) (.block 0 (.loop opcode_Check_l0))) (.seq (.seq (.ops [q4_11]) (.block 2 (.loop opcode_Check_l1))) (.seq (.seq (.ops [q4_18]) (.cond (.t 84) (.seq (.ops [q4_19]) (.ret)) (.skip))) (.seq (.ops [q4_20]) (.ret))))))))
theorem opcode_Check_ok : compF Tryz.prog 4 = some (85, opcode_Check_c, [.t 2]) := by kernel_rfl

@[go_sem] def q5_0 : List AI := [
 .j 0 (.mov (.c (.bool false)))]
@[go_sem] def q5_1 : List AI := [
 .j 12 (.build [(.int .i64 0), (.int .i64 0), (.int .i64 0), (.int .i64 0), (.int .i64 0)] [(0, 1, (.z 16)), (1, 1, (.z 3)), (2, 1, (.z (-1))), (3, 1, (.z 2))]),
 .j 1 (.box 50001 5 (.c (.agg [(.int .i64 0), (.int .i64 0), (.int .i64 0), (.int .i64 0), (.int .i64 0)]))),
 .e (.store 5 (.t 1) (.t 12))]
@[go_sem] def q5_2 : List AI := [
 .j 14 (.load 5 true (.t 1)),
 .j 15 (.call 13 [(.t 14)]),
 .j 13 (.mov (.t 15)),
 .j 16 (.ext 0 (.t 13)),
 .j 17 (.ext 1 (.t 13)),
 .j 2 (.mov (.t 16)),
 .j 3 (.mov (.t 17))]
@[go_sem] def q5_3 : List AI := [
 .j 19 (.load 5 true (.t 1)),
 .j 20 (.call 14 [(.t 19)]),
 .j 18 (.mov (.t 20)),
 .j 21 (.ext 0 (.t 18)),
 .j 22 (.ext 1 (.t 18)),
 .j 4 (.mov (.t 21)),
 .j 5 (.mov (.t 22))]
@[go_sem] def q5_4 : List AI := [
 .j 24 (.call 15 [(.c (.str [106, 117, 109, 112, 32, 53]))]),
 .j 23 (.mov (.t 24)),
 .j 25 (.ext 0 (.t 23)),
 .j 26 (.ext 1 (.t 23)),
 .j 6 (.box 50006 5 (.c (.agg [(.int .i64 0), (.int .i64 0), (.int .i64 0), (.int .i64 0), (.int .i64 0)]))),
 .e (.store 5 (.t 6) (.t 25)),
 .j 7 (.mov (.t 26))]
@[go_sem] def q5_5 : List AI := [
 .j 28 (.call 15 [(.c (.str [106, 117, 109, 112]))]),
 .j 27 (.mov (.t 28)),
 .j 29 (.ext 0 (.t 27)),
 .j 30 (.ext 1 (.t 27)),
 .j 8 (.box 50008 5 (.c (.agg [(.int .i64 0), (.int .i64 0), (.int .i64 0), (.int .i64 0), (.int .i64 0)]))),
 .e (.store 5 (.t 8) (.t 29)),
 .j 9 (.mov (.t 30))]
@[go_sem] def q5_6 : List AI := [
 .j 32 (.call 15 [(.c (.str [104, 111, 112, 32, 49]))]),
 .j 31 (.mov (.t 32)),
 .j 33 (.ext 0 (.t 31)),
 .j 34 (.ext 1 (.t 31)),
 .j 10 (.box 50010 5 (.c (.agg [(.int .i64 0), (.int .i64 0), (.int .i64 0), (.int .i64 0), (.int .i64 0)]))),
 .e (.store 5 (.t 10) (.t 33)),
 .j 11 (.mov (.t 34))]
@[go_sem] def q5_7 : List AI := [
 .j 35 (.build [(.int .i64 0), (.int .i64 0), (.int .i64 0), (.int .i64 0), (.int .i64 0)] [(0, 1, (.z 1)), (2, 1, (.z 1)), (3, 1, (.z 1))]),
 .j 36 (.call 4 [(.t 35)]),
 .j 37 (.bin .eql (.t 36) (.z 4)),
 .j 38 (.mov (.t 37)),
 .k 39 38 true (.build [(.int .i64 0), (.int .i64 0), (.int .i64 0), (.int .i64 0), (.int .i64 0)] [(0, 1, (.z 16)), (1, 1, (.z 4095)), (2, 1, (.z 1))]),
 .k 40 38 true (.call 4 [(.t 39)]),
 .k 41 38 true (.bin .eql (.t 40) (.z 6)),
 .j 42 (.pick (.t 38) (.t 41) (.c (.bool false))),
 .j 43 (.mov (.t 42)),
 .k 44 43 true (.mov (.t 2)),
 .k 45 43 true (.mkisl 1 [(.z 3)]),
 .k 46 43 true (.call 16 [(.t 44), (.t 45)]),
 .j 47 (.pick (.t 43) (.t 46) (.c (.bool false))),
 .j 48 (.mov (.t 47)),
 .k 49 48 true (.mov (.t 3)),
 .k 50 48 true (.bin .eql (.t 49) (.z 4)),
 .j 51 (.pick (.t 48) (.t 50) (.c (.bool false))),
 .j 52 (.mov (.t 51)),
 .k 53 52 true (.mov (.t 4)),
 .k 54 52 true (.mkisl 1 [(.z 3), (.z 4)]),
 .k 55 52 true (.call 16 [(.t 53), (.t 54)]),
 .j 56 (.pick (.t 52) (.t 55) (.c (.bool false))),
 .j 57 (.mov (.t 56)),
 .k 58 57 true (.mov (.t 5)),
 .k 59 57 true (.bin .eql (.t 58) (.z (-1))),
 .j 60 (.pick (.t 57) (.t 59) (.c (.bool false))),
 .j 61 (.mov (.t 60)),
 .k 62 61 true (.load 5 true (.t 1)),
 .k 63 61 true (.call 7 [(.t 62)]),
 .k 64 61 true (.bin .eql (.t 63) (.c (.str [99, 97, 108, 108, 32, 51, 32, 45, 49, 32, 50]))),
 .j 65 (.pick (.t 61) (.t 64) (.c (.bool false))),
 .j 66 (.mov (.t 65)),
 .k 67 66 true (.load 5 true (.t 6)),
 .k 68 66 true (.build [(.int .i64 0), (.int .i64 0), (.int .i64 0), (.int .i64 0), (.int .i64 0)] [(0, 1, (.z 14)), (2, 1, (.z 5))]),
 .k 69 66 true (.eqa false (.agg [(0, 1, (.leaf 1)), (1, 1, (.leaf 1)), (2, 1, (.leaf 1)), (3, 1, (.leaf 1)), (4, 1, (.leaf 1))]) (.t 67) (.t 68)),
 .j 70 (.pick (.t 66) (.t 69) (.c (.bool false))),
 .j 71 (.mov (.t 70)),
 .k 72 71 true (.mov (.t 7)),
 .k 73 71 true (.bin .eql (.t 72) (.z 0)),
 .j 74 (.pick (.t 71) (.t 73) (.c (.bool false))),
 .j 75 (.mov (.t 74)),
 .k 76 75 true (.mov (.t 9)),
 .k 77 75 true (.bin .eql (.t 76) (.z 4)),
 .j 78 (.pick (.t 75) (.t 77) (.c (.bool false))),
 .j 79 (.mov (.t 78)),
 .k 80 79 true (.mov (.t 11)),
 .k 81 79 true (.bin .eql (.t 80) (.z 9)),
 .j 82 (.pick (.t 79) (.t 81) (.c (.bool false))),
 .j 0 (.mov (.t 82))]
@[go_sem] def scriptinglaw32_awake_c : AC := .seq (.ops [q5_0]) (.seq (.ops [q5_1]) (.seq (.ops [q5_2]) (.seq (.ops [q5_3]) (.seq (.ops [q5_4]) (.seq (.ops [q5_5]) (.seq (.ops [q5_6]) (.seq (.ops [q5_7]) (.ret))))))))
theorem scriptinglaw32_awake_ok : compF Tryz.prog 5 = some (83, scriptinglaw32_awake_c, [.t 0]) := by kernel_rfl

@[go_sem] def q6_0 : List AI := [
 .j 2 (.mov (.c .nils))]
@[go_sem] def q6_1 : List AI := [
 .j 6 (.mkrow 60006 1 []),
 .j 3 (.mov (.t 6))]
@[go_sem] def q6_2 : List AI := [
 .j 4 (.mov (.z (-1)))]
@[go_sem] def q6_3 : List AI := [
 .j 5 (.mov (.z 0))]
@[go_sem] def q6_4 : List AI := [
 .j 7 (.mov (.t 5)),
 .j 8 (.mov (.t 0)),
 .j 9 (.len 1 (.t 8)),
 .j 10 (.bin .leq (.t 7) (.t 9))]
@[go_sem] def q6_5 : List AI := [
 .j 13 (.mov (.t 5)),
 .j 14 (.mov (.t 0)),
 .j 15 (.len 1 (.t 14)),
 .j 16 (.bin .eql (.t 13) (.t 15)),
 .j 17 (.mov (.t 16)),
 .k 18 17 false (.mov (.t 0)),
 .k 19 17 false (.mov (.t 5)),
 .k 20 17 false (.idx (.t 18) (.t 19)),
 .k 21 17 false (.bin .eql (.t 20) (.c (.int .u8 32))),
 .j 22 (.pick (.t 17) (.c (.bool true)) (.t 21))]
@[go_sem] def q6_6 : List AI := [
 .j 23 (.mov (.t 4)),
 .j 24 (.bin .geq (.t 23) (.z 0))]
@[go_sem] def q6_7 : List AI := [
 .j 25 (.mov (.t 3)),
 .j 26 (.mov (.t 0)),
 .j 27 (.mov (.t 4)),
 .j 28 (.mov (.t 5)),
 .j 29 (.sls (.t 26) (some (.t 27)) (some (.t 28))),
 .j 30 (.mkisl 1 [(.t 29)]),
 .j 31 (.app 60031 1 (.t 25) (.t 30)),
 .j 3 (.mov (.t 31))]
@[go_sem] def q6_8 : List AI := [
 .j 32 (.mov (.t 5)),
 .j 33 (.bin .add (.t 32) (.z 1)),
 .j 4 (.mov (.t 33))]
@[go_sem] def q6_9 : List AI := [
 .j 11 (.mov (.t 5)),
 .j 12 (.bin .add (.t 11) (.z 1)),
 .j 5 (.mov (.t 12))]
@[go_sem] def scriptinglaw32_fields_l0' : AC := .seq (.seq (.ops [q6_4]) (.cond (.t 10) (.skip) (.exit 0))) (.seq (.block 1 (.seq (.ops [q6_5]) (.cond (.t 22) (.seq (.seq (.ops [q6_6]) (.cond (.t 24) (.ops [q6_7]) (.skip))) (.ops [q6_8])) (.skip)))) (.ops [q6_9]))
def scriptinglaw32_fields_l0 : AC := scriptinglaw32_fields_l0'
theorem scriptinglaw32_fields_l0_eq : scriptinglaw32_fields_l0 = scriptinglaw32_fields_l0' := rfl
@[go_sem] def q6_10 : List AI := [
 .j 34 (.mov (.t 3)),
 .j 2 (.mov (.t 34))]
@[go_sem] def scriptinglaw32_fields_c : AC := .seq (.ops [q6_0]) (.seq (.ops [q6_1]) (.seq (.ops [q6_2]) (.seq (.seq (.ops [q6_3]) (.block 0 (.loop scriptinglaw32_fields_l0))) (.seq (.ops [q6_10]) (.ret)))))
theorem scriptinglaw32_fields_ok : compF Tryz.prog 6 = some (35, scriptinglaw32_fields_c, [.t 2]) := by kernel_rfl

@[go_sem] def q7_0 : List AI := [
 .j 1 (.box 70001 5 (.t 0)),
 .j 2 (.mov (.c (.str [])))]
@[go_sem] def q7_1 : List AI := [
 .j 11 (.faddr 0 (.t 1)),
 .j 12 (.load 1 false (.t 11)),
 .j 13 (.call 9 [(.t 12)]),
 .j 10 (.mov (.t 13)),
 .j 14 (.ext 0 (.t 10)),
 .j 15 (.ext 1 (.t 10)),
 .j 3 (.box 70003 6 (.c (.agg [(.str []), (.int .i64 0), (.int .i64 0), (.int .i64 0), (.int .i64 0), (.int .i64 0)]))),
 .e (.store 6 (.t 3) (.t 14)),
 .j 4 (.mov (.t 15))]
@[go_sem] def q7_2 : List AI := [
 .j 16 (.mov (.t 4)),
 .j 17 (.un .not (.t 16))]
@[go_sem] def q7_3 : List AI := [
 .j 2 (.mov (.c (.str [])))]
@[go_sem] def q7_4 : List AI := [
 .j 18 (.faddr 0 (.t 3)),
 .j 19 (.load 1 false (.t 18)),
 .j 5 (.mov (.t 19))]
@[go_sem] def q7_5 : List AI := [
 .j 21 (.load 6 true (.t 3)),
 .j 22 (.load 5 true (.t 1)),
 .j 23 (.call 10 [(.t 21), (.t 22)]),
 .j 20 (.mov (.t 23)),
 .j 24 (.ext 0 (.t 20)),
 .j 25 (.ext 1 (.t 20)),
 .j 6 (.box 70006 4 (.c (.agg [(.int .i64 0), (.int .i64 0), (.int .i64 0), (.int .i64 0)]))),
 .j 7 (.box 70007 4 (.c (.agg [(.int .i64 0), (.int .i64 0), (.int .i64 0), (.int .i64 0)]))),
 .e (.store 4 (.t 6) (.t 24)),
 .e (.store 4 (.t 7) (.t 25))]
@[go_sem] def q7_6 : List AI := [
 .j 26 (.load 4 true (.t 6)),
 .j 27 (.mov (.z 0))]
@[go_sem] def q7_7 : List AI := [
 .j 28 (.bin .lss (.t 27) (.z 4))]
@[go_sem] def q7_8 : List AI := [
 .j 29 (.mov (.t 27)),
 .j 30 (.idxA 4 1 1 false (.t 26) (.t 27)),
 .j 8 (.mov (.t 29)),
 .j 9 (.mov (.t 30))]
@[go_sem] def q7_9 : List AI := [
 .j 31 (.mov (.t 9)),
 .j 32 (.bin .neq (.t 31) (.z 0))]
@[go_sem] def q7_10 : List AI := [
 .j 33 (.mov (.t 5)),
 .j 34 (.mov (.t 8)),
 .j 35 (.iaddrA 4 1 (.t 7) (.t 34)),
 .j 36 (.load 1 false (.t 35)),
 .j 37 (.call 17 [(.t 36)]),
 .j 38 (.bin .add (.c (.str [32])) (.t 37)),
 .j 39 (.bin .add (.t 33) (.t 38)),
 .j 5 (.mov (.t 39))]
@[go_sem] def q7_11 : List AI := [
 .j 40 (.bin .add (.t 27) (.z 1)),
 .j 27 (.mov (.t 40))]
@[go_sem] def opcode_Text_l0' : AC := .seq (.ops [q7_7]) (.seq (.cond (.t 28) (.skip) (.exit 0)) (.seq (.block 1 (.seq (.ops [q7_8]) (.seq (.ops [q7_9]) (.cond (.t 32) (.ops [q7_10]) (.skip))))) (.ops [q7_11])))
def opcode_Text_l0 : AC := opcode_Text_l0'
theorem opcode_Text_l0_eq : opcode_Text_l0 = opcode_Text_l0' := rfl
@[go_sem] def q7_12 : List AI := [
 .j 41 (.mov (.t 5)),
 .j 2 (.mov (.t 41))]
@[go_sem] def opcode_Text_c : AC := .seq (.ops [q7_0]) (.seq (.ops [q7_1]) (.seq (.seq (.ops [q7_2]) (.cond (.t 17) (.seq (.ops [q7_3]) (.ret)) (.skip))) (.seq (.ops [q7_4]) (.seq (.ops [q7_5]) (.seq (.seq (.ops [q7_6]) (.block 0 (.loop opcode_Text_l0))) (.seq (.ops [q7_12]) (.ret)))))))
theorem opcode_Text_ok : compF Tryz.prog 7 = some (42, opcode_Text_c, [.t 2]) := by kernel_rfl

@[go_sem] def q8_0 : List AI := [
 .j 2 (.box 80002 2 (.c (.agg [(.int .i64 0), (.int .i64 0)]))),
 .j 3 (.mov (.z 0))]
@[go_sem] def q8_1 : List AI := [
 .j 10 (.mov (.t 0)),
 .j 11 (.call 18 [(.t 10)]),
 .j 0 (.mov (.t 11))]
@[go_sem] def q8_2 : List AI := [
 .j 13 (.mov (.t 0)),
 .j 14 (.call 19 [(.t 13), (.c (.str [45]))]),
 .j 12 (.mov (.t 14)),
 .j 15 (.ext 0 (.t 12)),
 .j 16 (.ext 1 (.t 12)),
 .j 4 (.mov (.t 15)),
 .j 5 (.mov (.t 16))]
@[go_sem] def q8_3 : List AI := [
 .j 18 (.mov (.t 4)),
 .j 19 (.call 20 [(.t 18), (.z 0)]),
 .j 17 (.mov (.t 19)),
 .j 20 (.ext 0 (.t 17)),
 .j 21 (.ext 1 (.t 17)),
 .j 6 (.box 80006 4 (.c (.agg [(.bool false), (.int .i64 0), (.int .i64 0), (.int .i64 0)]))),
 .e (.store 4 (.t 6) (.t 20)),
 .j 7 (.mov (.t 21))]
@[go_sem] def q8_4 : List AI := [
 .j 22 (.build [(.int .i64 0), (.int .i64 0)] []),
 .j 8 (.box 80008 2 (.c (.agg [(.int .i64 0), (.int .i64 0)]))),
 .e (.store 2 (.t 8) (.t 22)),
 .j 9 (.mov (.z 4))]
@[go_sem] def q8_5 : List AI := [
 .j 23 (.mov (.t 7)),
 .j 24 (.mov (.t 23)),
 .k 25 24 true (.faddr 2 (.t 6)),
 .k 26 24 true (.load 1 false (.t 25)),
 .k 27 24 true (.mov (.t 4)),
 .k 28 24 true (.len 1 (.t 27)),
 .k 29 24 true (.bin .eql (.t 26) (.t 28)),
 .j 30 (.pick (.t 24) (.t 29) (.c (.bool false)))]
@[go_sem] def q8_6 : List AI := [
 .j 32 (.load 4 true (.t 6)),
 .j 33 (.mov (.t 4)),
 .j 34 (.call 21 [(.t 32), (.t 33)]),
 .j 31 (.mov (.t 34)),
 .j 35 (.ext 0 (.t 31)),
 .j 36 (.ext 1 (.t 31)),
 .e (.store 2 (.t 8) (.t 35)),
 .j 9 (.mov (.t 36))]
@[go_sem] def q8_7 : List AI := [
 .j 38 (.mov (.t 4)),
 .j 39 (.call 22 [(.t 38)]),
 .j 37 (.mov (.t 39)),
 .j 40 (.ext 0 (.t 37)),
 .j 41 (.ext 1 (.t 37)),
 .e (.store 2 (.t 8) (.t 40)),
 .j 9 (.mov (.t 41))]
@[go_sem] def q8_8 : List AI := [
 .j 42 (.mov (.t 9)),
 .j 43 (.bin .neq (.t 42) (.z 0))]
@[go_sem] def q8_9 : List AI := [
 .j 44 (.build [(.int .i64 0), (.int .i64 0)] []),
 .j 45 (.mov (.t 9)),
 .e (.store 2 (.t 2) (.t 44)),
 .j 3 (.mov (.t 45))]
@[go_sem] def q8_10 : List AI := [
 .j 46 (.mov (.t 5))]
@[go_sem] def q8_11 : List AI := [
 .j 47 (.faddr 0 (.t 8)),
 .j 48 (.load 1 false (.t 47)),
 .j 49 (.un .neg (.t 48)),
 .j 50 (.faddr 0 (.t 8)),
 .e (.store 1 (.t 50) (.t 49))]
@[go_sem] def q8_12 : List AI := [
 .j 51 (.load 2 true (.t 8)),
 .e (.store 2 (.t 2) (.t 51)),
 .j 3 (.mov (.z 0))]
@[go_sem] def numeral_Parse_c : AC := .seq (.ops [q8_0]) (.seq (.ops [q8_1]) (.seq (.ops [q8_2]) (.seq (.ops [q8_3]) (.seq (.ops [q8_4]) (.seq (.seq (.ops [q8_5]) (.cond (.t 30) (.ops [q8_6]) (.ops [q8_7]))) (.seq (.seq (.ops [q8_8]) (.cond (.t 43) (.seq (.ops [q8_9]) (.ret)) (.skip))) (.seq (.seq (.ops [q8_10]) (.cond (.t 46) (.ops [q8_11]) (.skip))) (.seq (.ops [q8_12]) (.ret)))))))))
theorem numeral_Parse_ok : compF Tryz.prog 8 = some (52, numeral_Parse_c, [.c 2 2 true, .t 3]) := by kernel_rfl

@[go_sem] def q9_0 : List AI := [
 .j 2 (.box 90002 6 (.c (.agg [(.str []), (.int .i64 0), (.int .i64 0), (.int .i64 0), (.int .i64 0), (.int .i64 0)]))),
 .j 3 (.mov (.c (.bool false)))]
@[go_sem] def q9_1 : List AI := [
 .j 6 (.call 23 [(.c (.str [109, 111, 118, 101, 32, 99, 111, 110, 115, 116, 32, 110, 105, 108, 32, 98, 111, 111, 108, 32, 117, 112, 103, 101, 116, 32, 117, 112, 115, 101, 116, 32, 103, 108, 111, 98, 97, 108, 32, 115, 101, 116, 103, 108, 111, 98, 32, 103, 101, 116, 32, 115, 101, 116, 32, 115, 101, 108, 102, 32, 117, 110, 97, 114, 121, 32, 98, 105, 110, 97, 114, 121, 32, 106, 117, 109, 112, 32, 116, 101, 115, 116, 32, 99, 97, 108, 108, 32, 116, 97, 105, 108, 32, 114, 101, 116, 117, 114, 110, 32, 118, 97, 114, 97, 114, 103, 32, 116, 97, 98, 108, 101, 32, 97, 112, 112, 101, 110, 100, 32, 99, 108, 111, 115, 117, 114, 101, 32, 112, 114, 101, 112, 32, 108, 111, 111, 112, 32, 105, 116, 101, 114, 32, 110, 101, 120, 116, 32, 99, 108, 111, 115, 101, 32, 109, 97, 114, 107, 32, 115, 116, 97, 116]))]),
 .j 4 (.mov (.t 6))]
@[go_sem] def q9_2 : List AI := [
 .j 7 (.mov (.t 0)),
 .j 8 (.bin .lss (.t 7) (.z 1)),
 .j 9 (.mov (.t 8)),
 .k 10 9 false (.mov (.t 0)),
 .k 11 9 false (.mov (.t 4)),
 .k 12 9 false (.len 0 (.t 11)),
 .k 13 9 false (.bin .gtr (.t 10) (.t 12)),
 .j 14 (.pick (.t 9) (.c (.bool true)) (.t 13))]
@[go_sem] def q9_3 : List AI := [
 .j 15 (.build [(.str []), (.int .i64 0), (.int .i64 0), (.int .i64 0), (.int .i64 0), (.int .i64 0)] []),
 .e (.store 6 (.t 2) (.t 15)),
 .j 3 (.mov (.c (.bool false)))]
@[go_sem] def q9_4 : List AI := [
 .j 16 (.mov (.t 0)),
 .j 17 (.call 24 [(.t 16)]),
 .j 5 (.box 90005 6 (.c (.agg [(.str []), (.int .i64 0), (.int .i64 0), (.int .i64 0), (.int .i64 0), (.int .i64 0)]))),
 .e (.store 6 (.t 5) (.t 17))]
@[go_sem] def q9_5 : List AI := [
 .j 18 (.mov (.t 4)),
 .j 19 (.mov (.t 0)),
 .j 20 (.bin .sub (.t 19) (.z 1)),
 .j 21 (.iaddr 1 (.t 18) (.t 20)),
 .j 22 (.load 1 false (.t 21)),
 .j 23 (.faddr 0 (.t 5)),
 .e (.store 1 (.t 23) (.t 22))]
@[go_sem] def q9_6 : List AI := [
 .j 24 (.load 6 true (.t 5)),
 .e (.store 6 (.t 2) (.t 24)),
 .j 3 (.mov (.c (.bool true)))]
@[go_sem] def opcode_of_c : AC := .seq (.ops [q9_0]) (.seq (.ops [q9_1]) (.seq (.seq (.ops [q9_2]) (.cond (.t 14) (.seq (.ops [q9_3]) (.ret)) (.skip))) (.seq (.ops [q9_4]) (.seq (.ops [q9_5]) (.seq (.ops [q9_6]) (.ret))))))
theorem opcode_of_ok : compF Tryz.prog 9 = some (25, opcode_of_c, [.c 2 6 true, .t 3]) := by kernel_rfl

@[go_sem] def q10_0 : List AI := [
 .j 2 (.box 100002 6 (.t 0)),
 .j 3 (.box 100003 5 (.t 1)),
 .j 4 (.box 100004 4 (.c (.agg [(.int .i64 0), (.int .i64 0), (.int .i64 0), (.int .i64 0)]))),
 .j 5 (.box 100005 4 (.c (.agg [(.int .i64 0), (.int .i64 0), (.int .i64 0), (.int .i64 0)])))]
@[go_sem] def q10_1_0 : List AI := [
 .j 6 (.faddr 1 (.t 2)),
 .j 7 (.load 1 false (.t 6)),
 .j 8 (.faddr 2 (.t 2)),
 .j 9 (.load 1 false (.t 8)),
 .j 10 (.faddr 3 (.t 2)),
 .j 11 (.load 1 false (.t 10)),
 .j 12 (.faddr 4 (.t 2)),
 .j 13 (.load 1 false (.t 12)),
 .j 14 (.build [(.int .i64 0), (.int .i64 0), (.int .i64 0), (.int .i64 0)] [(0, 1, (.t 7)), (1, 1, (.t 9)), (2, 1, (.t 11)), (3, 1, (.t 13))]),
 .j 15 (.faddr 1 (.t 3)),
 .j 16 (.load 1 false (.t 15)),
 .j 17 (.faddr 2 (.t 3)),
 .j 18 (.load 1 false (.t 17)),
 .j 19 (.faddr 3 (.t 3)),
 .j 20 (.load 1 false (.t 19)),
 .j 21 (.faddr 4 (.t 3)),
 .j 22 (.load 1 false (.t 21)),
 .j 23 (.build [(.int .i64 0), (.int .i64 0), (.int .i64 0), (.int .i64 0)] [(0, 1, (.t 16)), (1, 1, (.t 18)), (2, 1, (.t 20)), (3, 1, (.t 22))]),
 .e (.store 4 (.t 4) (.t 14)),
 .e (.store 4 (.t 5) (.t 23))]
@[go_sem] def q10_1_1 : List AI := [
 .j 6 (.faddr 1 (.t 2)),
 .j 7 (.load 1 false (.t 6)),
 .j 8 (.faddr 2 (.t 2)),
 .j 9 (.load 1 false (.t 8)),
 .j 10 (.faddr 3 (.t 2)),
 .j 11 (.load 1 false (.t 10)),
 .j 12 (.faddr 4 (.t 2)),
 .j 13 (.load 1 false (.t 12)),
 .j 14 (.build [(.int .i64 0), (.int .i64 0), (.int .i64 0), (.int .i64 0)] [(0, 1, (.t 7)), (1, 1, (.t 9)), (2, 1, (.t 11)), (3, 1, (.t 13))]),
 .j 15 (.faddr 1 (.t 3)),
 .j 16 (.load 1 false (.t 15)),
 .j 17 (.faddr 2 (.t 3)),
 .j 18 (.load 1 false (.t 17)),
 .j 19 (.faddr 3 (.t 3)),
 .j 20 (.load 1 false (.t 19)),
 .j 21 (.faddr 4 (.t 3)),
 .e (.store 4 (.t 4) (.t 14)),
 .j 22 (.load 1 false (.t 21)),
 .j 23 (.build [(.int .i64 0), (.int .i64 0), (.int .i64 0), (.int .i64 0)] [(0, 1, (.t 16)), (1, 1, (.t 18)), (2, 1, (.t 20)), (3, 1, (.t 22))]),
 .e (.store 4 (.t 5) (.t 23))]
@[go_sem] def q10_1_2 : List AI := [
 .j 6 (.faddr 1 (.t 2)),
 .j 7 (.load 1 false (.t 6)),
 .j 8 (.faddr 2 (.t 2)),
 .j 9 (.load 1 false (.t 8)),
 .j 10 (.faddr 3 (.t 2)),
 .j 11 (.load 1 false (.t 10)),
 .j 12 (.faddr 4 (.t 2)),
 .j 13 (.load 1 false (.t 12)),
 .j 14 (.build [(.int .i64 0), (.int .i64 0), (.int .i64 0), (.int .i64 0)] [(0, 1, (.t 7)), (1, 1, (.t 9)), (2, 1, (.t 11)), (3, 1, (.t 13))]),
 .j 15 (.faddr 1 (.t 3)),
 .j 16 (.load 1 false (.t 15)),
 .j 17 (.faddr 2 (.t 3)),
 .j 18 (.load 1 false (.t 17)),
 .j 19 (.faddr 3 (.t 3)),
 .j 21 (.faddr 4 (.t 3)),
 .j 22 (.load 1 false (.t 21)),
 .e (.store 4 (.t 4) (.t 14)),
 .j 20 (.load 1 false (.t 19)),
 .j 23 (.build [(.int .i64 0), (.int .i64 0), (.int .i64 0), (.int .i64 0)] [(0, 1, (.t 16)), (1, 1, (.t 18)), (2, 1, (.t 20)), (3, 1, (.t 22))]),
 .e (.store 4 (.t 5) (.t 23))]
@[go_sem] def q10_1_3 : List AI := [
 .j 6 (.faddr 1 (.t 2)),
 .j 7 (.load 1 false (.t 6)),
 .j 8 (.faddr 2 (.t 2)),
 .j 9 (.load 1 false (.t 8)),
 .j 10 (.faddr 3 (.t 2)),
 .j 11 (.load 1 false (.t 10)),
 .j 12 (.faddr 4 (.t 2)),
 .j 13 (.load 1 false (.t 12)),
 .j 14 (.build [(.int .i64 0), (.int .i64 0), (.int .i64 0), (.int .i64 0)] [(0, 1, (.t 7)), (1, 1, (.t 9)), (2, 1, (.t 11)), (3, 1, (.t 13))]),
 .j 15 (.faddr 1 (.t 3)),
 .j 16 (.load 1 false (.t 15)),
 .j 17 (.faddr 2 (.t 3)),
 .j 18 (.load 1 false (.t 17)),
 .j 19 (.faddr 3 (.t 3)),
 .j 21 (.faddr 4 (.t 3)),
 .e (.store 4 (.t 4) (.t 14)),
 .j 20 (.load 1 false (.t 19)),
 .j 22 (.load 1 false (.t 21)),
 .j 23 (.build [(.int .i64 0), (.int .i64 0), (.int .i64 0), (.int .i64 0)] [(0, 1, (.t 16)), (1, 1, (.t 18)), (2, 1, (.t 20)), (3, 1, (.t 22))]),
 .e (.store 4 (.t 5) (.t 23))]
@[go_sem] def q10_1_4 : List AI := [
 .j 6 (.faddr 1 (.t 2)),
 .j 7 (.load 1 false (.t 6)),
 .j 8 (.faddr 2 (.t 2)),
 .j 9 (.load 1 false (.t 8)),
 .j 10 (.faddr 3 (.t 2)),
 .j 11 (.load 1 false (.t 10)),
 .j 12 (.faddr 4 (.t 2)),
 .j 13 (.load 1 false (.t 12)),
 .j 14 (.build [(.int .i64 0), (.int .i64 0), (.int .i64 0), (.int .i64 0)] [(0, 1, (.t 7)), (1, 1, (.t 9)), (2, 1, (.t 11)), (3, 1, (.t 13))]),
 .j 15 (.faddr 1 (.t 3)),
 .j 16 (.load 1 false (.t 15)),
 .j 17 (.faddr 2 (.t 3)),
 .j 19 (.faddr 3 (.t 3)),
 .j 20 (.load 1 false (.t 19)),
 .j 21 (.faddr 4 (.t 3)),
 .j 22 (.load 1 false (.t 21)),
 .e (.store 4 (.t 4) (.t 14)),
 .j 18 (.load 1 false (.t 17)),
 .j 23 (.build [(.int .i64 0), (.int .i64 0), (.int .i64 0), (.int .i64 0)] [(0, 1, (.t 16)), (1, 1, (.t 18)), (2, 1, (.t 20)), (3, 1, (.t 22))]),
 .e (.store 4 (.t 5) (.t 23))]
@[go_sem] def q10_1_5 : List AI := [
 .j 6 (.faddr 1 (.t 2)),
 .j 7 (.load 1 false (.t 6)),
 .j 8 (.faddr 2 (.t 2)),
 .j 9 (.load 1 false (.t 8)),
 .j 10 (.faddr 3 (.t 2)),
 .j 11 (.load 1 false (.t 10)),
 .j 12 (.faddr 4 (.t 2)),
 .j 13 (.load 1 false (.t 12)),
 .j 14 (.build [(.int .i64 0), (.int .i64 0), (.int .i64 0), (.int .i64 0)] [(0, 1, (.t 7)), (1, 1, (.t 9)), (2, 1, (.t 11)), (3, 1, (.t 13))]),
 .j 15 (.faddr 1 (.t 3)),
 .j 16 (.load 1 false (.t 15)),
 .j 17 (.faddr 2 (.t 3)),
 .j 19 (.faddr 3 (.t 3)),
 .j 20 (.load 1 false (.t 19)),
 .j 21 (.faddr 4 (.t 3)),
 .e (.store 4 (.t 4) (.t 14)),
 .j 18 (.load 1 false (.t 17)),
 .j 22 (.load 1 false (.t 21)),
 .j 23 (.build [(.int .i64 0), (.int .i64 0), (.int .i64 0), (.int .i64 0)] [(0, 1, (.t 16)), (1, 1, (.t 18)), (2, 1, (.t 20)), (3, 1, (.t 22))]),
 .e (.store 4 (.t 5) (.t 23))]
@[go_sem] def q10_1_6 : List AI := [
 .j 6 (.faddr 1 (.t 2)),
 .j 7 (.load 1 false (.t 6)),
 .j 8 (.faddr 2 (.t 2)),
 .j 9 (.load 1 false (.t 8)),
 .j 10 (.faddr 3 (.t 2)),
 .j 11 (.load 1 false (.t 10)),
 .j 12 (.faddr 4 (.t 2)),
 .j 13 (.load 1 false (.t 12)),
 .j 14 (.build [(.int .i64 0), (.int .i64 0), (.int .i64 0), (.int .i64 0)] [(0, 1, (.t 7)), (1, 1, (.t 9)), (2, 1, (.t 11)), (3, 1, (.t 13))]),
 .j 15 (.faddr 1 (.t 3)),
 .j 16 (.load 1 false (.t 15)),
 .j 17 (.faddr 2 (.t 3)),
 .j 19 (.faddr 3 (.t 3)),
 .j 21 (.faddr 4 (.t 3)),
 .j 22 (.load 1 false (.t 21)),
 .e (.store 4 (.t 4) (.t 14)),
 .j 18 (.load 1 false (.t 17)),
 .j 20 (.load 1 false (.t 19)),
 .j 23 (.build [(.int .i64 0), (.int .i64 0), (.int .i64 0), (.int .i64 0)] [(0, 1, (.t 16)), (1, 1, (.t 18)), (2, 1, (.t 20)), (3, 1, (.t 22))]),
 .e (.store 4 (.t 5) (.t 23))]
@[go_sem] def q10_1_7 : List AI := [
 .j 6 (.faddr 1 (.t 2)),
 .j 7 (.load 1 false (.t 6)),
 .j 8 (.faddr 2 (.t 2)),
 .j 9 (.load 1 false (.t 8)),
 .j 10 (.faddr 3 (.t 2)),
 .j 11 (.load 1 false (.t 10)),
 .j 12 (.faddr 4 (.t 2)),
 .j 13 (.load 1 false (.t 12)),
 .j 14 (.build [(.int .i64 0), (.int .i64 0), (.int .i64 0), (.int .i64 0)] [(0, 1, (.t 7)), (1, 1, (.t 9)), (2, 1, (.t 11)), (3, 1, (.t 13))]),
 .j 15 (.faddr 1 (.t 3)),
 .j 16 (.load 1 false (.t 15)),
 .j 17 (.faddr 2 (.t 3)),
 .j 19 (.faddr 3 (.t 3)),
 .j 21 (.faddr 4 (.t 3)),
 .e (.store 4 (.t 4) (.t 14)),
 .j 18 (.load 1 false (.t 17)),
 .j 20 (.load 1 false (.t 19)),
 .j 22 (.load 1 false (.t 21)),
 .j 23 (.build [(.int .i64 0), (.int .i64 0), (.int .i64 0), (.int .i64 0)] [(0, 1, (.t 16)), (1, 1, (.t 18)), (2, 1, (.t 20)), (3, 1, (.t 22))]),
 .e (.store 4 (.t 5) (.t 23))]
@[go_sem] def q10_1_8 : List AI := [
 .j 6 (.faddr 1 (.t 2)),
 .j 7 (.load 1 false (.t 6)),
 .j 8 (.faddr 2 (.t 2)),
 .j 9 (.load 1 false (.t 8)),
 .j 10 (.faddr 3 (.t 2)),
 .j 11 (.load 1 false (.t 10)),
 .j 12 (.faddr 4 (.t 2)),
 .j 13 (.load 1 false (.t 12)),
 .j 14 (.build [(.int .i64 0), (.int .i64 0), (.int .i64 0), (.int .i64 0)] [(0, 1, (.t 7)), (1, 1, (.t 9)), (2, 1, (.t 11)), (3, 1, (.t 13))]),
 .j 15 (.faddr 1 (.t 3)),
 .j 17 (.faddr 2 (.t 3)),
 .j 18 (.load 1 false (.t 17)),
 .j 19 (.faddr 3 (.t 3)),
 .j 20 (.load 1 false (.t 19)),
 .j 21 (.faddr 4 (.t 3)),
 .j 22 (.load 1 false (.t 21)),
 .e (.store 4 (.t 4) (.t 14)),
 .j 16 (.load 1 false (.t 15)),
 .j 23 (.build [(.int .i64 0), (.int .i64 0), (.int .i64 0), (.int .i64 0)] [(0, 1, (.t 16)), (1, 1, (.t 18)), (2, 1, (.t 20)), (3, 1, (.t 22))]),
 .e (.store 4 (.t 5) (.t 23))]
@[go_sem] def q10_1_9 : List AI := [
 .j 6 (.faddr 1 (.t 2)),
 .j 7 (.load 1 false (.t 6)),
 .j 8 (.faddr 2 (.t 2)),
 .j 9 (.load 1 false (.t 8)),
 .j 10 (.faddr 3 (.t 2)),
 .j 11 (.load 1 false (.t 10)),
 .j 12 (.faddr 4 (.t 2)),
 .j 13 (.load 1 false (.t 12)),
 .j 14 (.build [(.int .i64 0), (.int .i64 0), (.int .i64 0), (.int .i64 0)] [(0, 1, (.t 7)), (1, 1, (.t 9)), (2, 1, (.t 11)), (3, 1, (.t 13))]),
 .j 15 (.faddr 1 (.t 3)),
 .j 17 (.faddr 2 (.t 3)),
 .j 18 (.load 1 false (.t 17)),
 .j 19 (.faddr 3 (.t 3)),
 .j 20 (.load 1 false (.t 19)),
 .j 21 (.faddr 4 (.t 3)),
 .e (.store 4 (.t 4) (.t 14)),
 .j 16 (.load 1 false (.t 15)),
 .j 22 (.load 1 false (.t 21)),
 .j 23 (.build [(.int .i64 0), (.int .i64 0), (.int .i64 0), (.int .i64 0)] [(0, 1, (.t 16)), (1, 1, (.t 18)), (2, 1, (.t 20)), (3, 1, (.t 22))]),
 .e (.store 4 (.t 5) (.t 23))]
@[go_sem] def q10_1_10 : List AI := [
 .j 6 (.faddr 1 (.t 2)),
 .j 7 (.load 1 false (.t 6)),
 .j 8 (.faddr 2 (.t 2)),
 .j 9 (.load 1 false (.t 8)),
 .j 10 (.faddr 3 (.t 2)),
 .j 11 (.load 1 false (.t 10)),
 .j 12 (.faddr 4 (.t 2)),
 .j 13 (.load 1 false (.t 12)),
 .j 14 (.build [(.int .i64 0), (.int .i64 0), (.int .i64 0), (.int .i64 0)] [(0, 1, (.t 7)), (1, 1, (.t 9)), (2, 1, (.t 11)), (3, 1, (.t 13))]),
 .j 15 (.faddr 1 (.t 3)),
 .j 17 (.faddr 2 (.t 3)),
 .j 18 (.load 1 false (.t 17)),
 .j 19 (.faddr 3 (.t 3)),
 .j 21 (.faddr 4 (.t 3)),
 .j 22 (.load 1 false (.t 21)),
 .e (.store 4 (.t 4) (.t 14)),
 .j 16 (.load 1 false (.t 15)),
 .j 20 (.load 1 false (.t 19)),
 .j 23 (.build [(.int .i64 0), (.int .i64 0), (.int .i64 0), (.int .i64 0)] [(0, 1, (.t 16)), (1, 1, (.t 18)), (2, 1, (.t 20)), (3, 1, (.t 22))]),
 .e (.store 4 (.t 5) (.t 23))]
@[go_sem] def q10_1_11 : List AI := [
 .j 6 (.faddr 1 (.t 2)),
 .j 7 (.load 1 false (.t 6)),
 .j 8 (.faddr 2 (.t 2)),
 .j 9 (.load 1 false (.t 8)),
 .j 10 (.faddr 3 (.t 2)),
 .j 11 (.load 1 false (.t 10)),
 .j 12 (.faddr 4 (.t 2)),
 .j 13 (.load 1 false (.t 12)),
 .j 14 (.build [(.int .i64 0), (.int .i64 0), (.int .i64 0), (.int .i64 0)] [(0, 1, (.t 7)), (1, 1, (.t 9)), (2, 1, (.t 11)), (3, 1, (.t 13))]),
 .j 15 (.faddr 1 (.t 3)),
 .j 17 (.faddr 2 (.t 3)),
 .j 18 (.load 1 false (.t 17)),
 .j 19 (.faddr 3 (.t 3)),
 .j 21 (.faddr 4 (.t 3)),
 .e (.store 4 (.t 4) (.t 14)),
 .j 16 (.load 1 false (.t 15)),
 .j 20 (.load 1 false (.t 19)),
 .j 22 (.load 1 false (.t 21)),
 .j 23 (.build [(.int .i64 0), (.int .i64 0), (.int .i64 0), (.int .i64 0)] [(0, 1, (.t 16)), (1, 1, (.t 18)), (2, 1, (.t 20)), (3, 1, (.t 22))]),
 .e (.store 4 (.t 5) (.t 23))]
@[go_sem] def q10_1_12 : List AI := [
 .j 6 (.faddr 1 (.t 2)),
 .j 7 (.load 1 false (.t 6)),
 .j 8 (.faddr 2 (.t 2)),
 .j 9 (.load 1 false (.t 8)),
 .j 10 (.faddr 3 (.t 2)),
 .j 11 (.load 1 false (.t 10)),
 .j 12 (.faddr 4 (.t 2)),
 .j 13 (.load 1 false (.t 12)),
 .j 14 (.build [(.int .i64 0), (.int .i64 0), (.int .i64 0), (.int .i64 0)] [(0, 1, (.t 7)), (1, 1, (.t 9)), (2, 1, (.t 11)), (3, 1, (.t 13))]),
 .j 15 (.faddr 1 (.t 3)),
 .j 17 (.faddr 2 (.t 3)),
 .j 19 (.faddr 3 (.t 3)),
 .j 20 (.load 1 false (.t 19)),
 .j 21 (.faddr 4 (.t 3)),
 .j 22 (.load 1 false (.t 21)),
 .e (.store 4 (.t 4) (.t 14)),
 .j 16 (.load 1 false (.t 15)),
 .j 18 (.load 1 false (.t 17)),
 .j 23 (.build [(.int .i64 0), (.int .i64 0), (.int .i64 0), (.int .i64 0)] [(0, 1, (.t 16)), (1, 1, (.t 18)), (2, 1, (.t 20)), (3, 1, (.t 22))]),
 .e (.store 4 (.t 5) (.t 23))]
@[go_sem] def q10_1_13 : List AI := [
 .j 6 (.faddr 1 (.t 2)),
 .j 7 (.load 1 false (.t 6)),
 .j 8 (.faddr 2 (.t 2)),
 .j 9 (.load 1 false (.t 8)),
 .j 10 (.faddr 3 (.t 2)),
 .j 11 (.load 1 false (.t 10)),
 .j 12 (.faddr 4 (.t 2)),
 .j 13 (.load 1 false (.t 12)),
 .j 14 (.build [(.int .i64 0), (.int .i64 0), (.int .i64 0), (.int .i64 0)] [(0, 1, (.t 7)), (1, 1, (.t 9)), (2, 1, (.t 11)), (3, 1, (.t 13))]),
 .j 15 (.faddr 1 (.t 3)),
 .j 17 (.faddr 2 (.t 3)),
 .j 19 (.faddr 3 (.t 3)),
 .j 20 (.load 1 false (.t 19)),
 .j 21 (.faddr 4 (.t 3)),
 .e (.store 4 (.t 4) (.t 14)),
 .j 16 (.load 1 false (.t 15)),
 .j 18 (.load 1 false (.t 17)),
 .j 22 (.load 1 false (.t 21)),
 .j 23 (.build [(.int .i64 0), (.int .i64 0), (.int .i64 0), (.int .i64 0)] [(0, 1, (.t 16)), (1, 1, (.t 18)), (2, 1, (.t 20)), (3, 1, (.t 22))]),
 .e (.store 4 (.t 5) (.t 23))]
@[go_sem] def q10_1_14 : List AI := [
 .j 6 (.faddr 1 (.t 2)),
 .j 7 (.load 1 false (.t 6)),
 .j 8 (.faddr 2 (.t 2)),
 .j 9 (.load 1 false (.t 8)),
 .j 10 (.faddr 3 (.t 2)),
 .j 11 (.load 1 false (.t 10)),
 .j 12 (.faddr 4 (.t 2)),
 .j 13 (.load 1 false (.t 12)),
 .j 14 (.build [(.int .i64 0), (.int .i64 0), (.int .i64 0), (.int .i64 0)] [(0, 1, (.t 7)), (1, 1, (.t 9)), (2, 1, (.t 11)), (3, 1, (.t 13))]),
 .j 15 (.faddr 1 (.t 3)),
 .j 17 (.faddr 2 (.t 3)),
 .j 19 (.faddr 3 (.t 3)),
 .j 21 (.faddr 4 (.t 3)),
 .j 22 (.load 1 false (.t 21)),
 .e (.store 4 (.t 4) (.t 14)),
 .j 16 (.load 1 false (.t 15)),
 .j 18 (.load 1 false (.t 17)),
 .j 20 (.load 1 false (.t 19)),
 .j 23 (.build [(.int .i64 0), (.int .i64 0), (.int .i64 0), (.int .i64 0)] [(0, 1, (.t 16)), (1, 1, (.t 18)), (2, 1, (.t 20)), (3, 1, (.t 22))]),
 .e (.store 4 (.t 5) (.t 23))]
@[go_sem] def q10_1_15 : List AI := [
 .j 6 (.faddr 1 (.t 2)),
 .j 7 (.load 1 false (.t 6)),
 .j 8 (.faddr 2 (.t 2)),
 .j 9 (.load 1 false (.t 8)),
 .j 10 (.faddr 3 (.t 2)),
 .j 11 (.load 1 false (.t 10)),
 .j 12 (.faddr 4 (.t 2)),
 .j 13 (.load 1 false (.t 12)),
 .j 14 (.build [(.int .i64 0), (.int .i64 0), (.int .i64 0), (.int .i64 0)] [(0, 1, (.t 7)), (1, 1, (.t 9)), (2, 1, (.t 11)), (3, 1, (.t 13))]),
 .j 15 (.faddr 1 (.t 3)),
 .j 17 (.faddr 2 (.t 3)),
 .j 19 (.faddr 3 (.t 3)),
 .j 21 (.faddr 4 (.t 3)),
 .e (.store 4 (.t 4) (.t 14)),
 .j 16 (.load 1 false (.t 15)),
 .j 18 (.load 1 false (.t 17)),
 .j 20 (.load 1 false (.t 19)),
 .j 22 (.load 1 false (.t 21)),
 .j 23 (.build [(.int .i64 0), (.int .i64 0), (.int .i64 0), (.int .i64 0)] [(0, 1, (.t 16)), (1, 1, (.t 18)), (2, 1, (.t 20)), (3, 1, (.t 22))]),
 .e (.store 4 (.t 5) (.t 23))]
@[go_sem] def opcode_fields_c : AC := .seq (.ops [q10_0]) (.seq (.ops [q10_1_0, q10_1_1, q10_1_2, q10_1_3, q10_1_4, q10_1_5, q10_1_6, q10_1_7, q10_1_8, q10_1_9, q10_1_10, q10_1_11, q10_1_12, q10_1_13, q10_1_14, q10_1_15]) (.ret))
theorem opcode_fields_ok : compF Tryz.prog 10 = some (24, opcode_fields_c, [.c 4 4 true, .c 5 4 true]) := by kernel_rfl

@[go_sem] def q11_0 : List AI := [
 .j 2 (.mov (.z 0)),
 .j 3 (.mov (.z 0))]
@[go_sem] def q11_1 : List AI := [
 .j 4 (.mov (.t 0))]
@[go_sem] def q11_2 : List AI := [
 .j 6 (.bin .eql (.t 4) (.z 1)),
 .j 5 (.mov (.t 6))]
@[go_sem] def q11_3 : List AI := [
 .j 2 (.mov (.z 0)),
 .j 3 (.mov (.z 4095))]
@[go_sem] def q11_4 : List AI := [
 .j 8 (.bin .eql (.t 4) (.z 2)),
 .j 7 (.mov (.t 8))]
@[go_sem] def q11_5 : List AI := [
 .j 2 (.mov (.z 0)),
 .j 3 (.mov (.z 4095))]
@[go_sem] def q11_6 : List AI := [
 .j 10 (.bin .eql (.t 4) (.z 3)),
 .j 9 (.mov (.t 10))]
@[go_sem] def q11_7 : List AI := [
 .j 2 (.mov (.z 0)),
 .j 3 (.mov (.z 59))]
@[go_sem] def q11_8 : List AI := [
 .j 12 (.bin .eql (.t 4) (.z 4)),
 .j 11 (.mov (.t 12))]
@[go_sem] def q11_9 : List AI := [
 .j 2 (.mov (.z 0)),
 .j 3 (.mov (.z 1023))]
@[go_sem] def q11_10 : List AI := [
 .j 14 (.bin .eql (.t 4) (.z 5)),
 .j 13 (.mov (.t 14))]
@[go_sem] def q11_11 : List AI := [
 .j 2 (.mov (.z 0)),
 .j 3 (.mov (.z 16383))]
@[go_sem] def q11_12 : List AI := [
 .j 16 (.bin .eql (.t 4) (.z 6)),
 .j 15 (.mov (.t 16))]
@[go_sem] def q11_13 : List AI := [
 .j 2 (.mov (.z (-1))),
 .j 3 (.mov (.z 200))]
@[go_sem] def q11_14 : List AI := [
 .j 18 (.bin .eql (.t 4) (.z 7)),
 .j 17 (.mov (.t 18))]
@[go_sem] def q11_15 : List AI := [
 .j 2 (.mov (.z (-1))),
 .j 3 (.mov (.z 4096))]
@[go_sem] def q11_16 : List AI := [
 .j 20 (.bin .eql (.t 4) (.z 8)),
 .j 19 (.mov (.t 20))]
@[go_sem] def q11_17 : List AI := [
 .j 2 (.mov (.z 0)),
 .j 3 (.mov (.z 1))]
@[go_sem] def q11_18 : List AI := [
 .j 22 (.bin .eql (.t 4) (.z 9)),
 .j 21 (.mov (.t 22))]
@[go_sem] def q11_19 : List AI := [
 .j 2 (.mov (.z 20)),
 .j 3 (.mov (.z 23))]
@[go_sem] def q11_20 : List AI := [
 .j 24 (.bin .eql (.t 4) (.z 10)),
 .j 23 (.mov (.t 24))]
@[go_sem] def q11_21 : List AI := [
 .j 2 (.mov (.z 1)),
 .j 3 (.mov (.z 19))]
@[go_sem] def q11_22 : List AI := [
 .j 26 (.bin .eql (.t 4) (.z 11)),
 .j 25 (.mov (.t 26))]
@[go_sem] def q11_23 : List AI := [
 .j 2 (.mov (.z 1)),
 .j 3 (.mov (.z 200))]
@[go_sem] def q11_24 : List AI := [
 .j 28 (.bin .eql (.t 4) (.z 12)),
 .j 27 (.mov (.t 28))]
@[go_sem] def q11_25 : List AI := [
 .j 2 (.mov (.z 1)),
 .j 3 (.mov (.z 32767))]
@[go_sem] def q11_26 : List AI := [
 .j 2 (.mov (.z 0)),
 .j 3 (.mov (.z 0))]
@[go_sem] def opcode_between_c : AC := .seq (.ops [q11_0]) (.seq (.seq (.ops [q11_1]) (.block 0 (.seq (.ops [q11_2]) (.cond (.t 5) (.seq (.ops [q11_3]) (.ret)) (.seq (.ops [q11_4]) (.cond (.t 7) (.seq (.ops [q11_5]) (.ret)) (.seq (.ops [q11_6]) (.cond (.t 9) (.seq (.ops [q11_7]) (.ret)) (.seq (.ops [q11_8]) (.cond (.t 11) (.seq (.ops [q11_9]) (.ret)) (.seq (.ops [q11_10]) (.cond (.t 13) (.seq (.ops [q11_11]) (.ret)) (.seq (.ops [q11_12]) (.cond (.t 15) (.seq (.ops [q11_13]) (.ret)) (.seq (.ops [q11_14]) (.cond (.t 17) (.seq (.ops [q11_15]) (.ret)) (.seq (.ops [q11_16]) (.cond (.t 19) (.seq (.ops [q11_17]) (.ret)) (.seq (.ops [q11_18]) (.cond (.t 21) (.seq (.ops [q11_19]) (.ret)) (.seq (.ops [q11_20]) (.cond (.t 23) (.seq (.ops [q11_21]) (.ret)) (.seq (.ops [q11_22]) (.cond (.t 25) (.seq (.ops [q11_23]) (.ret)) (.seq (.ops [q11_24]) (.cond (.t 27) (.seq (.ops [q11_25]) (.ret)) (.skip))))))))))))))))))))))))))) (.seq (.ops [q11_26]) (.ret)))
theorem opcode_between_ok : compF Tryz.prog 11 = some (29, opcode_between_c, [.t 2, .t 3]) := by kernel_rfl

@[go_sem] def q12_0 : List AI := [
 .j 2 (.box 120002 6 (.t 0)),
 .j 3 (.box 120003 5 (.t 1)),
 .j 4 (.mov (.z 0))]
@[go_sem] def q12_1 : List AI := [
 .j 6 (.faddr 1 (.t 3)),
 .j 7 (.load 1 false (.t 6)),
 .j 8 (.faddr 5 (.t 2)),
 .j 9 (.load 1 false (.t 8)),
 .j 10 (.bin .add (.t 7) (.t 9)),
 .j 5 (.mov (.t 10))]
@[go_sem] def q12_2 : List AI := [
 .j 11 (.faddr 0 (.t 3)),
 .j 12 (.load 1 false (.t 11))]
@[go_sem] def q12_3 : List AI := [
 .j 14 (.bin .eql (.t 12) (.z 16)),
 .j 13 (.mov (.t 14))]
@[go_sem] def q12_4 : List AI := [
 .j 15 (.faddr 1 (.t 3)),
 .j 16 (.load 1 false (.t 15)),
 .j 17 (.faddr 2 (.t 3)),
 .j 18 (.load 1 false (.t 17)),
 .j 19 (.bin .add (.t 16) (.t 18)),
 .j 20 (.faddr 1 (.t 3)),
 .j 21 (.load 1 false (.t 20)),
 .j 22 (.faddr 3 (.t 3)),
 .j 23 (.load 1 false (.t 22)),
 .j 24 (.bin .add (.t 21) (.t 23)),
 .j 25 (.bin .sub (.t 24) (.z 1)),
 .j 26 (.mm true [(.t 19), (.t 25)]),
 .j 5 (.mov (.t 26))]
@[go_sem] def q12_5 : List AI := [
 .j 28 (.bin .eql (.t 12) (.z 17)),
 .j 27 (.mov (.t 28))]
@[go_sem] def q12_6 : List AI := [
 .j 29 (.bin .eql (.t 12) (.z 21)),
 .j 27 (.mov (.t 29))]
@[go_sem] def q12_7 : List AI := [
 .j 30 (.faddr 1 (.t 3)),
 .j 31 (.load 1 false (.t 30)),
 .j 32 (.faddr 2 (.t 3)),
 .j 33 (.load 1 false (.t 32)),
 .j 34 (.bin .add (.t 31) (.t 33)),
 .j 5 (.mov (.t 34))]
@[go_sem] def q12_8 : List AI := [
 .j 36 (.bin .eql (.t 12) (.z 18)),
 .j 35 (.mov (.t 36))]
@[go_sem] def q12_9 : List AI := [
 .j 37 (.bin .eql (.t 12) (.z 19)),
 .j 35 (.mov (.t 37))]
@[go_sem] def q12_10 : List AI := [
 .j 38 (.faddr 1 (.t 3)),
 .j 39 (.load 1 false (.t 38)),
 .j 40 (.faddr 2 (.t 3)),
 .j 41 (.load 1 false (.t 40)),
 .j 42 (.bin .add (.t 39) (.t 41)),
 .j 43 (.bin .sub (.t 42) (.z 1)),
 .j 5 (.mov (.t 43))]
@[go_sem] def q12_11 : List AI := [
 .j 45 (.bin .eql (.t 12) (.z 25)),
 .j 44 (.mov (.t 45))]
@[go_sem] def q12_12 : List AI := [
 .j 46 (.faddr 1 (.t 3)),
 .j 47 (.load 1 false (.t 46)),
 .j 48 (.bin .add (.t 47) (.z 2)),
 .j 49 (.faddr 3 (.t 3)),
 .j 50 (.load 1 false (.t 49)),
 .j 51 (.bin .add (.t 48) (.t 50)),
 .j 5 (.mov (.t 51))]
@[go_sem] def q12_13 : List AI := [
 .j 52 (.mov (.t 5)),
 .j 4 (.mov (.t 52))]
@[go_sem] def opcode_last_c : AC := .seq (.ops [q12_0]) (.seq (.ops [q12_1]) (.seq (.seq (.ops [q12_2]) (.block 0 (.seq (.ops [q12_3]) (.cond (.t 13) (.ops [q12_4]) (.seq (.seq (.ops [q12_5]) (.cond (.t 27) (.skip) (.ops [q12_6]))) (.cond (.t 27) (.ops [q12_7]) (.seq (.seq (.ops [q12_8]) (.cond (.t 35) (.skip) (.ops [q12_9]))) (.cond (.t 35) (.ops [q12_10]) (.seq (.ops [q12_11]) (.cond (.t 44) (.ops [q12_12]) (.skip))))))))))) (.seq (.ops [q12_13]) (.ret))))
theorem opcode_last_ok : compF Tryz.prog 12 = some (53, opcode_last_c, [.t 4]) := by kernel_rfl

@[go_sem] def q13_0 : List AI := [
 .j 1 (.box 130001 5 (.t 0)),
 .j 2 (.mov (.c .nils)),
 .j 3 (.mov (.z 0))]
@[go_sem] def q13_1 : List AI := [
 .j 6 (.load 5 true (.t 1)),
 .j 7 (.call 4 [(.t 6)]),
 .j 8 (.bin .neq (.t 7) (.z 0))]
@[go_sem] def q13_2 : List AI := [
 .j 2 (.mov (.c .nils)),
 .j 3 (.mov (.z (-1)))]
@[go_sem] def q13_3 : List AI := [
 .j 9 (.faddr 0 (.t 1)),
 .j 10 (.load 1 false (.t 9))]
@[go_sem] def q13_4 : List AI := [
 .j 12 (.bin .eql (.t 10) (.z 1)),
 .j 11 (.mov (.t 12))]
@[go_sem] def q13_5 : List AI := [
 .j 13 (.bin .eql (.t 10) (.z 6)),
 .j 11 (.mov (.t 13))]
@[go_sem] def q13_6 : List AI := [
 .j 14 (.bin .eql (.t 10) (.z 8)),
 .j 11 (.mov (.t 14))]
@[go_sem] def q13_7 : List AI := [
 .j 15 (.bin .eql (.t 10) (.z 11)),
 .j 11 (.mov (.t 15))]
@[go_sem] def q13_8 : List AI := [
 .j 16 (.bin .eql (.t 10) (.z 12)),
 .j 11 (.mov (.t 16))]
@[go_sem] def q13_9 : List AI := [
 .j 17 (.faddr 2 (.t 1)),
 .j 18 (.load 1 false (.t 17)),
 .j 19 (.mkrow 130019 1 [(.t 18)]),
 .j 2 (.mov (.t 19)),
 .j 3 (.mov (.z (-1)))]
@[go_sem] def q13_10 : List AI := [
 .j 21 (.bin .eql (.t 10) (.z 9)),
 .j 20 (.mov (.t 21))]
@[go_sem] def q13_11 : List AI := [
 .j 22 (.bin .eql (.t 10) (.z 13)),
 .j 20 (.mov (.t 22))]
@[go_sem] def q13_12 : List AI := [
 .j 23 (.faddr 2 (.t 1)),
 .j 24 (.load 1 false (.t 23)),
 .j 25 (.faddr 3 (.t 1)),
 .j 26 (.load 1 false (.t 25)),
 .j 27 (.mkrow 130027 1 [(.t 24), (.t 26)]),
 .j 28 (.call 25 [(.t 27)]),
 .j 2 (.mov (.t 28)),
 .j 3 (.mov (.z (-1)))]
@[go_sem] def q13_13 : List AI := [
 .j 30 (.bin .eql (.t 10) (.z 10)),
 .j 29 (.mov (.t 30))]
@[go_sem] def q13_14 : List AI := [
 .j 31 (.faddr 1 (.t 1)),
 .j 32 (.load 1 false (.t 31)),
 .j 33 (.faddr 2 (.t 1)),
 .j 34 (.load 1 false (.t 33)),
 .j 35 (.faddr 3 (.t 1)),
 .j 36 (.load 1 false (.t 35)),
 .j 37 (.mkrow 130037 1 [(.t 32), (.t 34), (.t 36)]),
 .j 38 (.call 25 [(.t 37)]),
 .j 2 (.mov (.t 38)),
 .j 3 (.mov (.z (-1)))]
@[go_sem] def q13_15 : List AI := [
 .j 40 (.bin .eql (.t 10) (.z 15)),
 .j 39 (.mov (.t 40))]
@[go_sem] def q13_16 : List AI := [
 .j 41 (.bin .eql (.t 10) (.z 28)),
 .j 39 (.mov (.t 41))]
@[go_sem] def q13_17 : List AI := [
 .j 42 (.faddr 1 (.t 1)),
 .j 43 (.load 1 false (.t 42)),
 .j 44 (.mkrow 130044 1 [(.t 43)]),
 .j 2 (.mov (.t 44)),
 .j 3 (.mov (.z (-1)))]
@[go_sem] def q13_18 : List AI := [
 .j 46 (.bin .eql (.t 10) (.z 16)),
 .j 45 (.mov (.t 46))]
@[go_sem] def q13_19 : List AI := [
 .j 47 (.bin .eql (.t 10) (.z 17)),
 .j 45 (.mov (.t 47))]
@[go_sem] def q13_20 : List AI := [
 .j 48 (.bin .eql (.t 10) (.z 21)),
 .j 45 (.mov (.t 48))]
@[go_sem] def q13_21 : List AI := [
 .j 50 (.faddr 1 (.t 1)),
 .j 51 (.load 1 false (.t 50)),
 .j 52 (.bin .add (.t 51) (.z 1)),
 .j 53 (.faddr 2 (.t 1)),
 .j 54 (.load 1 false (.t 53)),
 .j 55 (.call 26 [(.t 52), (.t 54)]),
 .j 49 (.mov (.t 55)),
 .j 56 (.ext 0 (.t 49)),
 .j 57 (.ext 1 (.t 49)),
 .j 4 (.mov (.t 56)),
 .j 5 (.mov (.t 57))]
@[go_sem] def q13_22 : List AI := [
 .j 58 (.faddr 1 (.t 1)),
 .j 59 (.load 1 false (.t 58)),
 .j 60 (.mkrow 130060 1 [(.t 59)]),
 .j 61 (.mov (.t 4)),
 .j 62 (.app 130062 1 (.t 60) (.t 61)),
 .j 63 (.mov (.t 5)),
 .j 2 (.mov (.t 62)),
 .j 3 (.mov (.t 63))]
@[go_sem] def q13_23 : List AI := [
 .j 65 (.bin .eql (.t 10) (.z 18)),
 .j 64 (.mov (.t 65))]
@[go_sem] def q13_24 : List AI := [
 .j 66 (.faddr 1 (.t 1)),
 .j 67 (.load 1 false (.t 66)),
 .j 68 (.faddr 2 (.t 1)),
 .j 69 (.load 1 false (.t 68)),
 .j 70 (.call 26 [(.t 67), (.t 69)]),
 .j 71 (.ext 0 (.t 70)),
 .j 72 (.ext 1 (.t 70)),
 .j 2 (.mov (.t 71)),
 .j 3 (.mov (.t 72))]
@[go_sem] def q13_25 : List AI := [
 .j 74 (.bin .eql (.t 10) (.z 23)),
 .j 73 (.mov (.t 74))]
@[go_sem] def q13_26 : List AI := [
 .j 75 (.bin .eql (.t 10) (.z 24)),
 .j 73 (.mov (.t 75))]
@[go_sem] def q13_27 : List AI := [
 .j 76 (.bin .eql (.t 10) (.z 25)),
 .j 73 (.mov (.t 76))]
@[go_sem] def q13_28 : List AI := [
 .j 77 (.faddr 1 (.t 1)),
 .j 78 (.load 1 false (.t 77)),
 .j 79 (.call 26 [(.t 78), (.z 3)]),
 .j 80 (.ext 0 (.t 79)),
 .j 81 (.ext 1 (.t 79)),
 .j 2 (.mov (.t 80)),
 .j 3 (.mov (.t 81))]
@[go_sem] def q13_29 : List AI := [
 .j 83 (.bin .eql (.t 10) (.z 26)),
 .j 82 (.mov (.t 83))]
@[go_sem] def q13_30 : List AI := [
 .j 84 (.faddr 1 (.t 1)),
 .j 85 (.load 1 false (.t 84)),
 .j 86 (.bin .add (.t 85) (.z 3)),
 .j 87 (.mkrow 130087 1 [(.t 86)]),
 .j 2 (.mov (.t 87)),
 .j 3 (.mov (.z (-1)))]
@[go_sem] def q13_31 : List AI := [
 .j 2 (.mov (.c .nils)),
 .j 3 (.mov (.z (-1)))]
@[go_sem] def opcode_Reads_c : AC := .seq (.ops [q13_0]) (.seq (.seq (.ops [q13_1]) (.cond (.t 8) (.seq (.ops [q13_2]) (.ret)) (.skip))) (.seq (.seq (.ops [q13_3]) (.block 0 (.seq (.seq (.ops [q13_4]) (.cond (.t 11) (.skip) (.seq (.ops [q13_5]) (.cond (.t 11) (.skip) (.seq (.ops [q13_6]) (.cond (.t 11) (.skip) (.seq (.ops [q13_7]) (.cond (.t 11) (.skip) (.ops [q13_8]))))))))) (.cond (.t 11) (.seq (.ops [q13_9]) (.ret)) (.seq (.seq (.ops [q13_10]) (.cond (.t 20) (.skip) (.ops [q13_11]))) (.cond (.t 20) (.seq (.ops [q13_12]) (.ret)) (.seq (.ops [q13_13]) (.cond (.t 29) (.seq (.ops [q13_14]) (.ret)) (.seq (.seq (.ops [q13_15]) (.cond (.t 39) (.skip) (.ops [q13_16]))) (.cond (.t 39) (.seq (.ops [q13_17]) (.ret)) (.seq (.seq (.ops [q13_18]) (.cond (.t 45) (.skip) (.seq (.ops [q13_19]) (.cond (.t 45) (.skip) (.ops [q13_20]))))) (.cond (.t 45) (.seq (.ops [q13_21]) (.seq (.ops [q13_22]) (.ret))) (.seq (.ops [q13_23]) (.cond (.t 64) (.seq (.ops [q13_24]) (.ret)) (.seq (.seq (.ops [q13_25]) (.cond (.t 73) (.skip) (.seq (.ops [q13_26]) (.cond (.t 73) (.skip) (.ops [q13_27]))))) (.cond (.t 73) (.seq (.ops [q13_28]) (.ret)) (.seq (.ops [q13_29]) (.cond (.t 82) (.seq (.ops [q13_30]) (.ret)) (.skip))))))))))))))))))) (.seq (.ops [q13_31]) (.ret))))
theorem opcode_Reads_ok : compF Tryz.prog 13 = some (88, opcode_Reads_c, [.t 2, .t 3]) := by kernel_rfl

@[go_sem] def q14_0 : List AI := [
 .j 1 (.box 140001 5 (.t 0)),
 .j 2 (.mov (.c .nils)),
 .j 3 (.mov (.z 0))]
@[go_sem] def q14_1 : List AI := [
 .j 4 (.load 5 true (.t 1)),
 .j 5 (.call 4 [(.t 4)]),
 .j 6 (.bin .neq (.t 5) (.z 0))]
@[go_sem] def q14_2 : List AI := [
 .j 2 (.mov (.c .nils)),
 .j 3 (.mov (.z (-1)))]
@[go_sem] def q14_3 : List AI := [
 .j 7 (.faddr 0 (.t 1)),
 .j 8 (.load 1 false (.t 7))]
@[go_sem] def q14_4 : List AI := [
 .j 10 (.bin .eql (.t 8) (.z 1)),
 .j 9 (.mov (.t 10))]
@[go_sem] def q14_5 : List AI := [
 .j 11 (.bin .eql (.t 8) (.z 2)),
 .j 9 (.mov (.t 11))]
@[go_sem] def q14_6 : List AI := [
 .j 12 (.bin .eql (.t 8) (.z 4)),
 .j 9 (.mov (.t 12))]
@[go_sem] def q14_7 : List AI := [
 .j 13 (.bin .eql (.t 8) (.z 5)),
 .j 9 (.mov (.t 13))]
@[go_sem] def q14_8 : List AI := [
 .j 14 (.bin .eql (.t 8) (.z 7)),
 .j 9 (.mov (.t 14))]
@[go_sem] def q14_9 : List AI := [
 .j 15 (.bin .eql (.t 8) (.z 9)),
 .j 9 (.mov (.t 15))]
@[go_sem] def q14_10 : List AI := [
 .j 16 (.bin .eql (.t 8) (.z 12)),
 .j 9 (.mov (.t 16))]
@[go_sem] def q14_11 : List AI := [
 .j 17 (.bin .eql (.t 8) (.z 13)),
 .j 9 (.mov (.t 17))]
@[go_sem] def q14_12 : List AI := [
 .j 18 (.bin .eql (.t 8) (.z 20)),
 .j 9 (.mov (.t 18))]
@[go_sem] def q14_13 : List AI := [
 .j 19 (.bin .eql (.t 8) (.z 22)),
 .j 9 (.mov (.t 19))]
@[go_sem] def q14_14 : List AI := [
 .j 20 (.faddr 1 (.t 1)),
 .j 21 (.load 1 false (.t 20)),
 .j 22 (.mkrow 140022 1 [(.t 21)]),
 .j 2 (.mov (.t 22)),
 .j 3 (.mov (.z (-1)))]
@[go_sem] def q14_15 : List AI := [
 .j 24 (.bin .eql (.t 8) (.z 3)),
 .j 23 (.mov (.t 24))]
@[go_sem] def q14_16 : List AI := [
 .j 25 (.faddr 1 (.t 1)),
 .j 26 (.load 1 false (.t 25)),
 .j 27 (.faddr 2 (.t 1)),
 .j 28 (.load 1 false (.t 27)),
 .j 29 (.faddr 1 (.t 1)),
 .j 30 (.load 1 false (.t 29)),
 .j 31 (.bin .sub (.t 28) (.t 30)),
 .j 32 (.bin .add (.t 31) (.z 1)),
 .j 33 (.call 26 [(.t 26), (.t 32)]),
 .j 34 (.ext 0 (.t 33)),
 .j 35 (.ext 1 (.t 33)),
 .j 2 (.mov (.t 34)),
 .j 3 (.mov (.t 35))]
@[go_sem] def q14_17 : List AI := [
 .j 37 (.bin .eql (.t 8) (.z 11)),
 .j 36 (.mov (.t 37))]
@[go_sem] def q14_18 : List AI := [
 .j 38 (.faddr 1 (.t 1)),
 .j 39 (.load 1 false (.t 38)),
 .j 40 (.faddr 1 (.t 1)),
 .j 41 (.load 1 false (.t 40)),
 .j 42 (.bin .add (.t 41) (.z 1)),
 .j 43 (.mkrow 140043 1 [(.t 39), (.t 42)]),
 .j 2 (.mov (.t 43)),
 .j 3 (.mov (.z (-1)))]
@[go_sem] def q14_19 : List AI := [
 .j 45 (.bin .eql (.t 8) (.z 16)),
 .j 44 (.mov (.t 45))]
@[go_sem] def q14_20 : List AI := [
 .j 46 (.faddr 1 (.t 1)),
 .j 47 (.load 1 false (.t 46)),
 .j 48 (.faddr 3 (.t 1)),
 .j 49 (.load 1 false (.t 48)),
 .j 50 (.call 26 [(.t 47), (.t 49)]),
 .j 51 (.ext 0 (.t 50)),
 .j 52 (.ext 1 (.t 50)),
 .j 2 (.mov (.t 51)),
 .j 3 (.mov (.t 52))]
@[go_sem] def q14_21 : List AI := [
 .j 54 (.bin .eql (.t 8) (.z 19)),
 .j 53 (.mov (.t 54))]
@[go_sem] def q14_22 : List AI := [
 .j 55 (.faddr 1 (.t 1)),
 .j 56 (.load 1 false (.t 55)),
 .j 57 (.faddr 2 (.t 1)),
 .j 58 (.load 1 false (.t 57)),
 .j 59 (.call 26 [(.t 56), (.t 58)]),
 .j 60 (.ext 0 (.t 59)),
 .j 61 (.ext 1 (.t 59)),
 .j 2 (.mov (.t 60)),
 .j 3 (.mov (.t 61))]
@[go_sem] def q14_23 : List AI := [
 .j 63 (.bin .eql (.t 8) (.z 23)),
 .j 62 (.mov (.t 63))]
@[go_sem] def q14_24 : List AI := [
 .j 64 (.faddr 1 (.t 1)),
 .j 65 (.load 1 false (.t 64)),
 .j 66 (.bin .add (.t 65) (.z 3)),
 .j 67 (.mkrow 140067 1 [(.t 66)]),
 .j 2 (.mov (.t 67)),
 .j 3 (.mov (.z (-1)))]
@[go_sem] def q14_25 : List AI := [
 .j 69 (.bin .eql (.t 8) (.z 24)),
 .j 68 (.mov (.t 69))]
@[go_sem] def q14_26 : List AI := [
 .j 70 (.faddr 1 (.t 1)),
 .j 71 (.load 1 false (.t 70)),
 .j 72 (.faddr 1 (.t 1)),
 .j 73 (.load 1 false (.t 72)),
 .j 74 (.bin .add (.t 73) (.z 3)),
 .j 75 (.mkrow 140075 1 [(.t 71), (.t 74)]),
 .j 2 (.mov (.t 75)),
 .j 3 (.mov (.z (-1)))]
@[go_sem] def q14_27 : List AI := [
 .j 77 (.bin .eql (.t 8) (.z 25)),
 .j 76 (.mov (.t 77))]
@[go_sem] def q14_28 : List AI := [
 .j 78 (.faddr 1 (.t 1)),
 .j 79 (.load 1 false (.t 78)),
 .j 80 (.bin .add (.t 79) (.z 3)),
 .j 81 (.faddr 3 (.t 1)),
 .j 82 (.load 1 false (.t 81)),
 .j 83 (.call 26 [(.t 80), (.t 82)]),
 .j 84 (.ext 0 (.t 83)),
 .j 85 (.ext 1 (.t 83)),
 .j 2 (.mov (.t 84)),
 .j 3 (.mov (.t 85))]
@[go_sem] def q14_29 : List AI := [
 .j 87 (.bin .eql (.t 8) (.z 26)),
 .j 86 (.mov (.t 87))]
@[go_sem] def q14_30 : List AI := [
 .j 88 (.faddr 1 (.t 1)),
 .j 89 (.load 1 false (.t 88)),
 .j 90 (.bin .add (.t 89) (.z 2)),
 .j 91 (.mkrow 140091 1 [(.t 90)]),
 .j 2 (.mov (.t 91)),
 .j 3 (.mov (.z (-1)))]
@[go_sem] def q14_31 : List AI := [
 .j 2 (.mov (.c .nils)),
 .j 3 (.mov (.z (-1)))]
@[go_sem] def opcode_Writes_c : AC := .seq (.ops [q14_0]) (.seq (.seq (.ops [q14_1]) (.cond (.t 6) (.seq (.ops [q14_2]) (.ret)) (.skip))) (.seq (.seq (.ops [q14_3]) (.block 0 (.seq (.seq (.ops [q14_4]) (.cond (.t 9) (.skip) (.seq (.ops [q14_5]) (.cond (.t 9) (.skip) (.seq (.ops [q14_6]) (.cond (.t 9) (.skip) (.seq (.ops [q14_7]) (.cond (.t 9) (.skip) (.seq (.ops [q14_8]) (.cond (.t 9) (.skip) (.seq (.ops [q14_9]) (.cond (.t 9) (.skip) (.seq (.ops [q14_10]) (.cond (.t 9) (.skip) (.seq (.ops [q14_11]) (.cond (.t 9) (.skip) (.seq (.ops [q14_12]) (.cond (.t 9) (.skip) (.ops [q14_13]))))))))))))))))))) (.cond (.t 9) (.seq (.ops [q14_14]) (.ret)) (.seq (.ops [q14_15]) (.cond (.t 23) (.seq (.ops [q14_16]) (.ret)) (.seq (.ops [q14_17]) (.cond (.t 36) (.seq (.ops [q14_18]) (.ret)) (.seq (.ops [q14_19]) (.cond (.t 44) (.seq (.ops [q14_20]) (.ret)) (.seq (.ops [q14_21]) (.cond (.t 53) (.seq (.ops [q14_22]) (.ret)) (.seq (.ops [q14_23]) (.cond (.t 62) (.seq (.ops [q14_24]) (.ret)) (.seq (.ops [q14_25]) (.cond (.t 68) (.seq (.ops [q14_26]) (.ret)) (.seq (.ops [q14_27]) (.cond (.t 76) (.seq (.ops [q14_28]) (.ret)) (.seq (.ops [q14_29]) (.cond (.t 86) (.seq (.ops [q14_30]) (.ret)) (.skip))))))))))))))))))))) (.seq (.ops [q14_31]) (.ret))))
theorem opcode_Writes_ok : compF Tryz.prog 14 = some (92, opcode_Writes_c, [.t 2, .t 3]) := by kernel_rfl

@[go_sem] def q15_0 : List AI := [
 .j 2 (.box 150002 5 (.c (.agg [(.int .i64 0), (.int .i64 0), (.int .i64 0), (.int .i64 0), (.int .i64 0)]))),
 .j 3 (.mov (.z 0))]
@[go_sem] def q15_1 : List AI := [
 .j 17 (.mov (.t 0)),
 .j 18 (.call 27 [(.t 17), (.c (.str [32]))]),
 .j 4 (.mov (.t 18))]
@[go_sem] def q15_2 : List AI := [
 .j 20 (.mov (.t 4)),
 .j 21 (.iaddr 1 (.t 20) (.z 0)),
 .j 22 (.load 1 false (.t 21)),
 .j 23 (.call 28 [(.t 22)]),
 .j 19 (.mov (.t 23)),
 .j 24 (.ext 0 (.t 19)),
 .j 25 (.ext 1 (.t 19)),
 .j 5 (.mov (.t 24)),
 .j 6 (.mov (.t 25))]
@[go_sem] def q15_3 : List AI := [
 .j 26 (.mov (.t 6)),
 .j 27 (.un .not (.t 26))]
@[go_sem] def q15_4 : List AI := [
 .j 28 (.build [(.int .i64 0), (.int .i64 0), (.int .i64 0), (.int .i64 0), (.int .i64 0)] []),
 .e (.store 5 (.t 2) (.t 28)),
 .j 3 (.mov (.z 9))]
@[go_sem] def q15_5 : List AI := [
 .j 29 (.mov (.t 5)),
 .j 30 (.build [(.int .i64 0), (.int .i64 0), (.int .i64 0), (.int .i64 0), (.int .i64 0)] [(0, 1, (.t 29))]),
 .j 7 (.box 150007 5 (.c (.agg [(.int .i64 0), (.int .i64 0), (.int .i64 0), (.int .i64 0), (.int .i64 0)]))),
 .e (.store 5 (.t 7) (.t 30))]
@[go_sem] def q15_6 : List AI := [
 .j 32 (.mov (.t 5)),
 .j 33 (.call 9 [(.t 32)]),
 .j 31 (.mov (.t 33)),
 .j 34 (.ext 0 (.t 31)),
 .j 35 (.ext 1 (.t 31)),
 .j 8 (.box 150008 6 (.c (.agg [(.str []), (.int .i64 0), (.int .i64 0), (.int .i64 0), (.int .i64 0), (.int .i64 0)]))),
 .e (.store 6 (.t 8) (.t 34)),
 .j 9 (.mov (.t 35))]
@[go_sem] def q15_7 : List AI := [
 .j 37 (.load 6 true (.t 8)),
 .j 38 (.load 5 true (.t 7)),
 .j 39 (.call 10 [(.t 37), (.t 38)]),
 .j 36 (.mov (.t 39)),
 .j 40 (.ext 0 (.t 36)),
 .j 41 (.ext 1 (.t 36)),
 .j 10 (.box 150010 4 (.c (.agg [(.int .i64 0), (.int .i64 0), (.int .i64 0), (.int .i64 0)]))),
 .j 11 (.box 150011 4 (.c (.agg [(.int .i64 0), (.int .i64 0), (.int .i64 0), (.int .i64 0)]))),
 .e (.store 4 (.t 10) (.t 40)),
 .e (.store 4 (.t 11) (.t 41))]
@[go_sem] def q15_8 : List AI := [
 .j 42 (.mov (.t 4)),
 .j 43 (.slc 1 (.t 42) (some (.z 1)) none),
 .j 4 (.mov (.t 43))]
@[go_sem] def q15_9 : List AI := [
 .j 44 (.faddr 1 (.t 7)),
 .j 45 (.faddr 2 (.t 7)),
 .j 46 (.faddr 3 (.t 7)),
 .j 47 (.faddr 4 (.t 7)),
 .j 48 (.mkrow 150048 1 [(.t 44), (.t 45), (.t 46), (.t 47)]),
 .j 49 (.len 0 (.t 48)),
 .j 50 (.mov (.z 0))]
@[go_sem] def q15_10 : List AI := [
 .j 51 (.bin .lss (.t 50) (.t 49))]
@[go_sem] def q15_11 : List AI := [
 .j 52 (.mov (.t 50)),
 .j 53 (.iaddr 1 (.t 48) (.t 50)),
 .j 54 (.load 1 false (.t 53)),
 .j 12 (.mov (.t 52)),
 .j 13 (.mov (.t 54))]
@[go_sem] def q15_12 : List AI := [
 .j 55 (.mov (.t 12)),
 .j 56 (.iaddrA 4 1 (.t 10) (.t 55)),
 .j 57 (.load 1 false (.t 56)),
 .j 58 (.bin .eql (.t 57) (.z 0))]
@[go_sem] def q15_13 : List AI := [
 .j 59 (.mov (.t 4)),
 .j 60 (.len 0 (.t 59)),
 .j 61 (.bin .eql (.t 60) (.z 0))]
@[go_sem] def q15_14 : List AI := [
 .j 62 (.build [(.int .i64 0), (.int .i64 0), (.int .i64 0), (.int .i64 0), (.int .i64 0)] []),
 .e (.store 5 (.t 2) (.t 62)),
 .j 3 (.mov (.z 4))]
@[go_sem] def q15_15 : List AI := [
 .j 64 (.mov (.t 4)),
 .j 65 (.iaddr 1 (.t 64) (.z 0)),
 .j 66 (.load 1 false (.t 65)),
 .j 67 (.call 29 [(.t 66)]),
 .j 63 (.mov (.t 67)),
 .j 68 (.ext 0 (.t 63)),
 .j 69 (.ext 1 (.t 63)),
 .j 14 (.mov (.t 68)),
 .j 15 (.mov (.t 69))]
@[go_sem] def q15_16 : List AI := [
 .j 70 (.mov (.t 15)),
 .j 71 (.isnil true (.t 70))]
@[go_sem] def q15_17 : List AI := [
 .j 72 (.build [(.int .i64 0), (.int .i64 0), (.int .i64 0), (.int .i64 0), (.int .i64 0)] []),
 .e (.store 5 (.t 2) (.t 72)),
 .j 3 (.mov (.z 4))]
@[go_sem] def q15_18_0 : List AI := [
 .j 73 (.mov (.t 13)),
 .j 74 (.mov (.t 14)),
 .j 75 (.mov (.t 4)),
 .j 76 (.slc 1 (.t 75) (some (.z 1)) none),
 .j 77 (.nilck (.t 73)),
 .e (.store 1 (.t 77) (.t 74)),
 .j 4 (.mov (.t 76))]
@[go_sem] def q15_18_1 : List AI := [
 .j 73 (.mov (.t 13)),
 .j 74 (.mov (.t 14)),
 .j 75 (.mov (.t 4)),
 .j 77 (.nilck (.t 73)),
 .e (.store 1 (.t 77) (.t 74)),
 .j 76 (.slc 1 (.t 75) (some (.z 1)) none),
 .j 4 (.mov (.t 76))]
@[go_sem] def q15_19 : List AI := [
 .j 78 (.bin .add (.t 50) (.z 1)),
 .j 50 (.mov (.t 78))]
@[go_sem] def opcode_Parse_l0' : AC := .seq (.ops [q15_10]) (.seq (.cond (.t 51) (.skip) (.exit 0)) (.seq (.block 1 (.seq (.ops [q15_11]) (.seq (.seq (.ops [q15_12]) (.cond (.t 58) (.exit 1) (.skip))) (.seq (.seq (.ops [q15_13]) (.cond (.t 61) (.seq (.ops [q15_14]) (.ret)) (.skip))) (.seq (.ops [q15_15]) (.seq (.seq (.ops [q15_16]) (.cond (.t 71) (.seq (.ops [q15_17]) (.ret)) (.skip))) (.ops [q15_18_0, q15_18_1]))))))) (.ops [q15_19])))
def opcode_Parse_l0 : AC := opcode_Parse_l0'
theorem opcode_Parse_l0_eq : opcode_Parse_l0 = opcode_Parse_l0' := rfl
@[go_sem] def q15_20 : List AI := [
 .j 79 (.mov (.t 4)),
 .j 80 (.len 0 (.t 79)),
 .j 81 (.bin .gtr (.t 80) (.z 0)),
 .j 82 (.mov (.t 81)),
 .k 83 82 false (.load 5 true (.t 7)),
 .k 84 82 false (.call 7 [(.t 83)]),
 .k 85 82 false (.mov (.t 0)),
 .k 86 82 false (.bin .neq (.t 84) (.t 85)),
 .j 87 (.pick (.t 82) (.c (.bool true)) (.t 86))]
@[go_sem] def q15_21 : List AI := [
 .j 88 (.build [(.int .i64 0), (.int .i64 0), (.int .i64 0), (.int .i64 0), (.int .i64 0)] []),
 .e (.store 5 (.t 2) (.t 88)),
 .j 3 (.mov (.z 4))]
@[go_sem] def q15_22 : List AI := [
 .j 89 (.load 5 true (.t 7)),
 .j 90 (.call 4 [(.t 89)]),
 .j 16 (.mov (.t 90))]
@[go_sem] def q15_23 : List AI := [
 .j 91 (.mov (.t 16)),
 .j 92 (.bin .neq (.t 91) (.z 0))]
@[go_sem] def q15_24 : List AI := [
 .j 93 (.build [(.int .i64 0), (.int .i64 0), (.int .i64 0), (.int .i64 0), (.int .i64 0)] []),
 .j 94 (.mov (.t 16)),
 .e (.store 5 (.t 2) (.t 93)),
 .j 3 (.mov (.t 94))]
@[go_sem] def q15_25 : List AI := [
 .j 95 (.load 5 true (.t 7)),
 .e (.store 5 (.t 2) (.t 95)),
 .j 3 (.mov (.z 0))]
@[go_sem] def opcode_Parse_c : AC := .seq (.ops [q15_0]) (.seq (.ops [q15_1]) (.seq (.ops [q15_2]) (.seq (.seq (.ops [q15_3]) (.cond (.t 27) (.seq (.ops [q15_4]) (.ret)) (.skip))) (.seq (.ops [q15_5]) (.seq (.ops [q15_6]) (.seq (.ops [q15_7]) (.seq (.ops [q15_8]) (.seq (.seq (.ops [q15_9]) (.block 0 (.loop opcode_Parse_l0))) (.seq (.seq (.ops [q15_20]) (.cond (.t 87) (.seq (.ops [q15_21]) (.ret)) (.skip))) (.seq (.seq (.ops [q15_22]) (.seq (.ops [q15_23]) (.cond (.t 92) (.seq (.ops [q15_24]) (.ret)) (.skip)))) (.seq (.ops [q15_25]) (.ret))))))))))))
theorem opcode_Parse_ok : compF Tryz.prog 15 = some (96, opcode_Parse_c, [.c 2 5 true, .t 3]) := by kernel_rfl

@[go_sem] def q16_0 : List AI := [
 .j 4 (.mov (.c (.bool false)))]
@[go_sem] def q16_1 : List AI := [
 .j 6 (.mov (.t 0)),
 .j 7 (.len 0 (.t 6)),
 .j 8 (.mov (.t 1)),
 .j 9 (.len 0 (.t 8)),
 .j 10 (.bin .neq (.t 7) (.t 9))]
@[go_sem] def q16_2 : List AI := [
 .j 4 (.mov (.c (.bool false)))]
@[go_sem] def q16_3 : List AI := [
 .j 11 (.mov (.t 0)),
 .j 12 (.len 0 (.t 11)),
 .j 13 (.mov (.z 0))]
@[go_sem] def q16_4 : List AI := [
 .j 14 (.bin .lss (.t 13) (.t 12))]
@[go_sem] def q16_5 : List AI := [
 .j 15 (.mov (.t 13)),
 .j 5 (.mov (.t 15))]
@[go_sem] def q16_6 : List AI := [
 .j 16 (.mov (.t 0)),
 .j 17 (.mov (.t 5)),
 .j 18 (.iaddr 1 (.t 16) (.t 17)),
 .j 19 (.load 1 false (.t 18)),
 .j 20 (.mov (.t 1)),
 .j 21 (.mov (.t 5)),
 .j 22 (.iaddr 1 (.t 20) (.t 21)),
 .j 23 (.load 1 false (.t 22)),
 .j 24 (.bin .neq (.t 19) (.t 23))]
@[go_sem] def q16_7 : List AI := [
 .j 4 (.mov (.c (.bool false)))]
@[go_sem] def q16_8 : List AI := [
 .j 25 (.bin .add (.t 13) (.z 1)),
 .j 13 (.mov (.t 25))]
@[go_sem] def scriptinglaw32_ints_l0' : AC := .seq (.ops [q16_4]) (.seq (.cond (.t 14) (.skip) (.exit 0)) (.seq (.block 1 (.seq (.ops [q16_5]) (.seq (.ops [q16_6]) (.cond (.t 24) (.seq (.ops [q16_7]) (.ret)) (.skip))))) (.ops [q16_8])))
def scriptinglaw32_ints_l0 : AC := scriptinglaw32_ints_l0'
theorem scriptinglaw32_ints_l0_eq : scriptinglaw32_ints_l0 = scriptinglaw32_ints_l0' := rfl
@[go_sem] def q16_9 : List AI := [
 .j 4 (.mov (.c (.bool true)))]
@[go_sem] def scriptinglaw32_ints_c : AC := .seq (.ops [q16_0]) (.seq (.seq (.ops [q16_1]) (.cond (.t 10) (.seq (.ops [q16_2]) (.ret)) (.skip))) (.seq (.seq (.ops [q16_3]) (.block 0 (.loop scriptinglaw32_ints_l0))) (.seq (.ops [q16_9]) (.ret))))
theorem scriptinglaw32_ints_ok : compF Tryz.prog 16 = some (26, scriptinglaw32_ints_c, [.t 4]) := by kernel_rfl

@[go_sem] def q18_0 : List AI := [
 .j 2 (.mov (.c (.str [])))]
@[go_sem] def q18_1 : List AI := [
 .j 3 (.mov (.t 0)),
 .j 4 (.call 31 [(.t 3), (.c (.str [32, 9, 10, 13]))]),
 .j 2 (.mov (.t 4))]
@[go_sem] def numeral_trim_c : AC := .seq (.ops [q18_0]) (.seq (.ops [q18_1]) (.ret))
theorem numeral_trim_ok : compF Tryz.prog 18 = some (5, numeral_trim_c, [.t 2]) := by kernel_rfl

@[go_sem] def q19_0 : List AI := [
 .j 4 (.mov (.c (.str []))),
 .j 5 (.mov (.c (.bool false)))]
@[go_sem] def q19_1 : List AI := [
 .j 6 (.mov (.t 0)),
 .j 7 (.mov (.t 1)),
 .j 8 (.call 32 [(.t 6), (.t 7)]),
 .j 9 (.ext 0 (.t 8)),
 .j 10 (.ext 1 (.t 8)),
 .j 4 (.mov (.t 9)),
 .j 5 (.mov (.t 10))]
@[go_sem] def strings_CutPrefix_c : AC := .seq (.ops [q19_0]) (.seq (.ops [q19_1]) (.ret))
theorem strings_CutPrefix_ok : compF Tryz.prog 19 = some (11, strings_CutPrefix_c, [.t 4, .t 5]) := by kernel_rfl

@[go_sem] def q20_0 : List AI := [
 .j 4 (.box 200004 4 (.c (.agg [(.bool false), (.int .i64 0), (.int .i64 0), (.int .i64 0)]))),
 .j 5 (.mov (.c (.bool false)))]
@[go_sem] def q20_1 : List AI := [
 .j 9 (.mov (.t 0)),
 .j 10 (.mov (.t 1)),
 .j 11 (.call 33 [(.t 9), (.t 10), (.z 10)]),
 .j 6 (.mov (.t 11))]
@[go_sem] def q20_2 : List AI := [
 .j 12 (.mov (.t 6)),
 .j 13 (.mov (.t 1)),
 .j 14 (.bin .eql (.t 12) (.t 13))]
@[go_sem] def q20_3 : List AI := [
 .j 15 (.build [(.bool false), (.int .i64 0), (.int .i64 0), (.int .i64 0)] []),
 .e (.store 4 (.t 4) (.t 15)),
 .j 5 (.mov (.c (.bool false)))]
@[go_sem] def q20_4 : List AI := [
 .j 16 (.mov (.t 6)),
 .j 17 (.mov (.t 1)),
 .j 18 (.bin .add (.t 17) (.z 1)),
 .j 19 (.bin .eql (.t 16) (.t 18)),
 .j 20 (.mov (.t 19)),
 .k 21 20 true (.mov (.t 0)),
 .k 22 20 true (.mov (.t 1)),
 .k 23 20 true (.idx (.t 21) (.t 22)),
 .k 24 20 true (.bin .eql (.t 23) (.c (.int .u8 48))),
 .j 25 (.pick (.t 20) (.t 24) (.c (.bool false))),
 .j 26 (.mov (.t 25)),
 .k 27 26 true (.mov (.t 6)),
 .k 28 26 true (.mov (.t 0)),
 .k 29 26 true (.len 1 (.t 28)),
 .k 30 26 true (.bin .lss (.t 27) (.t 29)),
 .j 31 (.pick (.t 26) (.t 30) (.c (.bool false))),
 .j 32 (.mov (.t 31)),
 .k 33 32 true (.mov (.t 0)),
 .k 34 32 true (.mov (.t 6)),
 .k 35 32 true (.idx (.t 33) (.t 34)),
 .k 36 32 true (.bin .eql (.t 35) (.c (.int .u8 120))),
 .k 37 32 true (.mov (.t 36)),
 .k 38 37 false (.mov (.t 0)),
 .k 39 37 false (.mov (.t 6)),
 .k 40 37 false (.idx (.t 38) (.t 39)),
 .k 41 37 false (.bin .eql (.t 40) (.c (.int .u8 88))),
 .k 42 32 true (.pick (.t 37) (.c (.bool true)) (.t 41)),
 .j 43 (.pick (.t 32) (.t 42) (.c (.bool false)))]
@[go_sem] def q20_5 : List AI := [
 .j 44 (.mov (.t 0)),
 .j 45 (.mov (.t 6)),
 .j 46 (.bin .add (.t 45) (.z 1)),
 .j 47 (.call 33 [(.t 44), (.t 46), (.z 16)]),
 .j 7 (.mov (.t 47))]
@[go_sem] def q20_6 : List AI := [
 .j 48 (.mov (.t 7)),
 .j 49 (.mov (.t 6)),
 .j 50 (.bin .add (.t 49) (.z 1)),
 .j 51 (.bin .gtr (.t 48) (.t 50))]
@[go_sem] def q20_7 : List AI := [
 .j 52 (.mov (.t 6)),
 .j 53 (.bin .add (.t 52) (.z 1)),
 .j 54 (.mov (.t 7)),
 .j 55 (.build [(.bool false), (.int .i64 0), (.int .i64 0), (.int .i64 0)] [(0, 1, (.c (.bool true))), (1, 1, (.z (-1))), (3, 1, (.t 53)), (2, 1, (.t 54))]),
 .e (.store 4 (.t 4) (.t 55)),
 .j 5 (.mov (.c (.bool true)))]
@[go_sem] def q20_8 : List AI := [
 .j 56 (.mov (.t 6)),
 .j 57 (.mov (.t 0)),
 .j 58 (.len 1 (.t 57)),
 .j 59 (.bin .lss (.t 56) (.t 58)),
 .j 60 (.mov (.t 59)),
 .k 61 60 true (.mov (.t 0)),
 .k 62 60 true (.mov (.t 6)),
 .k 63 60 true (.idx (.t 61) (.t 62)),
 .k 64 60 true (.bin .eql (.t 63) (.c (.int .u8 46))),
 .j 65 (.pick (.t 60) (.t 64) (.c (.bool false)))]
@[go_sem] def q20_9 : List AI := [
 .j 66 (.mov (.t 0)),
 .j 67 (.mov (.t 6)),
 .j 68 (.bin .add (.t 67) (.z 1)),
 .j 69 (.call 33 [(.t 66), (.t 68), (.z 10)]),
 .j 8 (.mov (.t 69))]
@[go_sem] def q20_10 : List AI := [
 .j 70 (.mov (.t 8)),
 .j 71 (.mov (.t 6)),
 .j 72 (.bin .add (.t 71) (.z 1)),
 .j 73 (.bin .gtr (.t 70) (.t 72))]
@[go_sem] def q20_11 : List AI := [
 .j 74 (.mov (.t 6)),
 .j 75 (.mov (.t 1)),
 .j 76 (.mov (.t 8)),
 .j 77 (.build [(.bool false), (.int .i64 0), (.int .i64 0), (.int .i64 0)] [(1, 1, (.t 74)), (3, 1, (.t 75)), (2, 1, (.t 76))]),
 .e (.store 4 (.t 4) (.t 77)),
 .j 5 (.mov (.c (.bool true)))]
@[go_sem] def q20_12 : List AI := [
 .j 78 (.mov (.t 1)),
 .j 79 (.mov (.t 6)),
 .j 80 (.build [(.bool false), (.int .i64 0), (.int .i64 0), (.int .i64 0)] [(1, 1, (.z (-1))), (3, 1, (.t 78)), (2, 1, (.t 79))]),
 .e (.store 4 (.t 4) (.t 80)),
 .j 5 (.mov (.c (.bool true)))]
@[go_sem] def numeral_find_c : AC := .seq (.ops [q20_0]) (.seq (.ops [q20_1]) (.seq (.seq (.ops [q20_2]) (.cond (.t 14) (.seq (.ops [q20_3]) (.ret)) (.skip))) (.seq (.seq (.ops [q20_4]) (.cond (.t 43) (.seq (.ops [q20_5]) (.seq (.ops [q20_6]) (.cond (.t 51) (.seq (.ops [q20_7]) (.ret)) (.skip)))) (.skip))) (.seq (.seq (.ops [q20_8]) (.cond (.t 65) (.seq (.ops [q20_9]) (.seq (.ops [q20_10]) (.cond (.t 73) (.seq (.ops [q20_11]) (.ret)) (.skip)))) (.skip))) (.seq (.ops [q20_12]) (.ret))))))
theorem numeral_find_ok : compF Tryz.prog 20 = some (81, numeral_find_c, [.c 4 4 true, .t 5]) := by kernel_rfl

@[go_sem] def q21_0 : List AI := [
 .j 2 (.box 210002 4 (.t 0)),
 .j 4 (.box 210004 2 (.c (.agg [(.int .i64 0), (.int .i64 0)]))),
 .j 5 (.mov (.z 0))]
@[go_sem] def q21_1 : List AI := [
 .j 14 (.mov (.t 1)),
 .j 15 (.faddr 3 (.t 2)),
 .j 16 (.load 1 false (.t 15)),
 .j 17 (.faddr 2 (.t 2)),
 .j 18 (.load 1 false (.t 17)),
 .j 19 (.sls (.t 14) (some (.t 16)) (some (.t 18))),
 .j 6 (.mov (.z 10)),
 .j 7 (.mov (.t 19)),
 .j 8 (.mov (.z 1))]
@[go_sem] def q21_2 : List AI := [
 .j 20 (.faddr 0 (.t 2)),
 .j 21 (.load 1 false (.t 20))]
@[go_sem] def q21_3 : List AI := [
 .j 6 (.mov (.z 16))]
@[go_sem] def q21_4 : List AI := [
 .j 22 (.faddr 1 (.t 2)),
 .j 23 (.load 1 false (.t 22)),
 .j 24 (.bin .geq (.t 23) (.z 0))]
@[go_sem] def q21_5 : List AI := [
 .j 25 (.mov (.t 1)),
 .j 26 (.faddr 1 (.t 2)),
 .j 27 (.load 1 false (.t 26)),
 .j 28 (.bin .add (.t 27) (.z 1)),
 .j 29 (.faddr 2 (.t 2)),
 .j 30 (.load 1 false (.t 29)),
 .j 31 (.sls (.t 25) (some (.t 28)) (some (.t 30))),
 .j 9 (.mov (.t 31))]
@[go_sem] def q21_6 : List AI := [
 .j 32 (.mov (.t 9)),
 .j 33 (.len 1 (.t 32)),
 .j 34 (.bin .gtr (.t 33) (.z 9))]
@[go_sem] def q21_7 : List AI := [
 .j 35 (.build [(.int .i64 0), (.int .i64 0)] []),
 .e (.store 2 (.t 4) (.t 35)),
 .j 5 (.mov (.z 6))]
@[go_sem] def q21_8 : List AI := [
 .j 36 (.mov (.t 1)),
 .j 37 (.faddr 3 (.t 2)),
 .j 38 (.load 1 false (.t 37)),
 .j 39 (.faddr 1 (.t 2)),
 .j 40 (.load 1 false (.t 39)),
 .j 41 (.sls (.t 36) (some (.t 38)) (some (.t 40))),
 .j 42 (.mov (.t 9)),
 .j 43 (.bin .add (.t 41) (.t 42)),
 .j 7 (.mov (.t 43))]
@[go_sem] def q21_9 : List AI := [
 .j 44 (.mov (.t 9)),
 .j 45 (.len 1 (.t 44)),
 .j 46 (.mov (.z 0))]
@[go_sem] def q21_10 : List AI := [
 .j 47 (.bin .lss (.t 46) (.t 45))]
@[go_sem] def q21_11 : List AI := [
 .j 48 (.mov (.t 8)),
 .j 49 (.bin .mul (.t 48) (.z 10)),
 .j 8 (.mov (.t 49))]
@[go_sem] def q21_12 : List AI := [
 .j 50 (.bin .add (.t 46) (.z 1)),
 .j 46 (.mov (.t 50))]
@[go_sem] def numeral_numeral_number_l0' : AC := .seq (.ops [q21_10]) (.seq (.cond (.t 47) (.skip) (.exit 0)) (.seq (.block 1 (.ops [q21_11])) (.ops [q21_12])))
def numeral_numeral_number_l0 : AC := numeral_numeral_number_l0'
theorem numeral_numeral_number_l0_eq : numeral_numeral_number_l0 = numeral_numeral_number_l0' := rfl
@[go_sem] def q21_13 : List AI := [
 .j 52 (.mov (.t 7)),
 .j 53 (.mov (.t 6)),
 .j 54 (.call 34 [(.t 52), (.t 53)]),
 .j 51 (.mov (.t 54)),
 .j 55 (.ext 0 (.t 51)),
 .j 56 (.ext 1 (.t 51)),
 .j 10 (.mov (.t 55)),
 .j 11 (.mov (.t 56))]
@[go_sem] def q21_14 : List AI := [
 .j 57 (.mov (.t 11)),
 .j 58 (.un .not (.t 57))]
@[go_sem] def q21_15 : List AI := [
 .j 59 (.build [(.int .i64 0), (.int .i64 0)] []),
 .e (.store 2 (.t 4) (.t 59)),
 .j 5 (.mov (.z 6))]
@[go_sem] def q21_16 : List AI := [
 .j 61 (.mov (.t 10)),
 .j 62 (.mov (.t 8)),
 .j 63 (.call 35 [(.t 61), (.t 62)]),
 .j 60 (.mov (.t 63)),
 .j 64 (.ext 0 (.t 60)),
 .j 65 (.ext 1 (.t 60)),
 .j 12 (.box 210012 2 (.c (.agg [(.int .i64 0), (.int .i64 0)]))),
 .e (.store 2 (.t 12) (.t 64)),
 .j 13 (.mov (.t 65))]
@[go_sem] def q21_17 : List AI := [
 .j 66 (.mov (.t 13)),
 .j 67 (.bin .neq (.t 66) (.z 0))]
@[go_sem] def q21_18 : List AI := [
 .j 68 (.build [(.int .i64 0), (.int .i64 0)] []),
 .e (.store 2 (.t 4) (.t 68)),
 .j 5 (.mov (.z 6))]
@[go_sem] def q21_19 : List AI := [
 .j 69 (.load 2 true (.t 12)),
 .e (.store 2 (.t 4) (.t 69)),
 .j 5 (.mov (.z 0))]
@[go_sem] def numeral_numeral_number_c : AC := .seq (.ops [q21_0]) (.seq (.ops [q21_1]) (.seq (.seq (.ops [q21_2]) (.cond (.t 21) (.ops [q21_3]) (.skip))) (.seq (.seq (.ops [q21_4]) (.cond (.t 24) (.seq (.ops [q21_5]) (.seq (.seq (.ops [q21_6]) (.cond (.t 34) (.seq (.ops [q21_7]) (.ret)) (.skip))) (.seq (.ops [q21_8]) (.seq (.ops [q21_9]) (.block 0 (.loop numeral_numeral_number_l0)))))) (.skip))) (.seq (.ops [q21_13]) (.seq (.seq (.ops [q21_14]) (.cond (.t 58) (.seq (.ops [q21_15]) (.ret)) (.skip))) (.seq (.ops [q21_16]) (.seq (.seq (.ops [q21_17]) (.cond (.t 67) (.seq (.ops [q21_18]) (.ret)) (.skip))) (.seq (.ops [q21_19]) (.ret)))))))))
theorem numeral_numeral_number_ok : compF Tryz.prog 21 = some (70, numeral_numeral_number_c, [.c 4 2 true, .t 5]) := by kernel_rfl

@[go_sem] def q22_0 : List AI := [
 .j 2 (.box 220002 2 (.c (.agg [(.int .i64 0), (.int .i64 0)]))),
 .j 3 (.mov (.z 0))]
@[go_sem] def q22_1 : List AI := [
 .j 14 (.mov (.t 0)),
 .j 15 (.call 36 [(.t 14), (.c (.str [47]))]),
 .j 13 (.mov (.t 15)),
 .j 16 (.ext 0 (.t 13)),
 .j 17 (.ext 1 (.t 13)),
 .j 18 (.ext 2 (.t 13)),
 .j 4 (.mov (.t 16)),
 .j 5 (.mov (.t 17)),
 .j 6 (.mov (.t 18))]
@[go_sem] def q22_2 : List AI := [
 .j 19 (.mov (.t 6)),
 .j 20 (.un .not (.t 19)),
 .j 21 (.mov (.t 20)),
 .k 22 21 false (.mov (.t 4)),
 .k 23 21 false (.bin .eql (.t 22) (.c (.str []))),
 .j 24 (.pick (.t 21) (.c (.bool true)) (.t 23)),
 .j 25 (.mov (.t 24)),
 .k 26 25 false (.mov (.t 5)),
 .k 27 25 false (.bin .eql (.t 26) (.c (.str []))),
 .j 28 (.pick (.t 25) (.c (.bool true)) (.t 27)),
 .j 29 (.mov (.t 28)),
 .k 30 29 false (.mov (.t 4)),
 .k 31 29 false (.call 33 [(.t 30), (.z 0), (.z 10)]),
 .k 32 29 false (.mov (.t 4)),
 .k 33 29 false (.len 1 (.t 32)),
 .k 34 29 false (.bin .neq (.t 31) (.t 33)),
 .j 35 (.pick (.t 29) (.c (.bool true)) (.t 34)),
 .j 36 (.mov (.t 35)),
 .k 37 36 false (.mov (.t 5)),
 .k 38 36 false (.call 33 [(.t 37), (.z 0), (.z 10)]),
 .k 39 36 false (.mov (.t 5)),
 .k 40 36 false (.len 1 (.t 39)),
 .k 41 36 false (.bin .neq (.t 38) (.t 40)),
 .j 42 (.pick (.t 36) (.c (.bool true)) (.t 41))]
@[go_sem] def q22_3 : List AI := [
 .j 43 (.build [(.int .i64 0), (.int .i64 0)] []),
 .e (.store 2 (.t 2) (.t 43)),
 .j 3 (.mov (.z 4))]
@[go_sem] def q22_4 : List AI := [
 .j 45 (.mov (.t 4)),
 .j 46 (.call 34 [(.t 45), (.z 10)]),
 .j 44 (.mov (.t 46)),
 .j 47 (.ext 0 (.t 44)),
 .j 48 (.ext 1 (.t 44)),
 .j 7 (.mov (.t 47)),
 .j 8 (.mov (.t 48))]
@[go_sem] def q22_5 : List AI := [
 .j 50 (.mov (.t 5)),
 .j 51 (.call 34 [(.t 50), (.z 10)]),
 .j 49 (.mov (.t 51)),
 .j 52 (.ext 0 (.t 49)),
 .j 53 (.ext 1 (.t 49)),
 .j 9 (.mov (.t 52)),
 .j 10 (.mov (.t 53))]
@[go_sem] def q22_6 : List AI := [
 .j 54 (.mov (.t 8)),
 .j 55 (.un .not (.t 54)),
 .j 56 (.mov (.t 55)),
 .k 57 56 false (.mov (.t 10)),
 .k 58 56 false (.un .not (.t 57)),
 .j 59 (.pick (.t 56) (.c (.bool true)) (.t 58))]
@[go_sem] def q22_7 : List AI := [
 .j 60 (.build [(.int .i64 0), (.int .i64 0)] []),
 .e (.store 2 (.t 2) (.t 60)),
 .j 3 (.mov (.z 6))]
@[go_sem] def q22_8 : List AI := [
 .j 62 (.mov (.t 7)),
 .j 63 (.mov (.t 9)),
 .j 64 (.call 35 [(.t 62), (.t 63)]),
 .j 61 (.mov (.t 64)),
 .j 65 (.ext 0 (.t 61)),
 .j 66 (.ext 1 (.t 61)),
 .j 11 (.box 220011 2 (.c (.agg [(.int .i64 0), (.int .i64 0)]))),
 .e (.store 2 (.t 11) (.t 65)),
 .j 12 (.mov (.t 66))]
@[go_sem] def q22_9 : List AI := [
 .j 67 (.mov (.t 12)),
 .j 68 (.bin .neq (.t 67) (.z 0))]
@[go_sem] def q22_10 : List AI := [
 .j 69 (.build [(.int .i64 0), (.int .i64 0)] []),
 .e (.store 2 (.t 2) (.t 69)),
 .j 3 (.mov (.z 6))]
@[go_sem] def q22_11 : List AI := [
 .j 70 (.load 2 true (.t 11)),
 .e (.store 2 (.t 2) (.t 70)),
 .j 3 (.mov (.z 0))]
@[go_sem] def numeral_fraction_c : AC := .seq (.ops [q22_0]) (.seq (.ops [q22_1]) (.seq (.seq (.ops [q22_2]) (.cond (.t 42) (.seq (.ops [q22_3]) (.ret)) (.skip))) (.seq (.ops [q22_4]) (.seq (.ops [q22_5]) (.seq (.seq (.ops [q22_6]) (.cond (.t 59) (.seq (.ops [q22_7]) (.ret)) (.skip))) (.seq (.ops [q22_8]) (.seq (.seq (.ops [q22_9]) (.cond (.t 68) (.seq (.ops [q22_10]) (.ret)) (.skip))) (.seq (.ops [q22_11]) (.ret)))))))))
theorem numeral_fraction_ok : compF Tryz.prog 22 = some (71, numeral_fraction_c, [.c 2 2 true, .t 3]) := by kernel_rfl

@[go_sem] def q23_0 : List AI := [
 .j 2 (.mov (.c .nils))]
@[go_sem] def q23_1 : List AI := [
 .j 3 (.mov (.z 0))]
@[go_sem] def q23_2 : List AI := [
 .j 4 (.mov (.z 1))]
@[go_sem] def q23_3 : List AI := [
 .j 5 (.mov (.c (.int .u8 0)))]
@[go_sem] def q23_4 : List AI := [
 .j 6 (.mov (.z 0))]
@[go_sem] def q23_5 : List AI := [
 .j 13 (.mov (.t 6)),
 .j 14 (.mov (.t 0)),
 .j 15 (.len 1 (.t 14)),
 .j 16 (.bin .lss (.t 13) (.t 15))]
@[go_sem] def q23_6 : List AI := [
 .j 19 (.mov (.t 0)),
 .j 20 (.mov (.t 6)),
 .j 21 (.idx (.t 19) (.t 20)),
 .j 7 (.mov (.t 21))]
@[go_sem] def q23_7 : List AI := [
 .j 22 (.mov (.t 5)),
 .j 23 (.mov (.t 7)),
 .j 24 (.bin .or (.t 22) (.t 23)),
 .j 5 (.mov (.t 24))]
@[go_sem] def q23_8 : List AI := [
 .j 25 (.mov (.t 7)),
 .j 26 (.iaddrA 256 1 (.g 0) (.t 25)),
 .j 27 (.load 1 false (.t 26)),
 .j 28 (.conv .i64 (.t 27)),
 .j 8 (.mov (.t 28))]
@[go_sem] def q23_9 : List AI := [
 .j 29 (.mov (.t 3)),
 .j 30 (.mov (.t 4)),
 .j 31 (.mov (.t 8)),
 .j 32 (.un .xor (.t 31)),
 .j 33 (.bin .and (.t 30) (.t 32)),
 .j 34 (.bin .add (.t 29) (.t 33)),
 .j 3 (.mov (.t 34))]
@[go_sem] def q23_10 : List AI := [
 .j 35 (.mov (.t 8)),
 .j 4 (.mov (.t 35))]
@[go_sem] def q23_11 : List AI := [
 .j 17 (.mov (.t 6)),
 .j 18 (.bin .add (.t 17) (.z 1)),
 .j 6 (.mov (.t 18))]
@[go_sem] def strings_Fields_l0' : AC := .seq (.seq (.ops [q23_5]) (.cond (.t 16) (.skip) (.exit 0))) (.seq (.block 1 (.seq (.ops [q23_6]) (.seq (.ops [q23_7]) (.seq (.ops [q23_8]) (.seq (.ops [q23_9]) (.ops [q23_10])))))) (.ops [q23_11]))
def strings_Fields_l0 : AC := strings_Fields_l0'
theorem strings_Fields_l0_eq : strings_Fields_l0 = strings_Fields_l0' := rfl
@[go_sem] def q23_12 : List AI := [
 .j 36 (.mov (.t 5)),
 .j 37 (.bin .geq (.t 36) (.c (.int .u8 128)))]
@[go_sem] def q23_13 : List AI := [
 .j 38 (.mov (.t 0)),
 .j 39 (.call 37 [(.t 38), (.f 38)]),
 .j 2 (.mov (.t 39))]
@[go_sem] def q23_14 : List AI := [
 .j 40 (.mov (.t 3)),
 .j 41 (.mksl 230041 [(.str [])] (.t 40)),
 .j 9 (.mov (.t 41))]
@[go_sem] def q23_15 : List AI := [
 .j 10 (.mov (.z 0))]
@[go_sem] def q23_16 : List AI := [
 .j 11 (.mov (.z 0))]
@[go_sem] def q23_17 : List AI := [
 .j 12 (.mov (.z 0))]
@[go_sem] def q23_18 : List AI := [
 .j 42 (.mov (.t 12)),
 .j 43 (.mov (.t 0)),
 .j 44 (.len 1 (.t 43)),
 .j 45 (.bin .lss (.t 42) (.t 44)),
 .j 46 (.mov (.t 45)),
 .k 47 46 true (.mov (.t 0)),
 .k 48 46 true (.mov (.t 12)),
 .k 49 46 true (.idx (.t 47) (.t 48)),
 .k 50 46 true (.iaddrA 256 1 (.g 0) (.t 49)),
 .k 51 46 true (.load 1 false (.t 50)),
 .k 52 46 true (.bin .neq (.t 51) (.c (.int .u8 0))),
 .j 53 (.pick (.t 46) (.t 52) (.c (.bool false)))]
@[go_sem] def q23_19 : List AI := [
 .j 54 (.mov (.t 12)),
 .j 55 (.bin .add (.t 54) (.z 1)),
 .j 12 (.mov (.t 55))]
@[go_sem] def strings_Fields_l1' : AC := .seq (.seq (.ops [q23_18]) (.cond (.t 53) (.skip) (.exit 2))) (.block 3 (.ops [q23_19]))
def strings_Fields_l1 : AC := strings_Fields_l1'
theorem strings_Fields_l1_eq : strings_Fields_l1 = strings_Fields_l1' := rfl
@[go_sem] def q23_20 : List AI := [
 .j 56 (.mov (.t 12)),
 .j 11 (.mov (.t 56))]
@[go_sem] def q23_21 : List AI := [
 .j 57 (.mov (.t 12)),
 .j 58 (.mov (.t 0)),
 .j 59 (.len 1 (.t 58)),
 .j 60 (.bin .lss (.t 57) (.t 59))]
@[go_sem] def q23_22 : List AI := [
 .j 61 (.mov (.t 0)),
 .j 62 (.mov (.t 12)),
 .j 63 (.idx (.t 61) (.t 62)),
 .j 64 (.iaddrA 256 1 (.g 0) (.t 63)),
 .j 65 (.load 1 false (.t 64)),
 .j 66 (.bin .eql (.t 65) (.c (.int .u8 0)))]
@[go_sem] def q23_23 : List AI := [
 .j 67 (.mov (.t 12)),
 .j 68 (.bin .add (.t 67) (.z 1)),
 .j 12 (.mov (.t 68))]
@[go_sem] def q23_24 : List AI := [
 .j 69 (.mov (.t 9)),
 .j 70 (.mov (.t 10)),
 .j 71 (.mov (.t 0)),
 .j 72 (.mov (.t 11)),
 .j 73 (.mov (.t 12)),
 .j 74 (.sls (.t 71) (some (.t 72)) (some (.t 73))),
 .j 75 (.iaddr 1 (.t 69) (.t 70)),
 .e (.store 1 (.t 75) (.t 74))]
@[go_sem] def q23_25 : List AI := [
 .j 76 (.mov (.t 10)),
 .j 77 (.bin .add (.t 76) (.z 1)),
 .j 10 (.mov (.t 77))]
@[go_sem] def q23_26 : List AI := [
 .j 78 (.mov (.t 12)),
 .j 79 (.bin .add (.t 78) (.z 1)),
 .j 12 (.mov (.t 79))]
@[go_sem] def q23_27 : List AI := [
 .j 80 (.mov (.t 12)),
 .j 81 (.mov (.t 0)),
 .j 82 (.len 1 (.t 81)),
 .j 83 (.bin .lss (.t 80) (.t 82)),
 .j 84 (.mov (.t 83)),
 .k 85 84 true (.mov (.t 0)),
 .k 86 84 true (.mov (.t 12)),
 .k 87 84 true (.idx (.t 85) (.t 86)),
 .k 88 84 true (.iaddrA 256 1 (.g 0) (.t 87)),
 .k 89 84 true (.load 1 false (.t 88)),
 .k 90 84 true (.bin .neq (.t 89) (.c (.int .u8 0))),
 .j 91 (.pick (.t 84) (.t 90) (.c (.bool false)))]
@[go_sem] def q23_28 : List AI := [
 .j 92 (.mov (.t 12)),
 .j 93 (.bin .add (.t 92) (.z 1)),
 .j 12 (.mov (.t 93))]
@[go_sem] def strings_Fields_l3' : AC := .seq (.seq (.ops [q23_27]) (.cond (.t 91) (.skip) (.exit 6))) (.block 7 (.ops [q23_28]))
def strings_Fields_l3 : AC := strings_Fields_l3'
theorem strings_Fields_l3_eq : strings_Fields_l3 = strings_Fields_l3' := rfl
@[go_sem] def q23_29 : List AI := [
 .j 94 (.mov (.t 12)),
 .j 11 (.mov (.t 94))]
@[go_sem] def strings_Fields_l2' : AC := .seq (.seq (.ops [q23_21]) (.cond (.t 60) (.skip) (.exit 4))) (.block 5 (.seq (.seq (.ops [q23_22]) (.cond (.t 66) (.seq (.ops [q23_23]) (.exit 5)) (.skip))) (.seq (.ops [q23_24]) (.seq (.ops [q23_25]) (.seq (.ops [q23_26]) (.seq (.block 6 (.loop strings_Fields_l3)) (.ops [q23_29])))))))
def strings_Fields_l2 : AC := strings_Fields_l2'
theorem strings_Fields_l2_eq : strings_Fields_l2 = strings_Fields_l2' := rfl
@[go_sem] def q23_30 : List AI := [
 .j 95 (.mov (.t 11)),
 .j 96 (.mov (.t 0)),
 .j 97 (.len 1 (.t 96)),
 .j 98 (.bin .lss (.t 95) (.t 97))]
@[go_sem] def q23_31 : List AI := [
 .j 99 (.mov (.t 9)),
 .j 100 (.mov (.t 10)),
 .j 101 (.mov (.t 0)),
 .j 102 (.mov (.t 11)),
 .j 103 (.sls (.t 101) (some (.t 102)) none),
 .j 104 (.iaddr 1 (.t 99) (.t 100)),
 .e (.store 1 (.t 104) (.t 103))]
@[go_sem] def q23_32 : List AI := [
 .j 105 (.mov (.t 9)),
 .j 2 (.mov (.t 105))]
@[go_sem] def strings_Fields_c : AC := .seq (.ops [q23_0]) (.seq (.ops [q23_1]) (.seq (.ops [q23_2]) (.seq (.ops [q23_3]) (.seq (.seq (.ops [q23_4]) (.block 0 (.loop strings_Fields_l0))) (.seq (.seq (.ops [q23_12]) (.cond (.t 37) (.seq (.ops [q23_13]) (.ret)) (.skip))) (.seq (.ops [q23_14]) (.seq (.ops [q23_15]) (.seq (.ops [q23_16]) (.seq (.ops [q23_17]) (.seq (.block 2 (.loop strings_Fields_l1)) (.seq (.ops [q23_20]) (.seq (.block 4 (.loop strings_Fields_l2)) (.seq (.seq (.ops [q23_30]) (.cond (.t 98) (.ops [q23_31]) (.skip))) (.seq (.ops [q23_32]) (.ret)))))))))))))))
theorem strings_Fields_ok : compF Tryz.prog 23 = some (106, strings_Fields_c, [.t 2]) := by kernel_rfl

@[go_sem] def q24_0 : List AI := [
 .j 2 (.box 240002 6 (.c (.agg [(.str []), (.int .i64 0), (.int .i64 0), (.int .i64 0), (.int .i64 0), (.int .i64 0)])))]
@[go_sem] def q24_1 : List AI := [
 .j 3 (.mov (.t 0))]
@[go_sem] def q24_2 : List AI := [
 .j 5 (.bin .eql (.t 3) (.z 1)),
 .j 4 (.mov (.t 5))]
@[go_sem] def q24_3 : List AI := [
 .j 6 (.build [(.str []), (.int .i64 0), (.int .i64 0), (.int .i64 0), (.int .i64 0), (.int .i64 0)] [(1, 1, (.z 1)), (2, 1, (.z 1))]),
 .e (.store 6 (.t 2) (.t 6))]
@[go_sem] def q24_4 : List AI := [
 .j 8 (.bin .eql (.t 3) (.z 2)),
 .j 7 (.mov (.t 8))]
@[go_sem] def q24_5 : List AI := [
 .j 9 (.bin .eql (.t 3) (.z 7)),
 .j 7 (.mov (.t 9))]
@[go_sem] def q24_6 : List AI := [
 .j 10 (.build [(.str []), (.int .i64 0), (.int .i64 0), (.int .i64 0), (.int .i64 0), (.int .i64 0)] [(1, 1, (.z 1)), (2, 1, (.z 2))]),
 .e (.store 6 (.t 2) (.t 10))]
@[go_sem] def q24_7 : List AI := [
 .j 12 (.bin .eql (.t 3) (.z 3)),
 .j 11 (.mov (.t 12))]
@[go_sem] def q24_8 : List AI := [
 .j 13 (.build [(.str []), (.int .i64 0), (.int .i64 0), (.int .i64 0), (.int .i64 0), (.int .i64 0)] [(1, 1, (.z 1)), (2, 1, (.z 1))]),
 .e (.store 6 (.t 2) (.t 13))]
@[go_sem] def q24_9 : List AI := [
 .j 15 (.bin .eql (.t 3) (.z 4)),
 .j 14 (.mov (.t 15))]
@[go_sem] def q24_10 : List AI := [
 .j 16 (.build [(.str []), (.int .i64 0), (.int .i64 0), (.int .i64 0), (.int .i64 0), (.int .i64 0)] [(1, 1, (.z 1)), (2, 1, (.z 8))]),
 .e (.store 6 (.t 2) (.t 16))]
@[go_sem] def q24_11 : List AI := [
 .j 18 (.bin .eql (.t 3) (.z 5)),
 .j 17 (.mov (.t 18))]
@[go_sem] def q24_12 : List AI := [
 .j 19 (.build [(.str []), (.int .i64 0), (.int .i64 0), (.int .i64 0), (.int .i64 0), (.int .i64 0)] [(1, 1, (.z 1)), (2, 1, (.z 3))]),
 .e (.store 6 (.t 2) (.t 19))]
@[go_sem] def q24_13 : List AI := [
 .j 21 (.bin .eql (.t 3) (.z 6)),
 .j 20 (.mov (.t 21))]
@[go_sem] def q24_14 : List AI := [
 .j 22 (.build [(.str []), (.int .i64 0), (.int .i64 0), (.int .i64 0), (.int .i64 0), (.int .i64 0)] [(1, 1, (.z 3)), (2, 1, (.z 1))]),
 .e (.store 6 (.t 2) (.t 22))]
@[go_sem] def q24_15 : List AI := [
 .j 24 (.bin .eql (.t 3) (.z 8)),
 .j 23 (.mov (.t 24))]
@[go_sem] def q24_16 : List AI := [
 .j 25 (.build [(.str []), (.int .i64 0), (.int .i64 0), (.int .i64 0), (.int .i64 0), (.int .i64 0)] [(1, 1, (.z 2)), (2, 1, (.z 1))]),
 .e (.store 6 (.t 2) (.t 25))]
@[go_sem] def q24_17 : List AI := [
 .j 27 (.bin .eql (.t 3) (.z 9)),
 .j 26 (.mov (.t 27))]
@[go_sem] def q24_18 : List AI := [
 .j 28 (.bin .eql (.t 3) (.z 10)),
 .j 26 (.mov (.t 28))]
@[go_sem] def q24_19 : List AI := [
 .j 29 (.build [(.str []), (.int .i64 0), (.int .i64 0), (.int .i64 0), (.int .i64 0), (.int .i64 0)] [(1, 1, (.z 1)), (2, 1, (.z 1)), (3, 1, (.z 1))]),
 .e (.store 6 (.t 2) (.t 29))]
@[go_sem] def q24_20 : List AI := [
 .j 31 (.bin .eql (.t 3) (.z 11)),
 .j 30 (.mov (.t 31))]
@[go_sem] def q24_21 : List AI := [
 .j 32 (.build [(.str []), (.int .i64 0), (.int .i64 0), (.int .i64 0), (.int .i64 0), (.int .i64 0)] [(1, 1, (.z 1)), (2, 1, (.z 1)), (3, 1, (.z 2)), (5, 1, (.z 1))]),
 .e (.store 6 (.t 2) (.t 32))]
@[go_sem] def q24_22 : List AI := [
 .j 34 (.bin .eql (.t 3) (.z 12)),
 .j 33 (.mov (.t 34))]
@[go_sem] def q24_23 : List AI := [
 .j 35 (.build [(.str []), (.int .i64 0), (.int .i64 0), (.int .i64 0), (.int .i64 0), (.int .i64 0)] [(1, 1, (.z 1)), (2, 1, (.z 1)), (3, 1, (.z 9))]),
 .e (.store 6 (.t 2) (.t 35))]
@[go_sem] def q24_24 : List AI := [
 .j 37 (.bin .eql (.t 3) (.z 13)),
 .j 36 (.mov (.t 37))]
@[go_sem] def q24_25 : List AI := [
 .j 38 (.build [(.str []), (.int .i64 0), (.int .i64 0), (.int .i64 0), (.int .i64 0), (.int .i64 0)] [(1, 1, (.z 1)), (2, 1, (.z 1)), (3, 1, (.z 1)), (4, 1, (.z 10))]),
 .e (.store 6 (.t 2) (.t 38))]
@[go_sem] def q24_26 : List AI := [
 .j 40 (.bin .eql (.t 3) (.z 14)),
 .j 39 (.mov (.t 40))]
@[go_sem] def q24_27 : List AI := [
 .j 41 (.build [(.str []), (.int .i64 0), (.int .i64 0), (.int .i64 0), (.int .i64 0), (.int .i64 0)] [(2, 1, (.z 5))]),
 .e (.store 6 (.t 2) (.t 41))]
@[go_sem] def q24_28 : List AI := [
 .j 43 (.bin .eql (.t 3) (.z 15)),
 .j 42 (.mov (.t 43))]
@[go_sem] def q24_29 : List AI := [
 .j 44 (.build [(.str []), (.int .i64 0), (.int .i64 0), (.int .i64 0), (.int .i64 0), (.int .i64 0)] [(1, 1, (.z 1)), (2, 1, (.z 5)), (3, 1, (.z 8))]),
 .e (.store 6 (.t 2) (.t 44))]
@[go_sem] def q24_30 : List AI := [
 .j 46 (.bin .eql (.t 3) (.z 16)),
 .j 45 (.mov (.t 46))]
@[go_sem] def q24_31 : List AI := [
 .j 47 (.build [(.str []), (.int .i64 0), (.int .i64 0), (.int .i64 0), (.int .i64 0), (.int .i64 0)] [(1, 1, (.z 1)), (2, 1, (.z 7)), (3, 1, (.z 6))]),
 .e (.store 6 (.t 2) (.t 47))]
@[go_sem] def q24_32 : List AI := [
 .j 49 (.bin .eql (.t 3) (.z 17)),
 .j 48 (.mov (.t 49))]
@[go_sem] def q24_33 : List AI := [
 .j 50 (.bin .eql (.t 3) (.z 18)),
 .j 48 (.mov (.t 50))]
@[go_sem] def q24_34 : List AI := [
 .j 51 (.build [(.str []), (.int .i64 0), (.int .i64 0), (.int .i64 0), (.int .i64 0), (.int .i64 0)] [(1, 1, (.z 1)), (2, 1, (.z 7))]),
 .e (.store 6 (.t 2) (.t 51))]
@[go_sem] def q24_35 : List AI := [
 .j 53 (.bin .eql (.t 3) (.z 19)),
 .j 52 (.mov (.t 53))]
@[go_sem] def q24_36 : List AI := [
 .j 54 (.build [(.str []), (.int .i64 0), (.int .i64 0), (.int .i64 0), (.int .i64 0), (.int .i64 0)] [(1, 1, (.z 1)), (2, 1, (.z 6))]),
 .e (.store 6 (.t 2) (.t 54))]
@[go_sem] def q24_37 : List AI := [
 .j 56 (.bin .eql (.t 3) (.z 21)),
 .j 55 (.mov (.t 56))]
@[go_sem] def q24_38 : List AI := [
 .j 57 (.build [(.str []), (.int .i64 0), (.int .i64 0), (.int .i64 0), (.int .i64 0), (.int .i64 0)] [(1, 1, (.z 1)), (2, 1, (.z 7)), (3, 1, (.z 12))]),
 .e (.store 6 (.t 2) (.t 57))]
@[go_sem] def q24_39 : List AI := [
 .j 59 (.bin .eql (.t 3) (.z 22)),
 .j 58 (.mov (.t 59))]
@[go_sem] def q24_40 : List AI := [
 .j 60 (.build [(.str []), (.int .i64 0), (.int .i64 0), (.int .i64 0), (.int .i64 0), (.int .i64 0)] [(1, 1, (.z 1)), (2, 1, (.z 4))]),
 .e (.store 6 (.t 2) (.t 60))]
@[go_sem] def q24_41 : List AI := [
 .j 62 (.bin .eql (.t 3) (.z 23)),
 .j 61 (.mov (.t 62))]
@[go_sem] def q24_42 : List AI := [
 .j 63 (.bin .eql (.t 3) (.z 24)),
 .j 61 (.mov (.t 63))]
@[go_sem] def q24_43 : List AI := [
 .j 64 (.bin .eql (.t 3) (.z 26)),
 .j 61 (.mov (.t 64))]
@[go_sem] def q24_44 : List AI := [
 .j 65 (.build [(.str []), (.int .i64 0), (.int .i64 0), (.int .i64 0), (.int .i64 0), (.int .i64 0)] [(1, 1, (.z 1)), (2, 1, (.z 5)), (5, 1, (.z 3))]),
 .e (.store 6 (.t 2) (.t 65))]
@[go_sem] def q24_45 : List AI := [
 .j 67 (.bin .eql (.t 3) (.z 25)),
 .j 66 (.mov (.t 67))]
@[go_sem] def q24_46 : List AI := [
 .j 68 (.build [(.str []), (.int .i64 0), (.int .i64 0), (.int .i64 0), (.int .i64 0), (.int .i64 0)] [(1, 1, (.z 1)), (3, 1, (.z 11)), (5, 1, (.z 3))]),
 .e (.store 6 (.t 2) (.t 68))]
@[go_sem] def q24_47 : List AI := [
 .j 70 (.bin .eql (.t 3) (.z 20)),
 .j 69 (.mov (.t 70))]
@[go_sem] def q24_48 : List AI := [
 .j 71 (.bin .eql (.t 3) (.z 27)),
 .j 69 (.mov (.t 71))]
@[go_sem] def q24_49 : List AI := [
 .j 72 (.bin .eql (.t 3) (.z 28)),
 .j 69 (.mov (.t 72))]
@[go_sem] def q24_50 : List AI := [
 .j 73 (.build [(.str []), (.int .i64 0), (.int .i64 0), (.int .i64 0), (.int .i64 0), (.int .i64 0)] [(1, 1, (.z 1))]),
 .e (.store 6 (.t 2) (.t 73))]
@[go_sem] def q24_51 : List AI := [
 .j 74 (.build [(.str []), (.int .i64 0), (.int .i64 0), (.int .i64 0), (.int .i64 0), (.int .i64 0)] [(1, 1, (.z 8))]),
 .e (.store 6 (.t 2) (.t 74))]
@[go_sem] def opcode_shape_c : AC := .seq (.ops [q24_0]) (.seq (.seq (.ops [q24_1]) (.block 0 (.seq (.ops [q24_2]) (.cond (.t 4) (.seq (.ops [q24_3]) (.ret)) (.seq (.seq (.ops [q24_4]) (.cond (.t 7) (.skip) (.ops [q24_5]))) (.cond (.t 7) (.seq (.ops [q24_6]) (.ret)) (.seq (.ops [q24_7]) (.cond (.t 11) (.seq (.ops [q24_8]) (.ret)) (.seq (.ops [q24_9]) (.cond (.t 14) (.seq (.ops [q24_10]) (.ret)) (.seq (.ops [q24_11]) (.cond (.t 17) (.seq (.ops [q24_12]) (.ret)) (.seq (.ops [q24_13]) (.cond (.t 20) (.seq (.ops [q24_14]) (.ret)) (.seq (.ops [q24_15]) (.cond (.t 23) (.seq (.ops [q24_16]) (.ret)) (.seq (.seq (.ops [q24_17]) (.cond (.t 26) (.skip) (.ops [q24_18]))) (.cond (.t 26) (.seq (.ops [q24_19]) (.ret)) (.seq (.ops [q24_20]) (.cond (.t 30) (.seq (.ops [q24_21]) (.ret)) (.seq (.ops [q24_22]) (.cond (.t 33) (.seq (.ops [q24_23]) (.ret)) (.seq (.ops [q24_24]) (.cond (.t 36) (.seq (.ops [q24_25]) (.ret)) (.seq (.ops [q24_26]) (.cond (.t 39) (.seq (.ops [q24_27]) (.ret)) (.seq (.ops [q24_28]) (.cond (.t 42) (.seq (.ops [q24_29]) (.ret)) (.seq (.ops [q24_30]) (.cond (.t 45) (.seq (.ops [q24_31]) (.ret)) (.seq (.seq (.ops [q24_32]) (.cond (.t 48) (.skip) (.ops [q24_33]))) (.cond (.t 48) (.seq (.ops [q24_34]) (.ret)) (.seq (.ops [q24_35]) (.cond (.t 52) (.seq (.ops [q24_36]) (.ret)) (.seq (.ops [q24_37]) (.cond (.t 55) (.seq (.ops [q24_38]) (.ret)) (.seq (.ops [q24_39]) (.cond (.t 58) (.seq (.ops [q24_40]) (.ret)) (.seq (.seq (.ops [q24_41]) (.cond (.t 61) (.skip) (.seq (.ops [q24_42]) (.cond (.t 61) (.skip) (.ops [q24_43]))))) (.cond (.t 61) (.seq (.ops [q24_44]) (.ret)) (.seq (.ops [q24_45]) (.cond (.t 66) (.seq (.ops [q24_46]) (.ret)) (.seq (.seq (.ops [q24_47]) (.cond (.t 69) (.skip) (.seq (.ops [q24_48]) (.cond (.t 69) (.skip) (.ops [q24_49]))))) (.cond (.t 69) (.seq (.ops [q24_50]) (.ret)) (.skip))))))))))))))))))))))))))))))))))))))))))))) (.seq (.ops [q24_51]) (.ret)))
theorem opcode_shape_ok : compF Tryz.prog 24 = some (75, opcode_shape_c, [.c 2 6 true]) := by kernel_rfl

@[go_sem] def q25_0 : List AI := [
 .j 2 (.mov (.c .nils))]
@[go_sem] def q25_1 : List AI := [
 .j 3 (.mov (.t 0)),
 .j 4 (.call 39 [(.t 3)])]
@[go_sem] def q25_2 : List AI := [
 .j 5 (.mov (.t 0)),
 .j 6 (.call 40 [(.t 5)]),
 .j 2 (.mov (.t 6))]
@[go_sem] def opcode_sorted_c : AC := .seq (.ops [q25_0]) (.seq (.ops [q25_1]) (.seq (.ops [q25_2]) (.ret)))
theorem opcode_sorted_ok : compF Tryz.prog 25 = some (7, opcode_sorted_c, [.t 2]) := by kernel_rfl

@[go_sem] def q26_0 : List AI := [
 .j 4 (.mov (.c .nils)),
 .j 5 (.mov (.z 0))]
@[go_sem] def q26_1 : List AI := [
 .j 8 (.mov (.t 1)),
 .j 9 (.bin .lss (.t 8) (.z 0))]
@[go_sem] def q26_2 : List AI := [
 .j 10 (.mov (.t 0)),
 .j 4 (.mov (.c .nils)),
 .j 5 (.mov (.t 10))]
@[go_sem] def q26_3 : List AI := [
 .j 6 (.mov (.c .nils))]
@[go_sem] def q26_4 : List AI := [
 .j 11 (.mov (.t 1)),
 .j 12 (.mov (.z 0))]
@[go_sem] def q26_5 : List AI := [
 .j 13 (.bin .lss (.t 12) (.t 11))]
@[go_sem] def q26_6 : List AI := [
 .j 14 (.mov (.t 12)),
 .j 7 (.mov (.t 14))]
@[go_sem] def q26_7 : List AI := [
 .j 15 (.mov (.t 6)),
 .j 16 (.mov (.t 0)),
 .j 17 (.mov (.t 7)),
 .j 18 (.bin .add (.t 16) (.t 17)),
 .j 19 (.mkisl 1 [(.t 18)]),
 .j 20 (.app 260020 1 (.t 15) (.t 19)),
 .j 6 (.mov (.t 20))]
@[go_sem] def q26_8 : List AI := [
 .j 21 (.bin .add (.t 12) (.z 1)),
 .j 12 (.mov (.t 21))]
@[go_sem] def opcode_span_l0' : AC := .seq (.ops [q26_5]) (.seq (.cond (.t 13) (.skip) (.exit 0)) (.seq (.block 1 (.seq (.ops [q26_6]) (.ops [q26_7]))) (.ops [q26_8])))
def opcode_span_l0 : AC := opcode_span_l0'
theorem opcode_span_l0_eq : opcode_span_l0 = opcode_span_l0' := rfl
@[go_sem] def q26_9 : List AI := [
 .j 22 (.mov (.t 6)),
 .j 4 (.mov (.t 22)),
 .j 5 (.mov (.z (-1)))]
@[go_sem] def opcode_span_c : AC := .seq (.ops [q26_0]) (.seq (.seq (.ops [q26_1]) (.cond (.t 9) (.seq (.ops [q26_2]) (.ret)) (.skip))) (.seq (.ops [q26_3]) (.seq (.seq (.ops [q26_4]) (.block 0 (.loop opcode_span_l0))) (.seq (.ops [q26_9]) (.ret)))))
theorem opcode_span_ok : compF Tryz.prog 26 = some (23, opcode_span_c, [.t 4, .t 5]) := by kernel_rfl

@[go_sem] def q28_0 : List AI := [
 .j 2 (.mov (.z 0)),
 .j 3 (.mov (.c (.bool false)))]
@[go_sem] def q28_1 : List AI := [
 .j 5 (.call 23 [(.c (.str [109, 111, 118, 101, 32, 99, 111, 110, 115, 116, 32, 110, 105, 108, 32, 98, 111, 111, 108, 32, 117, 112, 103, 101, 116, 32, 117, 112, 115, 101, 116, 32, 103, 108, 111, 98, 97, 108, 32, 115, 101, 116, 103, 108, 111, 98, 32, 103, 101, 116, 32, 115, 101, 116, 32, 115, 101, 108, 102, 32, 117, 110, 97, 114, 121, 32, 98, 105, 110, 97, 114, 121, 32, 106, 117, 109, 112, 32, 116, 101, 115, 116, 32, 99, 97, 108, 108, 32, 116, 97, 105, 108, 32, 114, 101, 116, 117, 114, 110, 32, 118, 97, 114, 97, 114, 103, 32, 116, 97, 98, 108, 101, 32, 97, 112, 112, 101, 110, 100, 32, 99, 108, 111, 115, 117, 114, 101, 32, 112, 114, 101, 112, 32, 108, 111, 111, 112, 32, 105, 116, 101, 114, 32, 110, 101, 120, 116, 32, 99, 108, 111, 115, 101, 32, 109, 97, 114, 107, 32, 115, 116, 97, 116]))]),
 .j 6 (.mov (.t 0)),
 .j 7 (.call 42 [(.t 5), (.t 6)]),
 .j 4 (.mov (.t 7))]
@[go_sem] def q28_2 : List AI := [
 .j 8 (.mov (.t 4)),
 .j 9 (.bin .add (.t 8) (.z 1)),
 .j 10 (.mov (.t 4)),
 .j 11 (.bin .geq (.t 10) (.z 0)),
 .j 2 (.mov (.t 9)),
 .j 3 (.mov (.t 11))]
@[go_sem] def opcode_Op_c : AC := .seq (.ops [q28_0]) (.seq (.ops [q28_1]) (.seq (.ops [q28_2]) (.ret)))
theorem opcode_Op_ok : compF Tryz.prog 28 = some (12, opcode_Op_c, [.t 2, .t 3]) := by kernel_rfl

@[go_sem] def q31_0 : List AI := [
 .j 4 (.mov (.c (.str [])))]
@[go_sem] def q31_1 : List AI := [
 .j 7 (.mov (.t 0)),
 .j 8 (.bin .eql (.t 7) (.c (.str []))),
 .j 9 (.mov (.t 8)),
 .k 10 9 false (.mov (.t 1)),
 .k 11 9 false (.bin .eql (.t 10) (.c (.str []))),
 .j 12 (.pick (.t 9) (.c (.bool true)) (.t 11))]
@[go_sem] def q31_2 : List AI := [
 .j 13 (.mov (.t 0)),
 .j 4 (.mov (.t 13))]
@[go_sem] def q31_3 : List AI := [
 .j 14 (.mov (.t 1)),
 .j 15 (.len 1 (.t 14)),
 .j 16 (.bin .eql (.t 15) (.z 1)),
 .j 17 (.mov (.t 16)),
 .k 18 17 true (.mov (.t 1)),
 .k 19 17 true (.idx (.t 18) (.z 0)),
 .k 20 17 true (.bin .lss (.t 19) (.c (.int .u8 128))),
 .j 21 (.pick (.t 17) (.t 20) (.c (.bool false)))]
@[go_sem] def q31_4 : List AI := [
 .j 22 (.mov (.t 0)),
 .j 23 (.mov (.t 1)),
 .j 24 (.idx (.t 23) (.z 0)),
 .j 26 (.mov (.t 1)),
 .j 27 (.idx (.t 26) (.z 0)),
 .j 25 (.call 47 [(.t 22), (.t 24)]),
 .j 28 (.call 46 [(.t 25), (.t 27)]),
 .j 4 (.mov (.t 28))]
@[go_sem] def q31_5 : List AI := [
 .j 30 (.mov (.t 1)),
 .j 31 (.call 48 [(.t 30)]),
 .j 29 (.mov (.t 31)),
 .j 32 (.ext 0 (.t 29)),
 .j 33 (.ext 1 (.t 29)),
 .j 5 (.box 310005 256 (.c (.agg (List.replicate 256 (.bool false))))),
 .e (.store 256 (.t 5) (.t 32)),
 .j 6 (.mov (.t 33))]
@[go_sem] def q31_6 : List AI := [
 .j 34 (.mov (.t 6))]
@[go_sem] def q31_7 : List AI := [
 .j 35 (.mov (.t 0)),
 .j 36 (.call 50 [(.t 35), (.t 5)]),
 .j 37 (.call 49 [(.t 36), (.t 5)]),
 .j 4 (.mov (.t 37))]
@[go_sem] def q31_8 : List AI := [
 .j 38 (.mov (.t 0)),
 .j 39 (.mov (.t 1)),
 .j 40 (.call 52 [(.t 38), (.t 39)]),
 .j 41 (.mov (.t 1)),
 .j 42 (.call 51 [(.t 40), (.t 41)]),
 .j 4 (.mov (.t 42))]
@[go_sem] def strings_Trim_c : AC := .seq (.ops [q31_0]) (.seq (.seq (.ops [q31_1]) (.cond (.t 12) (.seq (.ops [q31_2]) (.ret)) (.skip))) (.seq (.seq (.ops [q31_3]) (.cond (.t 21) (.seq (.ops [q31_4]) (.ret)) (.skip))) (.seq (.seq (.ops [q31_5]) (.seq (.ops [q31_6]) (.cond (.t 34) (.seq (.ops [q31_7]) (.ret)) (.skip)))) (.seq (.ops [q31_8]) (.ret)))))
theorem strings_Trim_ok : compF Tryz.prog 31 = some (43, strings_Trim_c, [.t 4]) := by kernel_rfl

@[go_sem] def q32_0 : List AI := [
 .j 4 (.mov (.c (.str []))),
 .j 5 (.mov (.c (.bool false)))]
@[go_sem] def q32_1 : List AI := [
 .j 6 (.mov (.t 0)),
 .j 7 (.mov (.t 1)),
 .j 8 (.call 53 [(.t 6), (.t 7)]),
 .j 9 (.un .not (.t 8))]
@[go_sem] def q32_2 : List AI := [
 .j 10 (.mov (.t 0)),
 .j 4 (.mov (.t 10)),
 .j 5 (.mov (.c (.bool false)))]
@[go_sem] def q32_3 : List AI := [
 .j 11 (.mov (.t 0)),
 .j 12 (.mov (.t 1)),
 .j 13 (.len 1 (.t 12)),
 .j 14 (.sls (.t 11) (some (.t 13)) none),
 .j 4 (.mov (.t 14)),
 .j 5 (.mov (.c (.bool true)))]
@[go_sem] def internal_stringslite_CutPrefix_c : AC := .seq (.ops [q32_0]) (.seq (.seq (.ops [q32_1]) (.cond (.t 9) (.seq (.ops [q32_2]) (.ret)) (.skip))) (.seq (.ops [q32_3]) (.ret)))
theorem internal_stringslite_CutPrefix_ok : compF Tryz.prog 32 = some (15, internal_stringslite_CutPrefix_c, [.t 4, .t 5]) := by kernel_rfl

@[go_sem] def q33_0 : List AI := [
 .j 6 (.mov (.z 0))]
@[go_sem] def q33_1 : List AI := [
 .j 7 (.mov (.t 1)),
 .j 8 (.mov (.t 0)),
 .j 9 (.len 1 (.t 8)),
 .j 10 (.bin .lss (.t 7) (.t 9)),
 .j 11 (.mov (.t 10)),
 .k 12 11 true (.mov (.t 0)),
 .k 13 11 true (.mov (.t 1)),
 .k 14 11 true (.idx (.t 12) (.t 13)),
 .k 15 11 true (.call 54 [(.t 14)]),
 .k 16 11 true (.bin .geq (.t 15) (.z 0)),
 .j 17 (.pick (.t 11) (.t 16) (.c (.bool false))),
 .j 18 (.mov (.t 17)),
 .k 19 18 true (.mov (.t 0)),
 .k 20 18 true (.mov (.t 1)),
 .k 21 18 true (.idx (.t 19) (.t 20)),
 .k 22 18 true (.call 54 [(.t 21)]),
 .k 23 18 true (.mov (.t 2)),
 .k 24 18 true (.bin .lss (.t 22) (.t 23)),
 .j 25 (.pick (.t 18) (.t 24) (.c (.bool false)))]
@[go_sem] def q33_2 : List AI := [
 .j 26 (.mov (.t 1)),
 .j 27 (.bin .add (.t 26) (.z 1)),
 .j 1 (.mov (.t 27))]
@[go_sem] def numeral_run_l0' : AC := .seq (.seq (.ops [q33_1]) (.cond (.t 25) (.skip) (.exit 0))) (.block 1 (.ops [q33_2]))
def numeral_run_l0 : AC := numeral_run_l0'
theorem numeral_run_l0_eq : numeral_run_l0 = numeral_run_l0' := rfl
@[go_sem] def q33_3 : List AI := [
 .j 28 (.mov (.t 1)),
 .j 6 (.mov (.t 28))]
@[go_sem] def numeral_run_c : AC := .seq (.ops [q33_0]) (.seq (.block 0 (.loop numeral_run_l0)) (.seq (.ops [q33_3]) (.ret)))
theorem numeral_run_ok : compF Tryz.prog 33 = some (29, numeral_run_c, [.t 6]) := by kernel_rfl

@[go_sem] def q34_0 : List AI := [
 .j 4 (.mov (.z 0)),
 .j 5 (.mov (.c (.bool false)))]
@[go_sem] def q34_1 : List AI := [
 .j 6 (.mov (.z 0))]
@[go_sem] def q34_2 : List AI := [
 .j 9 (.mov (.t 0)),
 .j 10 (.len 1 (.t 9)),
 .j 11 (.mov (.z 0))]
@[go_sem] def q34_3 : List AI := [
 .j 12 (.bin .lss (.t 11) (.t 10))]
@[go_sem] def q34_4 : List AI := [
 .j 13 (.mov (.t 11)),
 .j 7 (.mov (.t 13))]
@[go_sem] def q34_5 : List AI := [
 .j 14 (.mov (.t 0)),
 .j 15 (.mov (.t 7)),
 .j 16 (.idx (.t 14) (.t 15)),
 .j 17 (.call 54 [(.t 16)]),
 .j 8 (.mov (.t 17))]
@[go_sem] def q34_6 : List AI := [
 .j 18 (.mov (.t 6)),
 .j 19 (.mov (.t 8)),
 .j 20 (.bin .sub (.z 4611686018427387904) (.t 19)),
 .j 21 (.mov (.t 1)),
 .j 22 (.bin .quo (.t 20) (.t 21)),
 .j 23 (.bin .gtr (.t 18) (.t 22))]
@[go_sem] def q34_7 : List AI := [
 .j 4 (.mov (.z 0)),
 .j 5 (.mov (.c (.bool false)))]
@[go_sem] def q34_8 : List AI := [
 .j 24 (.mov (.t 6)),
 .j 25 (.mov (.t 1)),
 .j 26 (.bin .mul (.t 24) (.t 25)),
 .j 27 (.mov (.t 8)),
 .j 28 (.bin .add (.t 26) (.t 27)),
 .j 6 (.mov (.t 28))]
@[go_sem] def q34_9 : List AI := [
 .j 29 (.bin .add (.t 11) (.z 1)),
 .j 11 (.mov (.t 29))]
@[go_sem] def numeral_integer_l0' : AC := .seq (.ops [q34_3]) (.seq (.cond (.t 12) (.skip) (.exit 0)) (.seq (.block 1 (.seq (.ops [q34_4]) (.seq (.ops [q34_5]) (.seq (.seq (.ops [q34_6]) (.cond (.t 23) (.seq (.ops [q34_7]) (.ret)) (.skip))) (.ops [q34_8]))))) (.ops [q34_9])))
def numeral_integer_l0 : AC := numeral_integer_l0'
theorem numeral_integer_l0_eq : numeral_integer_l0 = numeral_integer_l0' := rfl
@[go_sem] def q34_10 : List AI := [
 .j 30 (.mov (.t 6)),
 .j 4 (.mov (.t 30)),
 .j 5 (.mov (.c (.bool true)))]
@[go_sem] def numeral_integer_c : AC := .seq (.ops [q34_0]) (.seq (.ops [q34_1]) (.seq (.seq (.ops [q34_2]) (.block 0 (.loop numeral_integer_l0))) (.seq (.ops [q34_10]) (.ret))))
theorem numeral_integer_ok : compF Tryz.prog 34 = some (31, numeral_integer_c, [.t 4, .t 5]) := by kernel_rfl

@[go_sem] def q35_0 : List AI := [
 .j 4 (.box 350004 2 (.c (.agg [(.int .i64 0), (.int .i64 0)]))),
 .j 5 (.mov (.z 0))]
@[go_sem] def q35_1 : List AI := [
 .j 6 (.mov (.t 1)),
 .j 7 (.bin .eql (.t 6) (.z 0))]
@[go_sem] def q35_2 : List AI := [
 .j 8 (.build [(.int .i64 0), (.int .i64 0)] []),
 .e (.store 2 (.t 4) (.t 8)),
 .j 5 (.mov (.z 7))]
@[go_sem] def q35_3 : List AI := [
 .j 9 (.mov (.t 0)),
 .j 10 (.bin .lss (.t 9) (.z (-4611686018427387904))),
 .j 11 (.mov (.t 10)),
 .k 12 11 false (.mov (.t 0)),
 .k 13 11 false (.bin .gtr (.t 12) (.z 4611686018427387904)),
 .j 14 (.pick (.t 11) (.c (.bool true)) (.t 13)),
 .j 15 (.mov (.t 14)),
 .k 16 15 false (.mov (.t 1)),
 .k 17 15 false (.bin .lss (.t 16) (.z (-4611686018427387904))),
 .j 18 (.pick (.t 15) (.c (.bool true)) (.t 17)),
 .j 19 (.mov (.t 18)),
 .k 20 19 false (.mov (.t 1)),
 .k 21 19 false (.bin .gtr (.t 20) (.z 4611686018427387904)),
 .j 22 (.pick (.t 19) (.c (.bool true)) (.t 21))]
@[go_sem] def q35_4 : List AI := [
 .j 23 (.build [(.int .i64 0), (.int .i64 0)] []),
 .e (.store 2 (.t 4) (.t 23)),
 .j 5 (.mov (.z 6))]
@[go_sem] def q35_5 : List AI := [
 .j 24 (.mov (.t 0)),
 .j 25 (.mov (.t 1)),
 .j 26 (.call 55 [(.t 24), (.t 25)]),
 .j 27 (.ext 0 (.t 26)),
 .j 28 (.ext 1 (.t 26)),
 .e (.store 2 (.t 4) (.t 27)),
 .j 5 (.mov (.t 28))]
@[go_sem] def rational_Make_c : AC := .seq (.ops [q35_0]) (.seq (.seq (.ops [q35_1]) (.cond (.t 7) (.seq (.ops [q35_2]) (.ret)) (.skip))) (.seq (.seq (.ops [q35_3]) (.cond (.t 22) (.seq (.ops [q35_4]) (.ret)) (.skip))) (.seq (.ops [q35_5]) (.ret))))
theorem rational_Make_ok : compF Tryz.prog 35 = some (29, rational_Make_c, [.c 4 2 true, .t 5]) := by kernel_rfl

@[go_sem] def q36_0 : List AI := [
 .j 4 (.mov (.c (.str []))),
 .j 5 (.mov (.c (.str []))),
 .j 6 (.mov (.c (.bool false)))]
@[go_sem] def q36_1 : List AI := [
 .j 7 (.mov (.t 0)),
 .j 8 (.mov (.t 1)),
 .j 9 (.call 56 [(.t 7), (.t 8)]),
 .j 10 (.ext 0 (.t 9)),
 .j 11 (.ext 1 (.t 9)),
 .j 12 (.ext 2 (.t 9)),
 .j 4 (.mov (.t 10)),
 .j 5 (.mov (.t 11)),
 .j 6 (.mov (.t 12))]
@[go_sem] def strings_Cut_c : AC := .seq (.ops [q36_0]) (.seq (.ops [q36_1]) (.ret))
theorem strings_Cut_ok : compF Tryz.prog 36 = some (13, strings_Cut_c, [.t 4, .t 5, .t 6]) := by kernel_rfl

@[go_sem] def q39_0 : List AI := [
 .j 3 (.mov (.t 0)),
 .j 4 (.len 0 (.t 3)),
 .j 2 (.mov (.t 4))]
@[go_sem] def q39_1 : List AI := [
 .j 5 (.mov (.t 0)),
 .j 6 (.mov (.t 2)),
 .j 7 (.mov (.t 2)),
 .j 8 (.conv .u64 (.t 7)),
 .j 9 (.call 59 [(.t 8)]),
 .j 10 (.call 58 [(.t 5), (.z 0), (.t 6), (.t 9)])]
@[go_sem] def slices_Sort_int_int_c : AC := .seq (.ops [q39_0]) (.ops [q39_1])
theorem slices_Sort_int_int_ok : compF Tryz.prog 39 = some (11, slices_Sort_int_int_c, []) := by kernel_rfl

@[go_sem] def q40_0 : List AI := [
 .j 2 (.mov (.c .nils))]
@[go_sem] def q40_1 : List AI := [
 .j 6 (.mov (.t 0)),
 .j 7 (.len 0 (.t 6)),
 .j 8 (.bin .lss (.t 7) (.z 2))]
@[go_sem] def q40_2 : List AI := [
 .j 9 (.mov (.t 0)),
 .j 2 (.mov (.t 9))]
@[go_sem] def q40_3 : List AI := [
 .j 3 (.mov (.z 1))]
@[go_sem] def q40_4 : List AI := [
 .j 10 (.mov (.t 3)),
 .j 11 (.mov (.t 0)),
 .j 12 (.len 0 (.t 11)),
 .j 13 (.bin .lss (.t 10) (.t 12))]
@[go_sem] def q40_5 : List AI := [
 .j 16 (.mov (.t 0)),
 .j 17 (.mov (.t 3)),
 .j 18 (.iaddr 1 (.t 16) (.t 17)),
 .j 19 (.load 1 false (.t 18)),
 .j 20 (.mov (.t 0)),
 .j 21 (.mov (.t 3)),
 .j 22 (.bin .sub (.t 21) (.z 1)),
 .j 23 (.iaddr 1 (.t 20) (.t 22)),
 .j 24 (.load 1 false (.t 23)),
 .j 25 (.bin .eql (.t 19) (.t 24))]
@[go_sem] def q40_6 : List AI := [
 .j 26 (.mov (.t 0)),
 .j 27 (.mov (.t 3)),
 .j 28 (.slc 1 (.t 26) (some (.t 27)) none),
 .j 4 (.mov (.t 28))]
@[go_sem] def q40_7 : List AI := [
 .j 5 (.mov (.z 1))]
@[go_sem] def q40_8 : List AI := [
 .j 29 (.mov (.t 5)),
 .j 30 (.mov (.t 4)),
 .j 31 (.len 0 (.t 30)),
 .j 32 (.bin .lss (.t 29) (.t 31))]
@[go_sem] def q40_9 : List AI := [
 .j 35 (.mov (.t 4)),
 .j 36 (.mov (.t 5)),
 .j 37 (.iaddr 1 (.t 35) (.t 36)),
 .j 38 (.load 1 false (.t 37)),
 .j 39 (.mov (.t 4)),
 .j 40 (.mov (.t 5)),
 .j 41 (.bin .sub (.t 40) (.z 1)),
 .j 42 (.iaddr 1 (.t 39) (.t 41)),
 .j 43 (.load 1 false (.t 42)),
 .j 44 (.bin .neq (.t 38) (.t 43))]
@[go_sem] def q40_10 : List AI := [
 .j 45 (.mov (.t 0)),
 .j 46 (.mov (.t 3)),
 .j 47 (.mov (.t 4)),
 .j 48 (.mov (.t 5)),
 .j 49 (.iaddr 1 (.t 47) (.t 48)),
 .j 50 (.load 1 false (.t 49)),
 .j 51 (.iaddr 1 (.t 45) (.t 46)),
 .e (.store 1 (.t 51) (.t 50))]
@[go_sem] def q40_11 : List AI := [
 .j 52 (.mov (.t 3)),
 .j 53 (.bin .add (.t 52) (.z 1)),
 .j 3 (.mov (.t 53))]
@[go_sem] def q40_12 : List AI := [
 .j 33 (.mov (.t 5)),
 .j 34 (.bin .add (.t 33) (.z 1)),
 .j 5 (.mov (.t 34))]
@[go_sem] def slices_Compact_int_int_l1' : AC := .seq (.seq (.ops [q40_8]) (.cond (.t 32) (.skip) (.exit 2))) (.seq (.block 3 (.seq (.ops [q40_9]) (.cond (.t 44) (.seq (.ops [q40_10]) (.ops [q40_11])) (.skip)))) (.ops [q40_12]))
def slices_Compact_int_int_l1 : AC := slices_Compact_int_int_l1'
theorem slices_Compact_int_int_l1_eq : slices_Compact_int_int_l1 = slices_Compact_int_int_l1' := rfl
@[go_sem] def q40_13 : List AI := [
 .j 54 (.mov (.t 0)),
 .j 55 (.mov (.t 3)),
 .j 56 (.slc 1 (.t 54) (some (.t 55)) none),
 .e (.clr [(.int .i64 0)] (.t 56))]
@[go_sem] def q40_14 : List AI := [
 .j 57 (.mov (.t 0)),
 .j 58 (.mov (.t 3)),
 .j 59 (.slc 1 (.t 57) none (some (.t 58))),
 .j 2 (.mov (.t 59))]
@[go_sem] def q40_15 : List AI := [
 .j 14 (.mov (.t 3)),
 .j 15 (.bin .add (.t 14) (.z 1)),
 .j 3 (.mov (.t 15))]
@[go_sem] def slices_Compact_int_int_l0' : AC := .seq (.seq (.ops [q40_4]) (.cond (.t 13) (.skip) (.exit 0))) (.seq (.block 1 (.seq (.ops [q40_5]) (.cond (.t 25) (.seq (.ops [q40_6]) (.seq (.seq (.ops [q40_7]) (.block 2 (.loop slices_Compact_int_int_l1))) (.seq (.ops [q40_13]) (.seq (.ops [q40_14]) (.ret))))) (.skip)))) (.ops [q40_15]))
def slices_Compact_int_int_l0 : AC := slices_Compact_int_int_l0'
theorem slices_Compact_int_int_l0_eq : slices_Compact_int_int_l0 = slices_Compact_int_int_l0' := rfl
@[go_sem] def q40_16 : List AI := [
 .j 60 (.mov (.t 0)),
 .j 2 (.mov (.t 60))]
@[go_sem] def slices_Compact_int_int_c : AC := .seq (.ops [q40_0]) (.seq (.seq (.ops [q40_1]) (.cond (.t 8) (.seq (.ops [q40_2]) (.ret)) (.skip))) (.seq (.seq (.ops [q40_3]) (.block 0 (.loop slices_Compact_int_int_l0))) (.seq (.ops [q40_16]) (.ret))))
theorem slices_Compact_int_int_ok : compF Tryz.prog 40 = some (61, slices_Compact_int_int_c, [.t 2]) := by kernel_rfl

@[go_sem] def q42_0 : List AI := [
 .j 4 (.mov (.z 0))]
@[go_sem] def q42_1 : List AI := [
 .j 6 (.mov (.t 0)),
 .j 7 (.len 0 (.t 6)),
 .j 8 (.mov (.z 0))]
@[go_sem] def q42_2 : List AI := [
 .j 9 (.bin .lss (.t 8) (.t 7))]
@[go_sem] def q42_3 : List AI := [
 .j 10 (.mov (.t 8)),
 .j 5 (.mov (.t 10))]
@[go_sem] def q42_4 : List AI := [
 .j 11 (.mov (.t 1)),
 .j 12 (.mov (.t 0)),
 .j 13 (.mov (.t 5)),
 .j 14 (.iaddr 1 (.t 12) (.t 13)),
 .j 15 (.load 1 false (.t 14)),
 .j 16 (.bin .eql (.t 11) (.t 15))]
@[go_sem] def q42_5 : List AI := [
 .j 17 (.mov (.t 5)),
 .j 4 (.mov (.t 17))]
@[go_sem] def q42_6 : List AI := [
 .j 18 (.bin .add (.t 8) (.z 1)),
 .j 8 (.mov (.t 18))]
@[go_sem] def slices_Index_string_string_l0' : AC := .seq (.ops [q42_2]) (.seq (.cond (.t 9) (.skip) (.exit 0)) (.seq (.block 1 (.seq (.ops [q42_3]) (.seq (.ops [q42_4]) (.cond (.t 16) (.seq (.ops [q42_5]) (.ret)) (.skip))))) (.ops [q42_6])))
def slices_Index_string_string_l0 : AC := slices_Index_string_string_l0'
theorem slices_Index_string_string_l0_eq : slices_Index_string_string_l0 = slices_Index_string_string_l0' := rfl
@[go_sem] def q42_7 : List AI := [
 .j 4 (.mov (.z (-1)))]
@[go_sem] def slices_Index_string_string_c : AC := .seq (.ops [q42_0]) (.seq (.seq (.ops [q42_1]) (.block 0 (.loop slices_Index_string_string_l0))) (.seq (.ops [q42_7]) (.ret)))
theorem slices_Index_string_string_ok : compF Tryz.prog 42 = some (19, slices_Index_string_string_c, [.t 4]) := by kernel_rfl

@[go_sem] def q48_0 : List AI := [
 .j 2 (.box 480002 256 (.c (.agg (List.replicate 256 (.bool false))))),
 .j 3 (.mov (.c (.bool false)))]
@[go_sem] def q48_1 : List AI := [
 .j 4 (.mov (.z 0))]
@[go_sem] def q48_2 : List AI := [
 .j 6 (.mov (.t 4)),
 .j 7 (.mov (.t 0)),
 .j 8 (.len 1 (.t 7)),
 .j 9 (.bin .lss (.t 6) (.t 8))]
@[go_sem] def q48_3 : List AI := [
 .j 12 (.mov (.t 0)),
 .j 13 (.mov (.t 4)),
 .j 14 (.idx (.t 12) (.t 13)),
 .j 5 (.mov (.t 14))]
@[go_sem] def q48_4 : List AI := [
 .j 15 (.mov (.t 5)),
 .j 16 (.bin .geq (.t 15) (.c (.int .u8 128)))]
@[go_sem] def q48_5 : List AI := [
 .j 17 (.load 256 true (.t 2)),
 .e (.store 256 (.t 2) (.t 17)),
 .j 3 (.mov (.c (.bool false)))]
@[go_sem] def q48_6 : List AI := [
 .j 18 (.mov (.t 5)),
 .j 19 (.iaddrA 256 1 (.t 2) (.t 18)),
 .e (.store 1 (.t 19) (.c (.bool true)))]
@[go_sem] def q48_7 : List AI := [
 .j 10 (.mov (.t 4)),
 .j 11 (.bin .add (.t 10) (.z 1)),
 .j 4 (.mov (.t 11))]
@[go_sem] def strings_makeASCIISet_l0' : AC := .seq (.seq (.ops [q48_2]) (.cond (.t 9) (.skip) (.exit 0))) (.seq (.block 1 (.seq (.ops [q48_3]) (.seq (.seq (.ops [q48_4]) (.cond (.t 16) (.seq (.ops [q48_5]) (.ret)) (.skip))) (.ops [q48_6])))) (.ops [q48_7]))
def strings_makeASCIISet_l0 : AC := strings_makeASCIISet_l0'
theorem strings_makeASCIISet_l0_eq : strings_makeASCIISet_l0 = strings_makeASCIISet_l0' := rfl
@[go_sem] def q48_8 : List AI := [
 .j 20 (.load 256 true (.t 2)),
 .e (.store 256 (.t 2) (.t 20)),
 .j 3 (.mov (.c (.bool true)))]
@[go_sem] def strings_makeASCIISet_c : AC := .seq (.ops [q48_0]) (.seq (.seq (.ops [q48_1]) (.block 0 (.loop strings_makeASCIISet_l0))) (.seq (.ops [q48_8]) (.ret)))
theorem strings_makeASCIISet_ok : compF Tryz.prog 48 = some (21, strings_makeASCIISet_c, [.c 2 256 true, .t 3]) := by kernel_rfl

@[go_sem] def q49_0 : List AI := [
 .j 4 (.mov (.c (.str [])))]
@[go_sem] def q49_1 : List AI := [
 .j 5 (.mov (.t 0)),
 .j 6 (.len 1 (.t 5)),
 .j 7 (.bin .gtr (.t 6) (.z 0))]
@[go_sem] def q49_2 : List AI := [
 .j 8 (.mov (.t 1)),
 .j 9 (.mov (.t 0)),
 .j 10 (.idx (.t 9) (.z 0)),
 .j 11 (.call 72 [(.t 8), (.t 10)]),
 .j 12 (.un .not (.t 11))]
@[go_sem] def q49_3 : List AI := [
 .j 13 (.mov (.t 0)),
 .j 14 (.sls (.t 13) (some (.z 1)) none),
 .j 0 (.mov (.t 14))]
@[go_sem] def strings_trimLeftASCII_l0' : AC := .seq (.seq (.ops [q49_1]) (.cond (.t 7) (.skip) (.exit 0))) (.block 1 (.seq (.seq (.ops [q49_2]) (.cond (.t 12) (.exit 0) (.skip))) (.ops [q49_3])))
def strings_trimLeftASCII_l0 : AC := strings_trimLeftASCII_l0'
theorem strings_trimLeftASCII_l0_eq : strings_trimLeftASCII_l0 = strings_trimLeftASCII_l0' := rfl
@[go_sem] def q49_4 : List AI := [
 .j 15 (.mov (.t 0)),
 .j 4 (.mov (.t 15))]
@[go_sem] def strings_trimLeftASCII_c : AC := .seq (.ops [q49_0]) (.seq (.block 0 (.loop strings_trimLeftASCII_l0)) (.seq (.ops [q49_4]) (.ret)))
theorem strings_trimLeftASCII_ok : compF Tryz.prog 49 = some (16, strings_trimLeftASCII_c, [.t 4]) := by kernel_rfl

@[go_sem] def q50_0 : List AI := [
 .j 4 (.mov (.c (.str [])))]
@[go_sem] def q50_1 : List AI := [
 .j 5 (.mov (.t 0)),
 .j 6 (.len 1 (.t 5)),
 .j 7 (.bin .gtr (.t 6) (.z 0))]
@[go_sem] def q50_2 : List AI := [
 .j 8 (.mov (.t 1)),
 .j 9 (.mov (.t 0)),
 .j 10 (.mov (.t 0)),
 .j 11 (.len 1 (.t 10)),
 .j 12 (.bin .sub (.t 11) (.z 1)),
 .j 13 (.idx (.t 9) (.t 12)),
 .j 14 (.call 72 [(.t 8), (.t 13)]),
 .j 15 (.un .not (.t 14))]
@[go_sem] def q50_3 : List AI := [
 .j 16 (.mov (.t 0)),
 .j 17 (.mov (.t 0)),
 .j 18 (.len 1 (.t 17)),
 .j 19 (.bin .sub (.t 18) (.z 1)),
 .j 20 (.sls (.t 16) none (some (.t 19))),
 .j 0 (.mov (.t 20))]
@[go_sem] def strings_trimRightASCII_l0' : AC := .seq (.seq (.ops [q50_1]) (.cond (.t 7) (.skip) (.exit 0))) (.block 1 (.seq (.seq (.ops [q50_2]) (.cond (.t 15) (.exit 0) (.skip))) (.ops [q50_3])))
def strings_trimRightASCII_l0 : AC := strings_trimRightASCII_l0'
theorem strings_trimRightASCII_l0_eq : strings_trimRightASCII_l0 = strings_trimRightASCII_l0' := rfl
@[go_sem] def q50_4 : List AI := [
 .j 21 (.mov (.t 0)),
 .j 4 (.mov (.t 21))]
@[go_sem] def strings_trimRightASCII_c : AC := .seq (.ops [q50_0]) (.seq (.block 0 (.loop strings_trimRightASCII_l0)) (.seq (.ops [q50_4]) (.ret)))
theorem strings_trimRightASCII_ok : compF Tryz.prog 50 = some (22, strings_trimRightASCII_c, [.t 4]) := by kernel_rfl

@[go_sem] def q53_0 : List AI := [
 .j 4 (.mov (.c (.bool false)))]
@[go_sem] def q53_1 : List AI := [
 .j 5 (.mov (.t 0)),
 .j 6 (.len 1 (.t 5)),
 .j 7 (.mov (.t 1)),
 .j 8 (.len 1 (.t 7)),
 .j 9 (.bin .geq (.t 6) (.t 8)),
 .j 10 (.mov (.t 9)),
 .k 11 10 true (.mov (.t 0)),
 .k 12 10 true (.mov (.t 1)),
 .k 13 10 true (.len 1 (.t 12)),
 .k 14 10 true (.sls (.t 11) none (some (.t 13))),
 .k 15 10 true (.mov (.t 1)),
 .k 16 10 true (.bin .eql (.t 14) (.t 15)),
 .j 17 (.pick (.t 10) (.t 16) (.c (.bool false))),
 .j 4 (.mov (.t 17))]
@[go_sem] def internal_stringslite_HasPrefix_c : AC := .seq (.ops [q53_0]) (.seq (.ops [q53_1]) (.ret))
theorem internal_stringslite_HasPrefix_ok : compF Tryz.prog 53 = some (18, internal_stringslite_HasPrefix_c, [.t 4]) := by kernel_rfl

@[go_sem] def q54_0 : List AI := [
 .j 2 (.mov (.z 0))]
@[go_sem] def q54_1 : List AI := [
 .j 4 (.mov (.t 0)),
 .j 5 (.bin .geq (.t 4) (.c (.int .u8 48))),
 .j 6 (.mov (.t 5)),
 .k 7 6 true (.mov (.t 0)),
 .k 8 6 true (.bin .leq (.t 7) (.c (.int .u8 57))),
 .j 9 (.pick (.t 6) (.t 8) (.c (.bool false))),
 .j 3 (.mov (.t 9))]
@[go_sem] def q54_2 : List AI := [
 .j 10 (.mov (.t 0)),
 .j 11 (.bin .sub (.t 10) (.c (.int .u8 48))),
 .j 12 (.conv .i64 (.t 11)),
 .j 2 (.mov (.t 12))]
@[go_sem] def q54_3 : List AI := [
 .j 14 (.mov (.t 0)),
 .j 15 (.bin .geq (.t 14) (.c (.int .u8 97))),
 .j 16 (.mov (.t 15)),
 .k 17 16 true (.mov (.t 0)),
 .k 18 16 true (.bin .leq (.t 17) (.c (.int .u8 122))),
 .j 19 (.pick (.t 16) (.t 18) (.c (.bool false))),
 .j 13 (.mov (.t 19))]
@[go_sem] def q54_4 : List AI := [
 .j 20 (.mov (.t 0)),
 .j 21 (.bin .sub (.t 20) (.c (.int .u8 97))),
 .j 22 (.conv .i64 (.t 21)),
 .j 23 (.bin .add (.t 22) (.z 10)),
 .j 2 (.mov (.t 23))]
@[go_sem] def q54_5 : List AI := [
 .j 25 (.mov (.t 0)),
 .j 26 (.bin .geq (.t 25) (.c (.int .u8 65))),
 .j 27 (.mov (.t 26)),
 .k 28 27 true (.mov (.t 0)),
 .k 29 27 true (.bin .leq (.t 28) (.c (.int .u8 90))),
 .j 30 (.pick (.t 27) (.t 29) (.c (.bool false))),
 .j 24 (.mov (.t 30))]
@[go_sem] def q54_6 : List AI := [
 .j 31 (.mov (.t 0)),
 .j 32 (.bin .sub (.t 31) (.c (.int .u8 65))),
 .j 33 (.conv .i64 (.t 32)),
 .j 34 (.bin .add (.t 33) (.z 10)),
 .j 2 (.mov (.t 34))]
@[go_sem] def q54_7 : List AI := [
 .j 2 (.mov (.z (-1)))]
@[go_sem] def numeral_digit_c : AC := .seq (.ops [q54_0]) (.seq (.block 0 (.seq (.ops [q54_1]) (.cond (.t 3) (.seq (.ops [q54_2]) (.ret)) (.seq (.ops [q54_3]) (.cond (.t 13) (.seq (.ops [q54_4]) (.ret)) (.seq (.ops [q54_5]) (.cond (.t 24) (.seq (.ops [q54_6]) (.ret)) (.skip)))))))) (.seq (.ops [q54_7]) (.ret)))
theorem numeral_digit_ok : compF Tryz.prog 54 = some (35, numeral_digit_c, [.t 2]) := by kernel_rfl

@[go_sem] def q55_0 : List AI := [
 .j 4 (.box 550004 2 (.c (.agg [(.int .i64 0), (.int .i64 0)]))),
 .j 5 (.mov (.z 0))]
@[go_sem] def q55_1 : List AI := [
 .j 7 (.mov (.t 1)),
 .j 8 (.bin .lss (.t 7) (.z 0))]
@[go_sem] def q55_2 : List AI := [
 .j 9 (.mov (.t 0)),
 .j 10 (.un .neg (.t 9)),
 .j 11 (.mov (.t 1)),
 .j 12 (.un .neg (.t 11)),
 .j 0 (.mov (.t 10)),
 .j 1 (.mov (.t 12))]
@[go_sem] def q55_3 : List AI := [
 .j 13 (.mov (.t 0)),
 .j 14 (.mov (.t 0)),
 .j 15 (.un .neg (.t 14)),
 .j 16 (.mm true [(.t 13), (.t 15)]),
 .j 17 (.mov (.t 1)),
 .j 18 (.call 76 [(.t 16), (.t 17)]),
 .j 6 (.mov (.t 18))]
@[go_sem] def q55_4 : List AI := [
 .j 19 (.mov (.t 0)),
 .j 20 (.mov (.t 6)),
 .j 21 (.bin .quo (.t 19) (.t 20)),
 .j 22 (.mov (.t 1)),
 .j 23 (.mov (.t 6)),
 .j 24 (.bin .quo (.t 22) (.t 23)),
 .j 0 (.mov (.t 21)),
 .j 1 (.mov (.t 24))]
@[go_sem] def q55_5 : List AI := [
 .j 25 (.mov (.t 0)),
 .j 26 (.bin .lss (.t 25) (.z (-2147483647))),
 .j 27 (.mov (.t 26)),
 .k 28 27 false (.mov (.t 0)),
 .k 29 27 false (.bin .gtr (.t 28) (.z 2147483647)),
 .j 30 (.pick (.t 27) (.c (.bool true)) (.t 29)),
 .j 31 (.mov (.t 30)),
 .k 32 31 false (.mov (.t 1)),
 .k 33 31 false (.bin .gtr (.t 32) (.z 2147483647)),
 .j 34 (.pick (.t 31) (.c (.bool true)) (.t 33))]
@[go_sem] def q55_6 : List AI := [
 .j 35 (.build [(.int .i64 0), (.int .i64 0)] []),
 .e (.store 2 (.t 4) (.t 35)),
 .j 5 (.mov (.z 6))]
@[go_sem] def q55_7 : List AI := [
 .j 36 (.mov (.t 0)),
 .j 37 (.mov (.t 1)),
 .j 38 (.build [(.int .i64 0), (.int .i64 0)] [(0, 1, (.t 36)), (1, 1, (.t 37))]),
 .e (.store 2 (.t 4) (.t 38)),
 .j 5 (.mov (.z 0))]
@[go_sem] def rational_reduce_c : AC := .seq (.ops [q55_0]) (.seq (.seq (.ops [q55_1]) (.cond (.t 8) (.ops [q55_2]) (.skip))) (.seq (.ops [q55_3]) (.seq (.ops [q55_4]) (.seq (.seq (.ops [q55_5]) (.cond (.t 34) (.seq (.ops [q55_6]) (.ret)) (.skip))) (.seq (.ops [q55_7]) (.ret))))))
theorem rational_reduce_ok : compF Tryz.prog 55 = some (39, rational_reduce_c, [.c 4 2 true, .t 5]) := by kernel_rfl

@[go_sem] def q56_0 : List AI := [
 .j 4 (.mov (.c (.str []))),
 .j 5 (.mov (.c (.str []))),
 .j 6 (.mov (.c (.bool false)))]
@[go_sem] def q56_1 : List AI := [
 .j 8 (.mov (.t 0)),
 .j 9 (.mov (.t 1)),
 .j 10 (.call 77 [(.t 8), (.t 9)]),
 .j 7 (.mov (.t 10))]
@[go_sem] def q56_2 : List AI := [
 .j 11 (.mov (.t 7)),
 .j 12 (.bin .geq (.t 11) (.z 0))]
@[go_sem] def q56_3 : List AI := [
 .j 13 (.mov (.t 0)),
 .j 14 (.mov (.t 7)),
 .j 15 (.sls (.t 13) none (some (.t 14))),
 .j 16 (.mov (.t 0)),
 .j 17 (.mov (.t 7)),
 .j 18 (.mov (.t 1)),
 .j 19 (.len 1 (.t 18)),
 .j 20 (.bin .add (.t 17) (.t 19)),
 .j 21 (.sls (.t 16) (some (.t 20)) none),
 .j 4 (.mov (.t 15)),
 .j 5 (.mov (.t 21)),
 .j 6 (.mov (.c (.bool true)))]
@[go_sem] def q56_4 : List AI := [
 .j 22 (.mov (.t 0)),
 .j 4 (.mov (.t 22)),
 .j 5 (.mov (.c (.str []))),
 .j 6 (.mov (.c (.bool false)))]
@[go_sem] def internal_stringslite_Cut_c : AC := .seq (.ops [q56_0]) (.seq (.seq (.ops [q56_1]) (.seq (.ops [q56_2]) (.cond (.t 12) (.seq (.ops [q56_3]) (.ret)) (.skip)))) (.seq (.ops [q56_4]) (.ret)))
theorem internal_stringslite_Cut_ok : compF Tryz.prog 56 = some (23, internal_stringslite_Cut_c, [.t 4, .t 5, .t 6]) := by kernel_rfl

@[go_sem] def q72_0 : List AI := [
 .j 4 (.mov (.c (.bool false)))]
@[go_sem] def q72_1 : List AI := [
 .j 5 (.mov (.t 0)),
 .j 6 (.mov (.t 1)),
 .j 7 (.nilck (.t 5)),
 .j 8 (.iaddrA 256 1 (.t 7) (.t 6)),
 .j 9 (.load 1 false (.t 8)),
 .j 4 (.mov (.t 9))]
@[go_sem] def strings_asciiSet_contains_c : AC := .seq (.ops [q72_0]) (.seq (.ops [q72_1]) (.ret))
theorem strings_asciiSet_contains_ok : compF Tryz.prog 72 = some (10, strings_asciiSet_contains_c, [.t 4]) := by kernel_rfl

@[go_sem] def q76_0 : List AI := [
 .j 4 (.mov (.z 0))]
@[go_sem] def q76_1 : List AI := [
 .j 5 (.mov (.t 1)),
 .j 6 (.bin .neq (.t 5) (.z 0))]
@[go_sem] def q76_2 : List AI := [
 .j 7 (.mov (.t 1)),
 .j 8 (.mov (.t 0)),
 .j 9 (.mov (.t 1)),
 .j 10 (.bin .rem (.t 8) (.t 9)),
 .j 0 (.mov (.t 7)),
 .j 1 (.mov (.t 10))]
@[go_sem] def rational_gcd_l0' : AC := .seq (.seq (.ops [q76_1]) (.cond (.t 6) (.skip) (.exit 0))) (.block 1 (.ops [q76_2]))
def rational_gcd_l0 : AC := rational_gcd_l0'
theorem rational_gcd_l0_eq : rational_gcd_l0 = rational_gcd_l0' := rfl
@[go_sem] def q76_3 : List AI := [
 .j 11 (.mov (.t 0)),
 .j 4 (.mov (.t 11))]
@[go_sem] def rational_gcd_c : AC := .seq (.ops [q76_0]) (.seq (.block 0 (.loop rational_gcd_l0)) (.seq (.ops [q76_3]) (.ret)))
theorem rational_gcd_ok : compF Tryz.prog 76 = some (12, rational_gcd_c, [.t 4]) := by kernel_rfl

/-- The functions by number. -/
def exT : List (FuncId × Nat × AC × List RV) := [
  (3, 84, scriptinglaw32_OpcodeFields_c, [.t 2]),
  (4, 85, opcode_Check_c, [.t 2]),
  (5, 83, scriptinglaw32_awake_c, [.t 0]),
  (6, 35, scriptinglaw32_fields_c, [.t 2]),
  (7, 42, opcode_Text_c, [.t 2]),
  (8, 52, numeral_Parse_c, [.c 2 2 true, .t 3]),
  (9, 25, opcode_of_c, [.c 2 6 true, .t 3]),
  (10, 24, opcode_fields_c, [.c 4 4 true, .c 5 4 true]),
  (11, 29, opcode_between_c, [.t 2, .t 3]),
  (12, 53, opcode_last_c, [.t 4]),
  (13, 88, opcode_Reads_c, [.t 2, .t 3]),
  (14, 92, opcode_Writes_c, [.t 2, .t 3]),
  (15, 96, opcode_Parse_c, [.c 2 5 true, .t 3]),
  (16, 26, scriptinglaw32_ints_c, [.t 4]),
  (18, 5, numeral_trim_c, [.t 2]),
  (19, 11, strings_CutPrefix_c, [.t 4, .t 5]),
  (20, 81, numeral_find_c, [.c 4 4 true, .t 5]),
  (21, 70, numeral_numeral_number_c, [.c 4 2 true, .t 5]),
  (22, 71, numeral_fraction_c, [.c 2 2 true, .t 3]),
  (23, 106, strings_Fields_c, [.t 2]),
  (24, 75, opcode_shape_c, [.c 2 6 true]),
  (25, 7, opcode_sorted_c, [.t 2]),
  (26, 23, opcode_span_c, [.t 4, .t 5]),
  (28, 12, opcode_Op_c, [.t 2, .t 3]),
  (31, 43, strings_Trim_c, [.t 4]),
  (32, 15, internal_stringslite_CutPrefix_c, [.t 4, .t 5]),
  (33, 29, numeral_run_c, [.t 6]),
  (34, 31, numeral_integer_c, [.t 4, .t 5]),
  (35, 29, rational_Make_c, [.c 4 2 true, .t 5]),
  (36, 13, strings_Cut_c, [.t 4, .t 5, .t 6]),
  (39, 11, slices_Sort_int_int_c, []),
  (40, 61, slices_Compact_int_int_c, [.t 2]),
  (42, 19, slices_Index_string_string_c, [.t 4]),
  (48, 21, strings_makeASCIISet_c, [.c 2 256 true, .t 3]),
  (49, 16, strings_trimLeftASCII_c, [.t 4]),
  (50, 22, strings_trimRightASCII_c, [.t 4]),
  (53, 18, internal_stringslite_HasPrefix_c, [.t 4]),
  (54, 35, numeral_digit_c, [.t 2]),
  (55, 39, rational_reduce_c, [.c 4 2 true, .t 5]),
  (56, 23, internal_stringslite_Cut_c, [.t 4, .t 5, .t 6]),
  (72, 10, strings_asciiSet_contains_c, [.t 4]),
  (76, 12, rational_gcd_c, [.t 4])]
theorem exT_ok : TabOK Tryz.prog exT := 
  (TabOK.cons scriptinglaw32_OpcodeFields_ok 
  (TabOK.cons opcode_Check_ok 
  (TabOK.cons scriptinglaw32_awake_ok 
  (TabOK.cons scriptinglaw32_fields_ok 
  (TabOK.cons opcode_Text_ok 
  (TabOK.cons numeral_Parse_ok 
  (TabOK.cons opcode_of_ok 
  (TabOK.cons opcode_fields_ok 
  (TabOK.cons opcode_between_ok 
  (TabOK.cons opcode_last_ok 
  (TabOK.cons opcode_Reads_ok 
  (TabOK.cons opcode_Writes_ok 
  (TabOK.cons opcode_Parse_ok 
  (TabOK.cons scriptinglaw32_ints_ok 
  (TabOK.cons numeral_trim_ok 
  (TabOK.cons strings_CutPrefix_ok 
  (TabOK.cons numeral_find_ok 
  (TabOK.cons numeral_numeral_number_ok 
  (TabOK.cons numeral_fraction_ok 
  (TabOK.cons strings_Fields_ok 
  (TabOK.cons opcode_shape_ok 
  (TabOK.cons opcode_sorted_ok 
  (TabOK.cons opcode_span_ok 
  (TabOK.cons opcode_Op_ok 
  (TabOK.cons strings_Trim_ok 
  (TabOK.cons internal_stringslite_CutPrefix_ok 
  (TabOK.cons numeral_run_ok 
  (TabOK.cons numeral_integer_ok 
  (TabOK.cons rational_Make_ok 
  (TabOK.cons strings_Cut_ok 
  (TabOK.cons slices_Sort_int_int_ok 
  (TabOK.cons slices_Compact_int_int_ok 
  (TabOK.cons slices_Index_string_string_ok 
  (TabOK.cons strings_makeASCIISet_ok 
  (TabOK.cons strings_trimLeftASCII_ok 
  (TabOK.cons strings_trimRightASCII_ok 
  (TabOK.cons internal_stringslite_HasPrefix_ok 
  (TabOK.cons numeral_digit_ok 
  (TabOK.cons rational_reduce_ok 
  (TabOK.cons internal_stringslite_Cut_ok 
  (TabOK.cons strings_asciiSet_contains_ok 
  (TabOK.cons rational_gcd_ok TabOK.nil))))))))))))))))))))))))))))))))))))))))))

end Go.Proofs.YtnjbkhidikbeiaaGreatDoor
