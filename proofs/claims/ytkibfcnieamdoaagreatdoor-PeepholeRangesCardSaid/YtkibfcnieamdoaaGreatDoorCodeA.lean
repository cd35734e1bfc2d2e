/-
  The code of the functions that this seat reaches, translated into abstract code (printed by a program, each proved to be the translation). No condition.
-/
import Derived.Test.YtkibfcnieamdoaaGreatDoorExe
import Derived.Test.YtkibfcnieamdoaaGreatDoorChecked
set_option maxRecDepth 1000000
namespace Go.Proofs.YtkibfcnieamdoaaGreatDoor
open Go.Abs

@[go_sem] def q3_0 : List AI := [
 .j 1 (.box 30001 11 (.t 0)),
 .j 2 (.mov (.c (.bool false)))]
@[go_sem] def q3_1 : List AI := [
 .j 3 (.load 11 true (.t 1)),
 .j 4 (.call 4 [(.t 3)]),
 .j 5 (.mov (.t 4)),
 .k 6 5 false (.load 11 true (.t 1)),
 .k 7 5 false (.call 5 [(.t 6)]),
 .k 8 5 false (.bin .neq (.t 7) (.z 0)),
 .j 9 (.pick (.t 5) (.c (.bool true)) (.t 8))]
@[go_sem] def q3_2 : List AI := [
 .j 10 (.call 6 []),
 .j 2 (.mov (.t 10))]
@[go_sem] def q3_3_0 : List AI := [
 .j 11 (.load 11 true (.t 1)),
 .j 13 (.load 11 true (.t 1)),
 .j 12 (.call 8 [(.t 11)]),
 .j 14 (.call 7 [(.t 12), (.t 13)]),
 .j 15 (.mov (.t 14)),
 .k 16 15 true (.load 11 true (.t 1)),
 .k 18 15 true (.load 11 true (.t 1)),
 .k 17 15 true (.call 9 [(.t 16)]),
 .k 19 15 true (.call 7 [(.t 17), (.t 18)]),
 .j 20 (.pick (.t 15) (.t 19) (.c (.bool false))),
 .j 21 (.mov (.t 20)),
 .k 22 21 true (.call 6 []),
 .j 23 (.pick (.t 21) (.t 22) (.c (.bool false))),
 .j 2 (.mov (.t 23))]
@[go_sem] def q3_3_1 : List AI := [
 .j 11 (.load 11 true (.t 1)),
 .j 13 (.load 11 true (.t 1)),
 .j 12 (.call 8 [(.t 11)]),
 .j 14 (.call 7 [(.t 12), (.t 13)]),
 .j 15 (.mov (.t 14)),
 .k 16 15 true (.load 11 true (.t 1)),
 .k 17 15 true (.call 9 [(.t 16)]),
 .k 18 15 true (.load 11 true (.t 1)),
 .k 19 15 true (.call 7 [(.t 17), (.t 18)]),
 .j 20 (.pick (.t 15) (.t 19) (.c (.bool false))),
 .j 21 (.mov (.t 20)),
 .k 22 21 true (.call 6 []),
 .j 23 (.pick (.t 21) (.t 22) (.c (.bool false))),
 .j 2 (.mov (.t 23))]
@[go_sem] def q3_3_2 : List AI := [
 .j 11 (.load 11 true (.t 1)),
 .j 12 (.call 8 [(.t 11)]),
 .j 13 (.load 11 true (.t 1)),
 .j 14 (.call 7 [(.t 12), (.t 13)]),
 .j 15 (.mov (.t 14)),
 .k 16 15 true (.load 11 true (.t 1)),
 .k 18 15 true (.load 11 true (.t 1)),
 .k 17 15 true (.call 9 [(.t 16)]),
 .k 19 15 true (.call 7 [(.t 17), (.t 18)]),
 .j 20 (.pick (.t 15) (.t 19) (.c (.bool false))),
 .j 21 (.mov (.t 20)),
 .k 22 21 true (.call 6 []),
 .j 23 (.pick (.t 21) (.t 22) (.c (.bool false))),
 .j 2 (.mov (.t 23))]
@[go_sem] def q3_3_3 : List AI := [
 .j 11 (.load 11 true (.t 1)),
 .j 12 (.call 8 [(.t 11)]),
 .j 13 (.load 11 true (.t 1)),
 .j 14 (.call 7 [(.t 12), (.t 13)]),
 .j 15 (.mov (.t 14)),
 .k 16 15 true (.load 11 true (.t 1)),
 .k 17 15 true (.call 9 [(.t 16)]),
 .k 18 15 true (.load 11 true (.t 1)),
 .k 19 15 true (.call 7 [(.t 17), (.t 18)]),
 .j 20 (.pick (.t 15) (.t 19) (.c (.bool false))),
 .j 21 (.mov (.t 20)),
 .k 22 21 true (.call 6 []),
 .j 23 (.pick (.t 21) (.t 22) (.c (.bool false))),
 .j 2 (.mov (.t 23))]
@[go_sem] def scriptinglaw41_PeepholeRanges_c : AC := .seq (.ops [q3_0]) (.seq (.seq (.ops [q3_1]) (.cond (.t 9) (.seq (.ops [q3_2]) (.ret)) (.skip))) (.seq (.ops [q3_3_0, q3_3_1, q3_3_2, q3_3_3]) (.ret)))
theorem scriptinglaw41_PeepholeRanges_ok : compF Tryz.prog 3 = some (24, scriptinglaw41_PeepholeRanges_c, [.t 2]) := by kernel_rfl

@[go_sem] def q4_0 : List AI := [
 .j 1 (.box 40001 11 (.t 0)),
 .j 2 (.mov (.c (.bool false)))]
@[go_sem] def q4_1 : List AI := [
 .j 4 (.load 11 true (.t 1)),
 .j 5 (.call 10 [(.t 4), (.z 201)]),
 .j 6 (.bin .gtr (.t 5) (.z 200)),
 .j 7 (.mov (.t 6)),
 .k 8 7 false (.faddr 4 (.t 1)),
 .k 9 7 false (.load 1 false (.t 8)),
 .k 10 7 false (.bin .gtr (.t 9) (.z 60)),
 .j 11 (.pick (.t 7) (.c (.bool true)) (.t 10))]
@[go_sem] def q4_2 : List AI := [
 .j 2 (.mov (.c (.bool true)))]
@[go_sem] def q4_3 : List AI := [
 .j 12 (.faddr 8 (.t 1)),
 .j 13 (.load 1 false (.t 12)),
 .j 14 (.len 0 (.t 13)),
 .j 15 (.mov (.z 0))]
@[go_sem] def q4_4 : List AI := [
 .j 16 (.bin .lss (.t 15) (.t 14))]
@[go_sem] def q4_5 : List AI := [
 .j 17 (.mov (.t 15)),
 .j 3 (.mov (.t 17))]
@[go_sem] def q4_6 : List AI := [
 .j 18 (.faddr 8 (.t 1)),
 .j 19 (.load 1 false (.t 18)),
 .j 20 (.mov (.t 3)),
 .j 21 (.iaddr 11 (.t 19) (.t 20)),
 .j 22 (.load 11 true (.t 21)),
 .j 23 (.call 4 [(.t 22)])]
@[go_sem] def q4_7 : List AI := [
 .j 2 (.mov (.c (.bool true)))]
@[go_sem] def q4_8 : List AI := [
 .j 24 (.bin .add (.t 15) (.z 1)),
 .j 15 (.mov (.t 24))]
@[go_sem] def scriptinglaw41_large_l0' : AC := .seq (.ops [q4_4]) (.seq (.cond (.t 16) (.skip) (.exit 0)) (.seq (.block 1 (.seq (.ops [q4_5]) (.seq (.ops [q4_6]) (.cond (.t 23) (.seq (.ops [q4_7]) (.ret)) (.skip))))) (.ops [q4_8])))
def scriptinglaw41_large_l0 : AC := scriptinglaw41_large_l0'
theorem scriptinglaw41_large_l0_eq : scriptinglaw41_large_l0 = scriptinglaw41_large_l0' := rfl
@[go_sem] def q4_9 : List AI := [
 .j 2 (.mov (.c (.bool false)))]
@[go_sem] def scriptinglaw41_large_c : AC := .seq (.ops [q4_0]) (.seq (.seq (.ops [q4_1]) (.cond (.t 11) (.seq (.ops [q4_2]) (.ret)) (.skip))) (.seq (.seq (.ops [q4_3]) (.block 0 (.loop scriptinglaw41_large_l0))) (.seq (.ops [q4_9]) (.ret))))
theorem scriptinglaw41_large_ok : compF Tryz.prog 4 = some (25, scriptinglaw41_large_c, [.t 2]) := by kernel_rfl

@[go_sem] def q5_0 : List AI := [
 .j 1 (.box 50001 11 (.t 0)),
 .j 2 (.box 50002 1 (.z 0))]
@[go_sem] def q5_1 : List AI := [
 .j 5 (.load 11 true (.t 1)),
 .j 6 (.call 11 [(.t 5)]),
 .j 7 (.bin .gtr (.t 6) (.z 64))]
@[go_sem] def q5_2 : List AI := [
 .e (.store 1 (.t 2) (.z 3))]
@[go_sem] def q5_3 : List AI := [
 .j 8 (.load 11 true (.t 1)),
 .j 9 (.call 12 [(.t 8)])]
@[go_sem] def q5_4 : List AI := [
 .j 3 (.box 50003 11 (.c (.agg [(.str []), (.int .i64 0), (.int .i64 0), (.bool false), (.int .i64 0), .nils, .nils, .nils, .nils, .nils, .nils]))),
 .e (.store 11 (.t 3) (.t 10))]
@[go_sem] def q5_5 : List AI := [
 .j 11 (.load 11 true (.t 3)),
 .j 12 (.call 13 [(.t 11)]),
 .j 4 (.mov (.t 12))]
@[go_sem] def q5_6 : List AI := [
 .j 13 (.mov (.t 4)),
 .j 14 (.bin .neq (.t 13) (.z 0))]
@[go_sem] def q5_7 : List AI := [
 .j 15 (.mov (.t 4)),
 .e (.store 1 (.t 2) (.t 15))]
@[go_sem] def proto_Check_g0a' : AC := .ops [q5_4]
def proto_Check_g0a : AC := proto_Check_g0a'
theorem proto_Check_g0a_eq : proto_Check_g0a = proto_Check_g0a' := rfl
@[go_sem] def proto_Check_g0b' : AC := .block 1 (.seq (.ops [q5_5]) (.seq (.ops [q5_6]) (.cond (.t 14) (.seq (.ops [q5_7]) (.ret)) (.skip))))
def proto_Check_g0b : AC := proto_Check_g0b'
theorem proto_Check_g0b_eq : proto_Check_g0b = proto_Check_g0b' := rfl
@[go_sem] def q5_8 : List AI := [
 .e (.store 1 (.t 2) (.z 0))]
@[go_sem] def proto_Check_c : AC := .seq (.ops [q5_0]) (.seq (.seq (.ops [q5_1]) (.cond (.t 7) (.seq (.ops [q5_2]) (.ret)) (.skip))) (.seq (.seq (.ops [q5_3]) (.block 0 (.rng 59010 (.t 9) [10] proto_Check_g0a proto_Check_g0b))) (.seq (.ops [q5_8]) (.ret))))
theorem proto_Check_ok : compF Tryz.prog 5 = some (16, proto_Check_c, [.c 2 1 false]) := by kernel_rfl

@[go_sem] def q6_0 : List AI := [
 .j 0 (.mov (.c (.bool false)))]
@[go_sem] def q6_1 : List AI := [
 .j 10 (.build [(.int .i64 0), (.int .i64 0), (.int .i64 0), (.int .i64 0), (.int .i64 0)] [(0, 1, (.z 29))]),
 .j 11 (.build [(.int .i64 0), (.int .i64 0), (.int .i64 0), (.int .i64 0), (.int .i64 0)] [(0, 1, (.z 18))]),
 .j 1 (.box 60001 5 (.c (.agg [(.int .i64 0), (.int .i64 0), (.int .i64 0), (.int .i64 0), (.int .i64 0)]))),
 .j 2 (.box 60002 5 (.c (.agg [(.int .i64 0), (.int .i64 0), (.int .i64 0), (.int .i64 0), (.int .i64 0)]))),
 .e (.store 5 (.t 1) (.t 10)),
 .e (.store 5 (.t 2) (.t 11))]
@[go_sem] def q6_2 : List AI := [
 .j 12 (.build [(.int .i64 0), (.int .i64 0), (.int .i64 0), (.int .i64 0), (.int .i64 0)] [(0, 1, (.z 14)), (2, 1, (.z 2))]),
 .j 13 (.load 5 true (.t 1)),
 .j 14 (.build [(.int .i64 0), (.int .i64 0), (.int .i64 0), (.int .i64 0), (.int .i64 0)] [(0, 1, (.z 14)), (2, 1, (.z 1))]),
 .j 15 (.mkrow 60015 5 [(.t 12), (.t 13), (.t 14)]),
 .j 16 (.call 15 [(.t 15)]),
 .j 17 (.call 14 [(.t 16)]),
 .j 3 (.box 60003 11 (.c (.agg [(.str []), (.int .i64 0), (.int .i64 0), (.bool false), (.int .i64 0), .nils, .nils, .nils, .nils, .nils, .nils]))),
 .e (.store 11 (.t 3) (.t 17))]
@[go_sem] def q6_3 : List AI := [
 .j 18 (.build [(.int .i64 0), (.int .i64 0), (.int .i64 0), (.int .i64 0), (.int .i64 0)] [(0, 1, (.z 1)), (1, 1, (.z 1)), (2, 1, (.z 1))]),
 .j 19 (.load 5 true (.t 1)),
 .j 20 (.load 5 true (.t 2)),
 .j 21 (.mkrow 60021 5 [(.t 18), (.t 19), (.t 20)]),
 .j 22 (.call 15 [(.t 21)]),
 .j 23 (.call 9 [(.t 22)]),
 .j 4 (.box 60004 11 (.c (.agg [(.str []), (.int .i64 0), (.int .i64 0), (.bool false), (.int .i64 0), .nils, .nils, .nils, .nils, .nils, .nils]))),
 .e (.store 11 (.t 4) (.t 23))]
@[go_sem] def q6_4 : List AI := [
 .j 24 (.load 5 true (.t 2)),
 .j 25 (.load 5 true (.t 1)),
 .j 26 (.load 5 true (.t 2)),
 .j 27 (.mkrow 60027 5 [(.t 24), (.t 25), (.t 26)]),
 .j 28 (.call 15 [(.t 27)]),
 .j 29 (.call 8 [(.t 28)]),
 .j 5 (.box 60005 11 (.c (.agg [(.str []), (.int .i64 0), (.int .i64 0), (.bool false), (.int .i64 0), .nils, .nils, .nils, .nils, .nils, .nils]))),
 .e (.store 11 (.t 5) (.t 29))]
@[go_sem] def q6_5 : List AI := [
 .j 31 (.load 5 true (.t 2)),
 .j 32 (.load 5 true (.t 1)),
 .j 33 (.load 5 true (.t 2)),
 .j 34 (.mkrow 60034 5 [(.t 31), (.t 32), (.t 33)]),
 .j 35 (.call 15 [(.t 34)]),
 .j 36 (.call 16 [(.t 35)]),
 .j 30 (.mov (.t 36)),
 .j 37 (.ext 0 (.t 30)),
 .j 38 (.ext 1 (.t 30)),
 .j 6 (.box 60006 11 (.c (.agg [(.str []), (.int .i64 0), (.int .i64 0), (.bool false), (.int .i64 0), .nils, .nils, .nils, .nils, .nils, .nils]))),
 .e (.store 11 (.t 6) (.t 37)),
 .j 7 (.mov (.t 38))]
@[go_sem] def q6_6 : List AI := [
 .j 40 (.build [(.str []), (.int .i64 0), (.int .i64 0), (.bool false), (.int .i64 0), .nils, .nils, .nils, .nils, .nils, .nils] []),
 .j 41 (.call 16 [(.t 40)]),
 .j 39 (.mov (.t 41)),
 .j 42 (.ext 0 (.t 39)),
 .j 43 (.ext 1 (.t 39)),
 .j 8 (.box 60008 11 (.c (.agg [(.str []), (.int .i64 0), (.int .i64 0), (.bool false), (.int .i64 0), .nils, .nils, .nils, .nils, .nils, .nils]))),
 .e (.store 11 (.t 8) (.t 42)),
 .j 9 (.mov (.t 43))]
@[go_sem] def q6_7 : List AI := [
 .j 44 (.faddr 5 (.t 3)),
 .j 45 (.load 1 false (.t 44)),
 .j 46 (.len 0 (.t 45)),
 .j 47 (.bin .eql (.t 46) (.z 3)),
 .j 48 (.mov (.t 47)),
 .k 49 48 true (.faddr 5 (.t 3)),
 .k 50 48 true (.load 1 false (.t 49)),
 .k 51 48 true (.iaddr 5 (.t 50) (.z 0)),
 .k 52 48 true (.faddr 2 (.t 51)),
 .k 53 48 true (.load 1 false (.t 52)),
 .k 54 48 true (.bin .eql (.t 53) (.z 1)),
 .j 55 (.pick (.t 48) (.t 54) (.c (.bool false))),
 .j 56 (.mov (.t 55)),
 .k 57 56 true (.faddr 5 (.t 4)),
 .k 58 56 true (.load 1 false (.t 57)),
 .k 59 56 true (.len 0 (.t 58)),
 .k 60 56 true (.bin .eql (.t 59) (.z 2)),
 .j 61 (.pick (.t 56) (.t 60) (.c (.bool false))),
 .j 62 (.mov (.t 61)),
 .k 63 62 true (.faddr 5 (.t 4)),
 .k 64 62 true (.load 1 false (.t 63)),
 .k 65 62 true (.iaddr 5 (.t 64) (.z 0)),
 .k 66 62 true (.load 5 true (.t 65)),
 .k 67 62 true (.load 5 true (.t 1)),
 .k 68 62 true (.eqa false (.agg [(0, 1, (.leaf 1)), (1, 1, (.leaf 1)), (2, 1, (.leaf 1)), (3, 1, (.leaf 1)), (4, 1, (.leaf 1))]) (.t 66) (.t 67)),
 .j 69 (.pick (.t 62) (.t 68) (.c (.bool false))),
 .j 70 (.mov (.t 69)),
 .k 71 70 true (.faddr 5 (.t 5)),
 .k 72 70 true (.load 1 false (.t 71)),
 .k 73 70 true (.len 0 (.t 72)),
 .k 74 70 true (.bin .eql (.t 73) (.z 1)),
 .j 75 (.pick (.t 70) (.t 74) (.c (.bool false))),
 .j 76 (.mov (.t 75)),
 .k 77 76 true (.faddr 5 (.t 5)),
 .k 78 76 true (.load 1 false (.t 77)),
 .k 79 76 true (.iaddr 5 (.t 78) (.z 0)),
 .k 80 76 true (.load 5 true (.t 79)),
 .k 81 76 true (.load 5 true (.t 2)),
 .k 82 76 true (.eqa false (.agg [(0, 1, (.leaf 1)), (1, 1, (.leaf 1)), (2, 1, (.leaf 1)), (3, 1, (.leaf 1)), (4, 1, (.leaf 1))]) (.t 80) (.t 81)),
 .j 83 (.pick (.t 76) (.t 82) (.c (.bool false))),
 .j 84 (.mov (.t 83)),
 .k 85 84 true (.mov (.t 7)),
 .k 86 84 true (.bin .eql (.t 85) (.z 0)),
 .j 87 (.pick (.t 84) (.t 86) (.c (.bool false))),
 .j 88 (.mov (.t 87)),
 .k 89 88 true (.faddr 5 (.t 6)),
 .k 90 88 true (.load 1 false (.t 89)),
 .k 91 88 true (.len 0 (.t 90)),
 .k 92 88 true (.bin .eql (.t 91) (.z 1)),
 .j 93 (.pick (.t 88) (.t 92) (.c (.bool false))),
 .j 94 (.mov (.t 93)),
 .k 95 94 true (.mov (.t 9)),
 .k 96 94 true (.bin .neq (.t 95) (.z 0)),
 .j 97 (.pick (.t 94) (.t 96) (.c (.bool false))),
 .j 0 (.mov (.t 97))]
@[go_sem] def scriptinglaw41_awake_c : AC := .seq (.ops [q6_0]) (.seq (.ops [q6_1]) (.seq (.ops [q6_2]) (.seq (.ops [q6_3]) (.seq (.ops [q6_4]) (.seq (.ops [q6_5]) (.seq (.ops [q6_6]) (.seq (.ops [q6_7]) (.ret))))))))
theorem scriptinglaw41_awake_ok : compF Tryz.prog 6 = some (98, scriptinglaw41_awake_c, [.t 0]) := by kernel_rfl

@[go_sem] def q7_0 : List AI := [
 .j 2 (.box 70002 11 (.t 0)),
 .j 3 (.box 70003 11 (.t 1)),
 .j 4 (.mov (.c (.bool false)))]
@[go_sem] def q7_1 : List AI := [
 .j 8 (.faddr 6 (.t 2)),
 .j 9 (.load 1 false (.t 8)),
 .j 10 (.len 0 (.t 9)),
 .j 11 (.faddr 5 (.t 2)),
 .j 12 (.load 1 false (.t 11)),
 .j 13 (.len 0 (.t 12)),
 .j 14 (.bin .neq (.t 10) (.t 13)),
 .j 15 (.mov (.t 14)),
 .k 16 15 true (.faddr 6 (.t 2)),
 .k 17 15 true (.load 1 false (.t 16)),
 .k 18 15 true (.len 0 (.t 17)),
 .k 19 15 true (.bin .neq (.t 18) (.z 0)),
 .j 20 (.pick (.t 15) (.t 19) (.c (.bool false))),
 .j 21 (.mov (.t 20)),
 .k 22 21 false (.faddr 6 (.t 2)),
 .k 23 21 false (.load 1 false (.t 22)),
 .k 24 21 false (.len 0 (.t 23)),
 .k 25 21 false (.bin .eql (.t 24) (.z 0)),
 .k 26 21 false (.faddr 6 (.t 3)),
 .k 27 21 false (.load 1 false (.t 26)),
 .k 28 21 false (.len 0 (.t 27)),
 .k 29 21 false (.bin .eql (.t 28) (.z 0)),
 .k 30 21 false (.eqp 2 true (.t 25) (.t 29)),
 .j 31 (.pick (.t 21) (.c (.bool true)) (.t 30)),
 .j 32 (.mov (.t 31)),
 .k 33 32 false (.faddr 10 (.t 2)),
 .k 34 32 false (.load 1 false (.t 33)),
 .k 35 32 false (.len 0 (.t 34)),
 .k 36 32 false (.faddr 10 (.t 3)),
 .k 37 32 false (.load 1 false (.t 36)),
 .k 38 32 false (.len 0 (.t 37)),
 .k 39 32 false (.bin .gtr (.t 35) (.t 38)),
 .j 40 (.pick (.t 32) (.c (.bool true)) (.t 39))]
@[go_sem] def q7_2 : List AI := [
 .j 4 (.mov (.c (.bool false)))]
@[go_sem] def q7_3 : List AI := [
 .j 5 (.mov (.z 0))]
@[go_sem] def q7_4 : List AI := [
 .j 41 (.faddr 6 (.t 2)),
 .j 42 (.load 1 false (.t 41)),
 .j 43 (.len 0 (.t 42)),
 .j 44 (.mov (.z 0))]
@[go_sem] def q7_5 : List AI := [
 .j 45 (.bin .lss (.t 44) (.t 43))]
@[go_sem] def q7_6 : List AI := [
 .j 46 (.mov (.t 44)),
 .j 6 (.mov (.t 46))]
@[go_sem] def q7_7 : List AI := [
 .j 47 (.mov (.t 5)),
 .j 48 (.faddr 6 (.t 3)),
 .j 49 (.load 1 false (.t 48)),
 .j 50 (.len 0 (.t 49)),
 .j 51 (.bin .lss (.t 47) (.t 50)),
 .j 52 (.mov (.t 51)),
 .k 53 52 true (.faddr 6 (.t 3)),
 .k 54 52 true (.load 1 false (.t 53)),
 .k 55 52 true (.mov (.t 5)),
 .k 56 52 true (.iaddr 1 (.t 54) (.t 55)),
 .k 57 52 true (.load 1 false (.t 56)),
 .k 58 52 true (.faddr 6 (.t 2)),
 .k 59 52 true (.load 1 false (.t 58)),
 .k 60 52 true (.mov (.t 6)),
 .k 61 52 true (.iaddr 1 (.t 59) (.t 60)),
 .k 62 52 true (.load 1 false (.t 61)),
 .k 63 52 true (.bin .neq (.t 57) (.t 62)),
 .j 64 (.pick (.t 52) (.t 63) (.c (.bool false)))]
@[go_sem] def q7_8 : List AI := [
 .j 65 (.mov (.t 5)),
 .j 66 (.bin .add (.t 65) (.z 1)),
 .j 5 (.mov (.t 66))]
@[go_sem] def scriptinglaw41_ranges_l1' : AC := .seq (.seq (.ops [q7_7]) (.cond (.t 64) (.skip) (.exit 2))) (.block 3 (.ops [q7_8]))
def scriptinglaw41_ranges_l1 : AC := scriptinglaw41_ranges_l1'
theorem scriptinglaw41_ranges_l1_eq : scriptinglaw41_ranges_l1 = scriptinglaw41_ranges_l1' := rfl
@[go_sem] def q7_9 : List AI := [
 .j 67 (.mov (.t 5)),
 .j 68 (.faddr 6 (.t 3)),
 .j 69 (.load 1 false (.t 68)),
 .j 70 (.len 0 (.t 69)),
 .j 71 (.bin .eql (.t 67) (.t 70))]
@[go_sem] def q7_10 : List AI := [
 .j 4 (.mov (.c (.bool false)))]
@[go_sem] def q7_11 : List AI := [
 .j 72 (.mov (.t 5)),
 .j 73 (.bin .add (.t 72) (.z 1)),
 .j 5 (.mov (.t 73))]
@[go_sem] def q7_12 : List AI := [
 .j 74 (.bin .add (.t 44) (.z 1)),
 .j 44 (.mov (.t 74))]
@[go_sem] def scriptinglaw41_ranges_l0' : AC := .seq (.ops [q7_5]) (.seq (.cond (.t 45) (.skip) (.exit 0)) (.seq (.block 1 (.seq (.ops [q7_6]) (.seq (.block 2 (.loop scriptinglaw41_ranges_l1)) (.seq (.seq (.ops [q7_9]) (.cond (.t 71) (.seq (.ops [q7_10]) (.ret)) (.skip))) (.ops [q7_11]))))) (.ops [q7_12])))
def scriptinglaw41_ranges_l0 : AC := scriptinglaw41_ranges_l0'
theorem scriptinglaw41_ranges_l0_eq : scriptinglaw41_ranges_l0 = scriptinglaw41_ranges_l0' := rfl
@[go_sem] def q7_13 : List AI := [
 .j 75 (.faddr 10 (.t 2)),
 .j 76 (.load 1 false (.t 75)),
 .j 77 (.len 0 (.t 76)),
 .j 78 (.mov (.z 0))]
@[go_sem] def q7_14 : List AI := [
 .j 79 (.bin .lss (.t 78) (.t 77))]
@[go_sem] def q7_15 : List AI := [
 .j 80 (.mov (.t 78)),
 .j 7 (.mov (.t 80))]
@[go_sem] def q7_16 : List AI := [
 .j 81 (.faddr 10 (.t 2)),
 .j 82 (.load 1 false (.t 81)),
 .j 83 (.mov (.t 7)),
 .j 84 (.iaddr 5 (.t 82) (.t 83)),
 .j 85 (.faddr 2 (.t 84)),
 .j 86 (.load 1 false (.t 85)),
 .j 87 (.bin .lss (.t 86) (.z 0)),
 .j 88 (.mov (.t 87)),
 .k 89 88 false (.faddr 10 (.t 2)),
 .k 90 88 false (.load 1 false (.t 89)),
 .k 91 88 false (.mov (.t 7)),
 .k 92 88 false (.iaddr 5 (.t 90) (.t 91)),
 .k 93 88 false (.faddr 2 (.t 92)),
 .k 94 88 false (.load 1 false (.t 93)),
 .k 95 88 false (.faddr 10 (.t 2)),
 .k 96 88 false (.load 1 false (.t 95)),
 .k 97 88 false (.mov (.t 7)),
 .k 98 88 false (.iaddr 5 (.t 96) (.t 97)),
 .k 99 88 false (.faddr 3 (.t 98)),
 .k 100 88 false (.load 1 false (.t 99)),
 .k 101 88 false (.bin .geq (.t 94) (.t 100)),
 .j 102 (.pick (.t 88) (.c (.bool true)) (.t 101)),
 .j 103 (.mov (.t 102)),
 .k 104 103 false (.faddr 10 (.t 2)),
 .k 105 103 false (.load 1 false (.t 104)),
 .k 106 103 false (.mov (.t 7)),
 .k 107 103 false (.iaddr 5 (.t 105) (.t 106)),
 .k 108 103 false (.faddr 3 (.t 107)),
 .k 109 103 false (.load 1 false (.t 108)),
 .k 110 103 false (.faddr 5 (.t 2)),
 .k 111 103 false (.load 1 false (.t 110)),
 .k 112 103 false (.len 0 (.t 111)),
 .k 113 103 false (.bin .gtr (.t 109) (.t 112)),
 .j 114 (.pick (.t 103) (.c (.bool true)) (.t 113))]
@[go_sem] def q7_17 : List AI := [
 .j 4 (.mov (.c (.bool false)))]
@[go_sem] def q7_18 : List AI := [
 .j 115 (.bin .add (.t 78) (.z 1)),
 .j 78 (.mov (.t 115))]
@[go_sem] def scriptinglaw41_ranges_l2' : AC := .seq (.ops [q7_14]) (.seq (.cond (.t 79) (.skip) (.exit 4)) (.seq (.block 5 (.seq (.ops [q7_15]) (.seq (.ops [q7_16]) (.cond (.t 114) (.seq (.ops [q7_17]) (.ret)) (.skip))))) (.ops [q7_18])))
def scriptinglaw41_ranges_l2 : AC := scriptinglaw41_ranges_l2'
theorem scriptinglaw41_ranges_l2_eq : scriptinglaw41_ranges_l2 = scriptinglaw41_ranges_l2' := rfl
@[go_sem] def q7_19 : List AI := [
 .j 4 (.mov (.c (.bool true)))]
@[go_sem] def scriptinglaw41_ranges_c : AC := .seq (.ops [q7_0]) (.seq (.seq (.ops [q7_1]) (.cond (.t 40) (.seq (.ops [q7_2]) (.ret)) (.skip))) (.seq (.ops [q7_3]) (.seq (.seq (.ops [q7_4]) (.block 0 (.loop scriptinglaw41_ranges_l0))) (.seq (.seq (.ops [q7_13]) (.block 4 (.loop scriptinglaw41_ranges_l2))) (.seq (.ops [q7_19]) (.ret))))))
theorem scriptinglaw41_ranges_ok : compF Tryz.prog 7 = some (116, scriptinglaw41_ranges_c, [.t 4]) := by kernel_rfl

@[go_sem] def q8_0 : List AI := [
 .j 1 (.box 80001 11 (.t 0)),
 .j 2 (.box 80002 11 (.c (.agg [(.str []), (.int .i64 0), (.int .i64 0), (.bool false), (.int .i64 0), .nils, .nils, .nils, .nils, .nils, .nils])))]
@[go_sem] def q8_1 : List AI := [
 .j 3 (.load 11 true (.t 1)),
 .j 4 (.call 17 [(.t 3), (.f 18)]),
 .e (.store 11 (.t 2) (.t 4))]
@[go_sem] def peephole_Dead_c : AC := .seq (.ops [q8_0]) (.seq (.ops [q8_1]) (.ret))
theorem peephole_Dead_ok : compF Tryz.prog 8 = some (5, peephole_Dead_c, [.c 2 11 true]) := by kernel_rfl

@[go_sem] def q9_0 : List AI := [
 .j 1 (.box 90001 11 (.t 0)),
 .j 2 (.box 90002 11 (.c (.agg [(.str []), (.int .i64 0), (.int .i64 0), (.bool false), (.int .i64 0), .nils, .nils, .nils, .nils, .nils, .nils])))]
@[go_sem] def q9_1 : List AI := [
 .j 3 (.load 11 true (.t 1)),
 .j 4 (.call 17 [(.t 3), (.f 22)]),
 .e (.store 11 (.t 2) (.t 4))]
@[go_sem] def peephole_Moves_c : AC := .seq (.ops [q9_0]) (.seq (.ops [q9_1]) (.ret))
theorem peephole_Moves_ok : compF Tryz.prog 9 = some (5, peephole_Moves_c, [.c 2 11 true]) := by kernel_rfl

@[go_sem] def q10_0 : List AI := [
 .j 2 (.box 100002 11 (.t 0)),
 .j 4 (.mov (.z 0))]
@[go_sem] def q10_1 : List AI := [
 .j 7 (.faddr 5 (.t 2)),
 .j 8 (.load 1 false (.t 7)),
 .j 9 (.len 0 (.t 8)),
 .j 10 (.bin .add (.t 9) (.z 1)),
 .j 5 (.mov (.t 10))]
@[go_sem] def q10_2 : List AI := [
 .j 6 (.mov (.z 0))]
@[go_sem] def q10_3 : List AI := [
 .j 11 (.mov (.t 6)),
 .j 12 (.faddr 8 (.t 2)),
 .j 13 (.load 1 false (.t 12)),
 .j 14 (.len 0 (.t 13)),
 .j 15 (.bin .lss (.t 11) (.t 14)),
 .j 16 (.mov (.t 15)),
 .k 17 16 true (.mov (.t 5)),
 .k 18 16 true (.mov (.t 1)),
 .k 19 16 true (.bin .lss (.t 17) (.t 18)),
 .j 20 (.pick (.t 16) (.t 19) (.c (.bool false)))]
@[go_sem] def q10_4 : List AI := [
 .j 23 (.mov (.t 5)),
 .j 24 (.faddr 8 (.t 2)),
 .j 25 (.load 1 false (.t 24)),
 .j 26 (.mov (.t 6)),
 .j 27 (.iaddr 11 (.t 25) (.t 26)),
 .j 28 (.load 11 true (.t 27)),
 .j 29 (.mov (.t 1)),
 .j 30 (.mov (.t 5)),
 .j 31 (.bin .sub (.t 29) (.t 30)),
 .j 32 (.call 10 [(.t 28), (.t 31)]),
 .j 33 (.bin .add (.t 23) (.t 32)),
 .j 5 (.mov (.t 33))]
@[go_sem] def q10_5 : List AI := [
 .j 21 (.mov (.t 6)),
 .j 22 (.bin .add (.t 21) (.z 1)),
 .j 6 (.mov (.t 22))]
@[go_sem] def scriptinglaw41_size_l0' : AC := .seq (.seq (.ops [q10_3]) (.cond (.t 20) (.skip) (.exit 0))) (.seq (.block 1 (.ops [q10_4])) (.ops [q10_5]))
def scriptinglaw41_size_l0 : AC := scriptinglaw41_size_l0'
theorem scriptinglaw41_size_l0_eq : scriptinglaw41_size_l0 = scriptinglaw41_size_l0' := rfl
@[go_sem] def q10_6 : List AI := [
 .j 34 (.mov (.t 5)),
 .j 4 (.mov (.t 34))]
@[go_sem] def scriptinglaw41_size_c : AC := .seq (.ops [q10_0]) (.seq (.ops [q10_1]) (.seq (.seq (.ops [q10_2]) (.block 0 (.loop scriptinglaw41_size_l0))) (.seq (.ops [q10_6]) (.ret))))
theorem scriptinglaw41_size_ok : compF Tryz.prog 10 = some (35, scriptinglaw41_size_c, [.t 4]) := by kernel_rfl

@[go_sem] def q11_0 : List AI := [
 .j 1 (.box 110001 11 (.t 0)),
 .j 2 (.mov (.z 0))]
@[go_sem] def q11_1 : List AI := [
 .j 3 (.mov (.z 0))]
@[go_sem] def q11_2 : List AI := [
 .j 6 (.faddr 8 (.t 1)),
 .j 7 (.load 1 false (.t 6)),
 .j 8 (.len 0 (.t 7)),
 .j 9 (.mov (.z 0))]
@[go_sem] def q11_3 : List AI := [
 .j 10 (.bin .lss (.t 9) (.t 8))]
@[go_sem] def q11_4 : List AI := [
 .j 11 (.iaddr 11 (.t 7) (.t 9)),
 .j 12 (.load 11 true (.t 11)),
 .j 5 (.box 110005 11 (.c (.agg [(.str []), (.int .i64 0), (.int .i64 0), (.bool false), (.int .i64 0), .nils, .nils, .nils, .nils, .nils, .nils]))),
 .e (.store 11 (.t 5) (.t 12))]
@[go_sem] def q11_5 : List AI := [
 .j 13 (.mov (.t 3)),
 .j 14 (.load 11 true (.t 5)),
 .j 15 (.call 11 [(.t 14)]),
 .j 16 (.mm true [(.t 13), (.t 15)]),
 .j 3 (.mov (.t 16))]
@[go_sem] def q11_6 : List AI := [
 .j 17 (.bin .add (.t 9) (.z 1)),
 .j 9 (.mov (.t 17))]
@[go_sem] def proto_depth_l0' : AC := .seq (.ops [q11_3]) (.seq (.cond (.t 10) (.skip) (.exit 0)) (.seq (.block 1 (.seq (.ops [q11_4]) (.ops [q11_5]))) (.ops [q11_6])))
def proto_depth_l0 : AC := proto_depth_l0'
theorem proto_depth_l0_eq : proto_depth_l0 = proto_depth_l0' := rfl
@[go_sem] def q11_7 : List AI := [
 .j 18 (.mov (.t 3)),
 .j 19 (.bin .add (.t 18) (.z 1)),
 .j 2 (.mov (.t 19))]
@[go_sem] def proto_depth_c : AC := .seq (.ops [q11_0]) (.seq (.ops [q11_1]) (.seq (.seq (.ops [q11_2]) (.block 0 (.loop proto_depth_l0))) (.seq (.ops [q11_7]) (.ret))))
theorem proto_depth_ok : compF Tryz.prog 11 = some (20, proto_depth_c, [.t 2]) := by kernel_rfl

@[go_sem] def q12_0 : List AI := [
 .j 1 (.box 120001 11 (.t 0)),
 .j 2 (.mov (.c (.cst .nilFunc)))]
@[go_sem] def q12_1 : List AI := [
 .j 3 (.mkfn 28 [(.t 1)]),
 .j 2 (.mov (.t 3))]
@[go_sem] def proto_Each_c : AC := .seq (.ops [q12_0]) (.seq (.ops [q12_1]) (.ret))
theorem proto_Each_ok : compF Tryz.prog 12 = some (4, proto_Each_c, [.t 2]) := by kernel_rfl

@[go_sem] def q13_0 : List AI := [
 .j 1 (.box 130001 11 (.t 0)),
 .j 2 (.mov (.z 0))]
@[go_sem] def q13_1 : List AI := [
 .j 12 (.load 11 true (.t 1)),
 .j 13 (.call 31 [(.t 12)]),
 .j 3 (.mov (.t 13))]
@[go_sem] def q13_2 : List AI := [
 .j 14 (.mov (.t 3)),
 .j 15 (.bin .neq (.t 14) (.z 0))]
@[go_sem] def q13_3 : List AI := [
 .j 16 (.mov (.t 3)),
 .j 2 (.mov (.t 16))]
@[go_sem] def q13_4 : List AI := [
 .j 17 (.load 11 true (.t 1)),
 .j 18 (.call 32 [(.t 17)]),
 .j 4 (.mov (.t 18))]
@[go_sem] def q13_5 : List AI := [
 .j 19 (.mov (.t 4)),
 .j 20 (.bin .neq (.t 19) (.z 0))]
@[go_sem] def q13_6 : List AI := [
 .j 21 (.mov (.t 4)),
 .j 2 (.mov (.t 21))]
@[go_sem] def q13_7 : List AI := [
 .j 22 (.faddr 5 (.t 1)),
 .j 23 (.load 1 false (.t 22)),
 .j 24 (.len 0 (.t 23)),
 .j 25 (.mov (.z 0))]
@[go_sem] def q13_8 : List AI := [
 .j 26 (.bin .lss (.t 25) (.t 24))]
@[go_sem] def q13_9 : List AI := [
 .j 27 (.iaddr 5 (.t 23) (.t 25)),
 .j 28 (.load 5 true (.t 27)),
 .j 6 (.box 130006 5 (.c (.agg [(.int .i64 0), (.int .i64 0), (.int .i64 0), (.int .i64 0), (.int .i64 0)]))),
 .e (.store 5 (.t 6) (.t 28))]
@[go_sem] def q13_10 : List AI := [
 .j 29 (.load 11 true (.t 1)),
 .j 30 (.load 5 true (.t 6)),
 .j 31 (.call 33 [(.t 29), (.t 30)]),
 .j 7 (.mov (.t 31))]
@[go_sem] def q13_11 : List AI := [
 .j 32 (.mov (.t 7)),
 .j 33 (.bin .neq (.t 32) (.z 0))]
@[go_sem] def q13_12 : List AI := [
 .j 34 (.mov (.t 7)),
 .j 2 (.mov (.t 34))]
@[go_sem] def q13_13 : List AI := [
 .j 35 (.bin .add (.t 25) (.z 1)),
 .j 25 (.mov (.t 35))]
@[go_sem] def proto_single_l0' : AC := .seq (.ops [q13_8]) (.seq (.cond (.t 26) (.skip) (.exit 0)) (.seq (.block 1 (.seq (.ops [q13_9]) (.seq (.ops [q13_10]) (.seq (.ops [q13_11]) (.cond (.t 33) (.seq (.ops [q13_12]) (.ret)) (.skip)))))) (.ops [q13_13])))
def proto_single_l0 : AC := proto_single_l0'
theorem proto_single_l0_eq : proto_single_l0 = proto_single_l0' := rfl
@[go_sem] def q13_14 : List AI := [
 .j 36 (.faddr 8 (.t 1)),
 .j 37 (.load 1 false (.t 36)),
 .j 38 (.len 0 (.t 37)),
 .j 39 (.mov (.z 0))]
@[go_sem] def q13_15 : List AI := [
 .j 40 (.bin .lss (.t 39) (.t 38))]
@[go_sem] def q13_16 : List AI := [
 .j 41 (.iaddr 11 (.t 37) (.t 39)),
 .j 42 (.load 11 true (.t 41)),
 .j 9 (.box 130009 11 (.c (.agg [(.str []), (.int .i64 0), (.int .i64 0), (.bool false), (.int .i64 0), .nils, .nils, .nils, .nils, .nils, .nils]))),
 .e (.store 11 (.t 9) (.t 42))]
@[go_sem] def q13_17 : List AI := [
 .j 43 (.faddr 9 (.t 9)),
 .j 44 (.load 1 false (.t 43)),
 .j 45 (.len 0 (.t 44)),
 .j 46 (.mov (.z 0))]
@[go_sem] def q13_18 : List AI := [
 .j 47 (.bin .lss (.t 46) (.t 45))]
@[go_sem] def q13_19 : List AI := [
 .j 48 (.iaddr 3 (.t 44) (.t 46)),
 .j 49 (.load 3 true (.t 48)),
 .j 11 (.box 130011 3 (.c (.agg [(.str []), (.bool false), (.int .i64 0)]))),
 .e (.store 3 (.t 11) (.t 49))]
@[go_sem] def q13_20 : List AI := [
 .j 50 (.faddr 1 (.t 11)),
 .j 51 (.load 1 false (.t 50)),
 .j 52 (.mov (.t 51)),
 .k 53 52 true (.faddr 2 (.t 11)),
 .k 54 52 true (.load 1 false (.t 53)),
 .k 55 52 true (.faddr 4 (.t 1)),
 .k 56 52 true (.load 1 false (.t 55)),
 .k 57 52 true (.bin .geq (.t 54) (.t 56)),
 .j 58 (.pick (.t 52) (.t 57) (.c (.bool false))),
 .j 59 (.mov (.t 58)),
 .k 60 59 false (.faddr 1 (.t 11)),
 .k 61 59 false (.load 1 false (.t 60)),
 .k 62 59 false (.un .not (.t 61)),
 .k 63 59 false (.mov (.t 62)),
 .k 64 63 true (.faddr 2 (.t 11)),
 .k 65 63 true (.load 1 false (.t 64)),
 .k 66 63 true (.faddr 9 (.t 1)),
 .k 67 63 true (.load 1 false (.t 66)),
 .k 68 63 true (.len 0 (.t 67)),
 .k 69 63 true (.bin .geq (.t 65) (.t 68)),
 .k 70 59 false (.pick (.t 63) (.t 69) (.c (.bool false))),
 .j 71 (.pick (.t 59) (.c (.bool true)) (.t 70))]
@[go_sem] def q13_21 : List AI := [
 .j 2 (.mov (.z 4))]
@[go_sem] def q13_22 : List AI := [
 .j 72 (.bin .add (.t 46) (.z 1)),
 .j 46 (.mov (.t 72))]
@[go_sem] def proto_single_l2' : AC := .seq (.ops [q13_18]) (.seq (.cond (.t 47) (.skip) (.exit 4)) (.seq (.block 5 (.seq (.ops [q13_19]) (.seq (.ops [q13_20]) (.cond (.t 71) (.seq (.ops [q13_21]) (.ret)) (.skip))))) (.ops [q13_22])))
def proto_single_l2 : AC := proto_single_l2'
theorem proto_single_l2_eq : proto_single_l2 = proto_single_l2' := rfl
@[go_sem] def q13_23 : List AI := [
 .j 73 (.bin .add (.t 39) (.z 1)),
 .j 39 (.mov (.t 73))]
@[go_sem] def proto_single_l1' : AC := .seq (.ops [q13_15]) (.seq (.cond (.t 40) (.skip) (.exit 2)) (.seq (.block 3 (.seq (.ops [q13_16]) (.seq (.ops [q13_17]) (.block 4 (.loop proto_single_l2))))) (.ops [q13_23])))
def proto_single_l1 : AC := proto_single_l1'
theorem proto_single_l1_eq : proto_single_l1 = proto_single_l1' := rfl
@[go_sem] def q13_24 : List AI := [
 .j 2 (.mov (.z 0))]
@[go_sem] def proto_single_c : AC := .seq (.ops [q13_0]) (.seq (.seq (.ops [q13_1]) (.seq (.ops [q13_2]) (.cond (.t 15) (.seq (.ops [q13_3]) (.ret)) (.skip)))) (.seq (.seq (.ops [q13_4]) (.seq (.ops [q13_5]) (.cond (.t 20) (.seq (.ops [q13_6]) (.ret)) (.skip)))) (.seq (.seq (.ops [q13_7]) (.block 0 (.loop proto_single_l0))) (.seq (.seq (.ops [q13_14]) (.block 2 (.loop proto_single_l1))) (.seq (.ops [q13_24]) (.ret))))))
theorem proto_single_ok : compF Tryz.prog 13 = some (74, proto_single_c, [.t 2]) := by kernel_rfl

@[go_sem] def q14_0 : List AI := [
 .j 1 (.box 140001 11 (.t 0)),
 .j 2 (.box 140002 11 (.c (.agg [(.str []), (.int .i64 0), (.int .i64 0), (.bool false), (.int .i64 0), .nils, .nils, .nils, .nils, .nils, .nils])))]
@[go_sem] def q14_1 : List AI := [
 .j 3 (.load 11 true (.t 1)),
 .j 4 (.call 17 [(.t 3), (.f 34)]),
 .e (.store 11 (.t 2) (.t 4))]
@[go_sem] def peephole_Jumps_c : AC := .seq (.ops [q14_0]) (.seq (.ops [q14_1]) (.ret))
theorem peephole_Jumps_ok : compF Tryz.prog 14 = some (5, peephole_Jumps_c, [.c 2 11 true]) := by kernel_rfl

@[go_sem] def q15_0 : List AI := [
 .j 2 (.box 150002 11 (.c (.agg [(.str []), (.int .i64 0), (.int .i64 0), (.bool false), (.int .i64 0), .nils, .nils, .nils, .nils, .nils, .nils])))]
@[go_sem] def q15_1 : List AI := [
 .j 3 (.mov (.t 0)),
 .j 4 (.build [(.str []), (.int .i64 0), (.int .i64 0), (.bool false), (.int .i64 0), .nils, .nils, .nils, .nils, .nils, .nils] [(4, 1, (.z 2)), (5, 1, (.t 3))]),
 .e (.store 11 (.t 2) (.t 4))]
@[go_sem] def scriptinglaw41_code_c : AC := .seq (.ops [q15_0]) (.seq (.ops [q15_1]) (.ret))
theorem scriptinglaw41_code_ok : compF Tryz.prog 15 = some (5, scriptinglaw41_code_c, [.c 2 11 true]) := by kernel_rfl

@[go_sem] def q16_0 : List AI := [
 .j 1 (.box 160001 11 (.t 0)),
 .j 2 (.box 160002 11 (.c (.agg [(.str []), (.int .i64 0), (.int .i64 0), (.bool false), (.int .i64 0), .nils, .nils, .nils, .nils, .nils, .nils]))),
 .j 3 (.mov (.z 0))]
@[go_sem] def q16_1 : List AI := [
 .j 6 (.load 11 true (.t 1)),
 .j 7 (.call 37 [(.t 6)]),
 .j 4 (.mov (.t 7))]
@[go_sem] def q16_2 : List AI := [
 .j 8 (.mov (.t 4)),
 .j 9 (.bin .neq (.t 8) (.z 0))]
@[go_sem] def q16_3 : List AI := [
 .j 10 (.build [(.str []), (.int .i64 0), (.int .i64 0), (.bool false), (.int .i64 0), .nils, .nils, .nils, .nils, .nils, .nils] []),
 .j 11 (.mov (.t 4)),
 .e (.store 11 (.t 2) (.t 10)),
 .j 3 (.mov (.t 11))]
@[go_sem] def q16_4 : List AI := [
 .j 12 (.load 11 true (.t 1)),
 .j 13 (.call 14 [(.t 12)]),
 .j 14 (.call 8 [(.t 13)]),
 .j 15 (.call 9 [(.t 14)]),
 .j 5 (.box 160005 11 (.c (.agg [(.str []), (.int .i64 0), (.int .i64 0), (.bool false), (.int .i64 0), .nils, .nils, .nils, .nils, .nils, .nils]))),
 .e (.store 11 (.t 5) (.t 15))]
@[go_sem] def q16_5 : List AI := [
 .j 16 (.load 11 true (.t 1)),
 .j 17 (.load 11 true (.t 5)),
 .j 18 (.call 38 [(.t 16), (.t 17)])]
@[go_sem] def q16_6 : List AI := [
 .j 19 (.load 11 true (.t 5)),
 .e (.store 11 (.t 2) (.t 19)),
 .j 3 (.mov (.z 0))]
@[go_sem] def q16_7 : List AI := [
 .j 20 (.load 11 true (.t 5)),
 .e (.store 11 (.t 1) (.t 20))]
@[go_sem] def peephole_Proto_l0' : AC := .block 1 (.seq (.ops [q16_4]) (.seq (.seq (.ops [q16_5]) (.cond (.t 18) (.seq (.ops [q16_6]) (.ret)) (.skip))) (.ops [q16_7])))
def peephole_Proto_l0 : AC := peephole_Proto_l0'
theorem peephole_Proto_l0_eq : peephole_Proto_l0 = peephole_Proto_l0' := rfl
@[go_sem] def peephole_Proto_c : AC := .seq (.ops [q16_0]) (.seq (.seq (.ops [q16_1]) (.seq (.ops [q16_2]) (.cond (.t 9) (.seq (.ops [q16_3]) (.ret)) (.skip)))) (.block 0 (.loop peephole_Proto_l0)))
theorem peephole_Proto_ok : compF Tryz.prog 16 = some (21, peephole_Proto_c, [.c 2 11 true, .t 3]) := by kernel_rfl

@[go_sem] def q17_0 : List AI := [
 .j 2 (.box 170002 11 (.t 0)),
 .j 4 (.box 170004 11 (.c (.agg [(.str []), (.int .i64 0), (.int .i64 0), (.bool false), (.int .i64 0), .nils, .nils, .nils, .nils, .nils, .nils])))]
@[go_sem] def q17_1 : List AI := [
 .j 5 (.mov (.c .nils))]
@[go_sem] def q17_2 : List AI := [
 .j 10 (.faddr 8 (.t 2)),
 .j 11 (.load 1 false (.t 10)),
 .j 12 (.len 0 (.t 11)),
 .j 13 (.mov (.z 0))]
@[go_sem] def q17_3 : List AI := [
 .j 14 (.bin .lss (.t 13) (.t 12))]
@[go_sem] def q17_4 : List AI := [
 .j 15 (.iaddr 11 (.t 11) (.t 13)),
 .j 16 (.load 11 true (.t 15)),
 .j 7 (.box 170007 11 (.c (.agg [(.str []), (.int .i64 0), (.int .i64 0), (.bool false), (.int .i64 0), .nils, .nils, .nils, .nils, .nils, .nils]))),
 .e (.store 11 (.t 7) (.t 16))]
@[go_sem] def q17_5 : List AI := [
 .j 17 (.mov (.t 5)),
 .j 18 (.load 11 true (.t 7)),
 .j 19 (.mov (.t 1)),
 .j 20 (.call 17 [(.t 18), (.t 19)]),
 .j 21 (.mkisl 11 [(.t 20)]),
 .j 22 (.app 170022 11 (.t 17) (.t 21)),
 .j 5 (.mov (.t 22))]
@[go_sem] def q17_6 : List AI := [
 .j 23 (.bin .add (.t 13) (.z 1)),
 .j 13 (.mov (.t 23))]
@[go_sem] def peephole_each_l0' : AC := .seq (.ops [q17_3]) (.seq (.cond (.t 14) (.skip) (.exit 0)) (.seq (.block 1 (.seq (.ops [q17_4]) (.ops [q17_5]))) (.ops [q17_6])))
def peephole_each_l0 : AC := peephole_each_l0'
theorem peephole_each_l0_eq : peephole_each_l0 = peephole_each_l0' := rfl
@[go_sem] def q17_7 : List AI := [
 .j 24 (.load 11 true (.t 2)),
 .j 8 (.box 170008 11 (.c (.agg [(.str []), (.int .i64 0), (.int .i64 0), (.bool false), (.int .i64 0), .nils, .nils, .nils, .nils, .nils, .nils]))),
 .e (.store 11 (.t 8) (.t 24))]
@[go_sem] def q17_8 : List AI := [
 .j 25 (.faddr 8 (.t 2)),
 .j 26 (.load 1 false (.t 25)),
 .j 27 (.call 39 [(.t 26)]),
 .j 28 (.faddr 8 (.t 8)),
 .e (.store 1 (.t 28) (.t 27))]
@[go_sem] def q17_9 : List AI := [
 .j 29 (.load 11 true (.t 2)),
 .j 9 (.box 170009 11 (.c (.agg [(.str []), (.int .i64 0), (.int .i64 0), (.bool false), (.int .i64 0), .nils, .nils, .nils, .nils, .nils, .nils]))),
 .e (.store 11 (.t 9) (.t 29))]
@[go_sem] def q17_10 : List AI := [
 .j 30 (.load 11 true (.t 8)),
 .j 31 (.call 5 [(.t 30)]),
 .j 32 (.bin .eql (.t 31) (.z 0))]
@[go_sem] def q17_11 : List AI := [
 .j 33 (.mov (.t 1)),
 .j 34 (.load 11 true (.t 2)),
 .j 35 (.callv (.t 33) [(.t 34)]),
 .e (.store 11 (.t 9) (.t 35))]
@[go_sem] def q17_12 : List AI := [
 .j 36 (.mov (.t 5)),
 .j 37 (.faddr 8 (.t 9)),
 .e (.store 1 (.t 37) (.t 36))]
@[go_sem] def q17_13 : List AI := [
 .j 38 (.load 11 true (.t 9)),
 .e (.store 11 (.t 4) (.t 38))]
@[go_sem] def peephole_each_c : AC := .seq (.ops [q17_0]) (.seq (.ops [q17_1]) (.seq (.seq (.ops [q17_2]) (.block 0 (.loop peephole_each_l0))) (.seq (.ops [q17_7]) (.seq (.ops [q17_8]) (.seq (.ops [q17_9]) (.seq (.seq (.ops [q17_10]) (.cond (.t 32) (.ops [q17_11]) (.skip))) (.seq (.ops [q17_12]) (.seq (.ops [q17_13]) (.ret)))))))))
theorem peephole_each_ok : compF Tryz.prog 17 = some (39, peephole_each_c, [.c 4 11 true]) := by kernel_rfl

@[go_sem] def q18_0 : List AI := [
 .j 1 (.box 180001 11 (.t 0)),
 .j 2 (.box 180002 11 (.c (.agg [(.str []), (.int .i64 0), (.int .i64 0), (.bool false), (.int .i64 0), .nils, .nils, .nils, .nils, .nils, .nils])))]
@[go_sem] def q18_1 : List AI := [
 .j 4 (.load 11 true (.t 1)),
 .j 5 (.call 19 [(.t 4)]),
 .j 3 (.box 180003 1 (.c .nils)),
 .e (.store 1 (.t 3) (.t 5))]
@[go_sem] def q18_2 : List AI := [
 .j 6 (.load 11 true (.t 1)),
 .j 7 (.mkfn 21 [(.t 3)]),
 .j 8 (.call 20 [(.t 6), (.t 7)]),
 .e (.store 11 (.t 2) (.t 8))]
@[go_sem] def peephole_Dead_1_c : AC := .seq (.ops [q18_0]) (.seq (.ops [q18_1]) (.seq (.ops [q18_2]) (.ret)))
theorem peephole_Dead_1_ok : compF Tryz.prog 18 = some (9, peephole_Dead_1_c, [.c 2 11 true]) := by kernel_rfl

@[go_sem] def q19_0 : List AI := [
 .j 1 (.box 190001 11 (.t 0)),
 .j 2 (.mov (.c .nils))]
@[go_sem] def q19_1 : List AI := [
 .j 8 (.faddr 5 (.t 1)),
 .j 9 (.load 1 false (.t 8)),
 .j 10 (.len 0 (.t 9)),
 .j 11 (.mksl 190011 [(.bool false)] (.t 10)),
 .j 3 (.mov (.t 11))]
@[go_sem] def q19_2 : List AI := [
 .j 4 (.mov (.c .nils))]
@[go_sem] def q19_3 : List AI := [
 .j 12 (.mov (.t 3)),
 .j 13 (.len 0 (.t 12)),
 .j 14 (.bin .gtr (.t 13) (.z 0))]
@[go_sem] def q19_4 : List AI := [
 .j 15 (.mov (.t 3)),
 .j 16 (.iaddr 1 (.t 15) (.z 0)),
 .e (.store 1 (.t 16) (.c (.bool true)))]
@[go_sem] def q19_5 : List AI := [
 .j 17 (.mov (.t 4)),
 .j 18 (.mkisl 1 [(.z 0)]),
 .j 19 (.app 190019 1 (.t 17) (.t 18)),
 .j 4 (.mov (.t 19))]
@[go_sem] def q19_6 : List AI := [
 .j 20 (.mov (.t 4)),
 .j 21 (.len 0 (.t 20)),
 .j 22 (.bin .gtr (.t 21) (.z 0))]
@[go_sem] def q19_7 : List AI := [
 .j 23 (.mov (.t 4)),
 .j 24 (.mov (.t 4)),
 .j 25 (.len 0 (.t 24)),
 .j 26 (.bin .sub (.t 25) (.z 1)),
 .j 27 (.iaddr 1 (.t 23) (.t 26)),
 .j 28 (.load 1 false (.t 27)),
 .j 5 (.mov (.t 28))]
@[go_sem] def q19_8 : List AI := [
 .j 29 (.mov (.t 4)),
 .j 30 (.mov (.t 4)),
 .j 31 (.len 0 (.t 30)),
 .j 32 (.bin .sub (.t 31) (.z 1)),
 .j 33 (.slc 1 (.t 29) none (some (.t 32))),
 .j 4 (.mov (.t 33))]
@[go_sem] def q19_9 : List AI := [
 .j 34 (.load 11 true (.t 1)),
 .j 35 (.mov (.t 5)),
 .j 36 (.call 40 [(.t 34), (.t 35)]),
 .j 37 (.len 0 (.t 36)),
 .j 38 (.mov (.z 0))]
@[go_sem] def q19_10 : List AI := [
 .j 39 (.bin .lss (.t 38) (.t 37))]
@[go_sem] def q19_11 : List AI := [
 .j 40 (.iaddr 1 (.t 36) (.t 38)),
 .j 41 (.load 1 false (.t 40)),
 .j 7 (.mov (.t 41))]
@[go_sem] def q19_12 : List AI := [
 .j 42 (.mov (.t 3)),
 .j 43 (.mov (.t 7)),
 .j 44 (.iaddr 1 (.t 42) (.t 43)),
 .j 45 (.load 1 false (.t 44)),
 .j 46 (.un .not (.t 45))]
@[go_sem] def q19_13 : List AI := [
 .j 47 (.mov (.t 3)),
 .j 48 (.mov (.t 7)),
 .j 49 (.iaddr 1 (.t 47) (.t 48)),
 .e (.store 1 (.t 49) (.c (.bool true)))]
@[go_sem] def q19_14 : List AI := [
 .j 50 (.mov (.t 4)),
 .j 51 (.mov (.t 7)),
 .j 52 (.mkisl 1 [(.t 51)]),
 .j 53 (.app 190053 1 (.t 50) (.t 52)),
 .j 4 (.mov (.t 53))]
@[go_sem] def q19_15 : List AI := [
 .j 54 (.bin .add (.t 38) (.z 1)),
 .j 38 (.mov (.t 54))]
@[go_sem] def flow_Reach_l1' : AC := .seq (.ops [q19_10]) (.seq (.cond (.t 39) (.skip) (.exit 2)) (.seq (.block 3 (.seq (.ops [q19_11]) (.seq (.ops [q19_12]) (.cond (.t 46) (.seq (.ops [q19_13]) (.ops [q19_14])) (.skip))))) (.ops [q19_15])))
def flow_Reach_l1 : AC := flow_Reach_l1'
theorem flow_Reach_l1_eq : flow_Reach_l1 = flow_Reach_l1' := rfl
@[go_sem] def flow_Reach_l0' : AC := .seq (.seq (.ops [q19_6]) (.cond (.t 22) (.skip) (.exit 0))) (.block 1 (.seq (.ops [q19_7]) (.seq (.ops [q19_8]) (.seq (.ops [q19_9]) (.block 2 (.loop flow_Reach_l1))))))
def flow_Reach_l0 : AC := flow_Reach_l0'
theorem flow_Reach_l0_eq : flow_Reach_l0 = flow_Reach_l0' := rfl
@[go_sem] def q19_16 : List AI := [
 .j 55 (.mov (.t 3)),
 .j 2 (.mov (.t 55))]
@[go_sem] def flow_Reach_c : AC := .seq (.ops [q19_0]) (.seq (.ops [q19_1]) (.seq (.ops [q19_2]) (.seq (.seq (.ops [q19_3]) (.cond (.t 14) (.seq (.ops [q19_4]) (.ops [q19_5])) (.skip))) (.seq (.block 0 (.loop flow_Reach_l0)) (.seq (.ops [q19_16]) (.ret))))))
theorem flow_Reach_ok : compF Tryz.prog 19 = some (56, flow_Reach_c, [.t 2]) := by kernel_rfl

@[go_sem] def q20_0 : List AI := [
 .j 2 (.box 200002 11 (.t 0)),
 .j 4 (.box 200004 11 (.c (.agg [(.str []), (.int .i64 0), (.int .i64 0), (.bool false), (.int .i64 0), .nils, .nils, .nils, .nils, .nils, .nils])))]
@[go_sem] def q20_1 : List AI := [
 .j 17 (.faddr 5 (.t 2)),
 .j 18 (.load 1 false (.t 17)),
 .j 19 (.len 0 (.t 18)),
 .j 20 (.bin .add (.t 19) (.z 1)),
 .j 21 (.mksl 200021 [(.int .i64 0)] (.t 20)),
 .j 5 (.mov (.t 21))]
@[go_sem] def q20_2 : List AI := [
 .j 6 (.mov (.c .nils))]
@[go_sem] def q20_3 : List AI := [
 .j 7 (.mov (.c .nils))]
@[go_sem] def q20_4 : List AI := [
 .j 22 (.faddr 5 (.t 2)),
 .j 23 (.load 1 false (.t 22)),
 .j 24 (.len 0 (.t 23)),
 .j 25 (.mov (.z 0))]
@[go_sem] def q20_5 : List AI := [
 .j 26 (.bin .lss (.t 25) (.t 24))]
@[go_sem] def q20_6 : List AI := [
 .j 27 (.mov (.t 25)),
 .j 28 (.iaddr 5 (.t 23) (.t 25)),
 .j 29 (.load 5 true (.t 28)),
 .j 9 (.box 200009 5 (.c (.agg [(.int .i64 0), (.int .i64 0), (.int .i64 0), (.int .i64 0), (.int .i64 0)]))),
 .j 8 (.mov (.t 27)),
 .e (.store 5 (.t 9) (.t 29))]
@[go_sem] def q20_7 : List AI := [
 .j 30 (.mov (.t 5)),
 .j 31 (.mov (.t 8)),
 .j 32 (.mov (.t 6)),
 .j 33 (.len 0 (.t 32)),
 .j 34 (.iaddr 1 (.t 30) (.t 31)),
 .e (.store 1 (.t 34) (.t 33))]
@[go_sem] def q20_8 : List AI := [
 .j 35 (.mov (.t 1)),
 .j 36 (.mov (.t 8)),
 .j 37 (.callv (.t 35) [(.t 36)])]
@[go_sem] def q20_9 : List AI := [
 .j 38 (.mov (.t 6)),
 .j 39 (.load 5 true (.t 9)),
 .j 40 (.mkisl 5 [(.t 39)]),
 .j 41 (.app 200041 5 (.t 38) (.t 40)),
 .j 6 (.mov (.t 41))]
@[go_sem] def q20_10 : List AI := [
 .j 42 (.faddr 6 (.t 2)),
 .j 43 (.load 1 false (.t 42)),
 .j 44 (.len 0 (.t 43)),
 .j 45 (.bin .gtr (.t 44) (.z 0))]
@[go_sem] def q20_11 : List AI := [
 .j 46 (.mov (.t 7)),
 .j 47 (.faddr 6 (.t 2)),
 .j 48 (.load 1 false (.t 47)),
 .j 49 (.mov (.t 8)),
 .j 50 (.iaddr 1 (.t 48) (.t 49)),
 .j 51 (.load 1 false (.t 50)),
 .j 52 (.mkisl 1 [(.t 51)]),
 .j 53 (.app 200053 1 (.t 46) (.t 52)),
 .j 7 (.mov (.t 53))]
@[go_sem] def q20_12 : List AI := [
 .j 54 (.bin .add (.t 25) (.z 1)),
 .j 25 (.mov (.t 54))]
@[go_sem] def peephole_remove_l0' : AC := .seq (.ops [q20_5]) (.seq (.cond (.t 26) (.skip) (.exit 0)) (.seq (.block 1 (.seq (.ops [q20_6]) (.seq (.ops [q20_7]) (.seq (.seq (.ops [q20_8]) (.cond (.t 37) (.exit 1) (.skip))) (.seq (.ops [q20_9]) (.seq (.ops [q20_10]) (.cond (.t 45) (.ops [q20_11]) (.skip)))))))) (.ops [q20_12])))
def peephole_remove_l0 : AC := peephole_remove_l0'
theorem peephole_remove_l0_eq : peephole_remove_l0 = peephole_remove_l0' := rfl
@[go_sem] def q20_13 : List AI := [
 .j 55 (.mov (.t 5)),
 .j 56 (.faddr 5 (.t 2)),
 .j 57 (.load 1 false (.t 56)),
 .j 58 (.len 0 (.t 57)),
 .j 59 (.mov (.t 6)),
 .j 60 (.len 0 (.t 59)),
 .j 61 (.iaddr 1 (.t 55) (.t 58)),
 .e (.store 1 (.t 61) (.t 60))]
@[go_sem] def q20_14 : List AI := [
 .j 62 (.mov (.t 6)),
 .j 63 (.len 0 (.t 62)),
 .j 64 (.mov (.z 0))]
@[go_sem] def q20_15 : List AI := [
 .j 65 (.bin .lss (.t 64) (.t 63))]
@[go_sem] def q20_16 : List AI := [
 .j 66 (.mov (.t 64)),
 .j 67 (.iaddr 5 (.t 62) (.t 64)),
 .j 68 (.load 5 true (.t 67)),
 .j 11 (.box 200011 5 (.c (.agg [(.int .i64 0), (.int .i64 0), (.int .i64 0), (.int .i64 0), (.int .i64 0)]))),
 .j 10 (.mov (.t 66)),
 .e (.store 5 (.t 11) (.t 68))]
@[go_sem] def q20_17 : List AI := [
 .j 70 (.load 5 true (.t 11)),
 .j 71 (.call 35 [(.t 70)]),
 .j 69 (.mov (.t 71)),
 .j 72 (.ext 0 (.t 69)),
 .j 73 (.ext 1 (.t 69)),
 .j 12 (.mov (.t 72)),
 .j 13 (.mov (.t 73))]
@[go_sem] def q20_18 : List AI := [
 .j 74 (.mov (.t 13))]
@[go_sem] def q20_19 : List AI := [
 .j 75 (.mov (.t 6)),
 .j 76 (.mov (.t 10)),
 .j 77 (.mov (.t 5)),
 .j 78 (.mov (.t 12)),
 .j 79 (.iaddr 1 (.t 77) (.t 78)),
 .j 80 (.load 1 false (.t 79)),
 .j 81 (.iaddr 5 (.t 75) (.t 76)),
 .j 82 (.faddr 2 (.t 81)),
 .e (.store 1 (.t 82) (.t 80))]
@[go_sem] def q20_20 : List AI := [
 .j 83 (.bin .add (.t 64) (.z 1)),
 .j 64 (.mov (.t 83))]
@[go_sem] def peephole_remove_l1' : AC := .seq (.ops [q20_15]) (.seq (.cond (.t 65) (.skip) (.exit 2)) (.seq (.block 3 (.seq (.ops [q20_16]) (.seq (.ops [q20_17]) (.seq (.ops [q20_18]) (.cond (.t 74) (.ops [q20_19]) (.skip)))))) (.ops [q20_20])))
def peephole_remove_l1 : AC := peephole_remove_l1'
theorem peephole_remove_l1_eq : peephole_remove_l1 = peephole_remove_l1' := rfl
@[go_sem] def q20_21 : List AI := [
 .j 14 (.mov (.c .nils))]
@[go_sem] def q20_22 : List AI := [
 .j 84 (.faddr 10 (.t 2)),
 .j 85 (.load 1 false (.t 84)),
 .j 86 (.len 0 (.t 85)),
 .j 87 (.mov (.z 0))]
@[go_sem] def q20_23 : List AI := [
 .j 88 (.bin .lss (.t 87) (.t 86))]
@[go_sem] def q20_24 : List AI := [
 .j 89 (.iaddr 5 (.t 85) (.t 87)),
 .j 90 (.load 5 true (.t 89)),
 .j 16 (.box 200016 5 (.c (.agg [(.str []), (.int .i64 0), (.int .i64 0), (.int .i64 0), (.int .i64 0)]))),
 .e (.store 5 (.t 16) (.t 90))]
@[go_sem] def q20_25_0 : List AI := [
 .j 91 (.mov (.t 5)),
 .j 92 (.faddr 2 (.t 16)),
 .j 93 (.load 1 false (.t 92)),
 .j 94 (.iaddr 1 (.t 91) (.t 93)),
 .j 95 (.load 1 false (.t 94)),
 .j 96 (.mov (.t 5)),
 .j 97 (.faddr 3 (.t 16)),
 .j 98 (.load 1 false (.t 97)),
 .j 99 (.iaddr 1 (.t 96) (.t 98)),
 .j 100 (.load 1 false (.t 99)),
 .j 101 (.faddr 2 (.t 16)),
 .e (.store 1 (.t 101) (.t 95)),
 .j 102 (.faddr 3 (.t 16)),
 .e (.store 1 (.t 102) (.t 100))]
@[go_sem] def q20_25_1 : List AI := [
 .j 91 (.mov (.t 5)),
 .j 92 (.faddr 2 (.t 16)),
 .j 93 (.load 1 false (.t 92)),
 .j 94 (.iaddr 1 (.t 91) (.t 93)),
 .j 95 (.load 1 false (.t 94)),
 .j 96 (.mov (.t 5)),
 .j 97 (.faddr 3 (.t 16)),
 .j 98 (.load 1 false (.t 97)),
 .j 99 (.iaddr 1 (.t 96) (.t 98)),
 .j 101 (.faddr 2 (.t 16)),
 .e (.store 1 (.t 101) (.t 95)),
 .j 100 (.load 1 false (.t 99)),
 .j 102 (.faddr 3 (.t 16)),
 .e (.store 1 (.t 102) (.t 100))]
@[go_sem] def q20_25_2 : List AI := [
 .j 91 (.mov (.t 5)),
 .j 92 (.faddr 2 (.t 16)),
 .j 93 (.load 1 false (.t 92)),
 .j 94 (.iaddr 1 (.t 91) (.t 93)),
 .j 95 (.load 1 false (.t 94)),
 .j 96 (.mov (.t 5)),
 .j 97 (.faddr 3 (.t 16)),
 .j 98 (.load 1 false (.t 97)),
 .j 101 (.faddr 2 (.t 16)),
 .e (.store 1 (.t 101) (.t 95)),
 .j 99 (.iaddr 1 (.t 96) (.t 98)),
 .j 100 (.load 1 false (.t 99)),
 .j 102 (.faddr 3 (.t 16)),
 .e (.store 1 (.t 102) (.t 100))]
@[go_sem] def q20_26 : List AI := [
 .j 103 (.faddr 2 (.t 16)),
 .j 104 (.load 1 false (.t 103)),
 .j 105 (.faddr 3 (.t 16)),
 .j 106 (.load 1 false (.t 105)),
 .j 107 (.bin .neq (.t 104) (.t 106))]
@[go_sem] def q20_27 : List AI := [
 .j 108 (.mov (.t 14)),
 .j 109 (.load 5 true (.t 16)),
 .j 110 (.mkisl 5 [(.t 109)]),
 .j 111 (.app 200111 5 (.t 108) (.t 110)),
 .j 14 (.mov (.t 111))]
@[go_sem] def q20_28 : List AI := [
 .j 112 (.bin .add (.t 87) (.z 1)),
 .j 87 (.mov (.t 112))]
@[go_sem] def peephole_remove_l2' : AC := .seq (.ops [q20_23]) (.seq (.cond (.t 88) (.skip) (.exit 4)) (.seq (.block 5 (.seq (.ops [q20_24]) (.seq (.ops [q20_25_0, q20_25_1, q20_25_2]) (.seq (.ops [q20_26]) (.cond (.t 107) (.ops [q20_27]) (.skip)))))) (.ops [q20_28])))
def peephole_remove_l2 : AC := peephole_remove_l2'
theorem peephole_remove_l2_eq : peephole_remove_l2 = peephole_remove_l2' := rfl
@[go_sem] def q20_29 : List AI := [
 .j 113 (.mov (.t 6)),
 .j 114 (.mov (.t 7)),
 .j 115 (.mov (.t 14)),
 .j 116 (.faddr 5 (.t 2)),
 .e (.store 1 (.t 116) (.t 113)),
 .j 117 (.faddr 6 (.t 2)),
 .e (.store 1 (.t 117) (.t 114)),
 .j 118 (.faddr 10 (.t 2)),
 .e (.store 1 (.t 118) (.t 115))]
@[go_sem] def q20_30 : List AI := [
 .j 119 (.load 11 true (.t 2)),
 .e (.store 11 (.t 4) (.t 119))]
@[go_sem] def peephole_remove_c : AC := .seq (.ops [q20_0]) (.seq (.ops [q20_1]) (.seq (.ops [q20_2]) (.seq (.ops [q20_3]) (.seq (.seq (.ops [q20_4]) (.block 0 (.loop peephole_remove_l0))) (.seq (.ops [q20_13]) (.seq (.seq (.ops [q20_14]) (.block 2 (.loop peephole_remove_l1))) (.seq (.ops [q20_21]) (.seq (.seq (.ops [q20_22]) (.block 4 (.loop peephole_remove_l2))) (.seq (.ops [q20_29]) (.seq (.ops [q20_30]) (.ret)))))))))))
theorem peephole_remove_ok : compF Tryz.prog 20 = some (120, peephole_remove_c, [.c 4 11 true]) := by kernel_rfl

@[go_sem] def q21_0 : List AI := [
 .j 3 (.mov (.c (.bool false)))]
@[go_sem] def q21_1 : List AI := [
 .j 4 (.load 1 false (.t 1)),
 .j 5 (.mov (.t 0)),
 .j 6 (.iaddr 1 (.t 4) (.t 5)),
 .j 7 (.load 1 false (.t 6)),
 .j 8 (.un .not (.t 7)),
 .j 3 (.mov (.t 8))]
@[go_sem] def peephole_Dead_1_1_c : AC := .seq (.ops [q21_0]) (.seq (.ops [q21_1]) (.ret))
theorem peephole_Dead_1_1_ok : compF Tryz.prog 21 = some (9, peephole_Dead_1_1_c, [.t 3]) := by kernel_rfl

@[go_sem] def q22_0 : List AI := [
 .j 1 (.box 220001 11 (.t 0)),
 .j 2 (.box 220002 11 (.c (.agg [(.str []), (.int .i64 0), (.int .i64 0), (.bool false), (.int .i64 0), .nils, .nils, .nils, .nils, .nils, .nils])))]
@[go_sem] def q22_1 : List AI := [
 .j 4 (.load 11 true (.t 1)),
 .j 5 (.call 23 [(.t 4)]),
 .j 3 (.box 220003 1 (.c .nils)),
 .e (.store 1 (.t 3) (.t 5))]
@[go_sem] def q22_2 : List AI := [
 .j 6 (.load 11 true (.t 1)),
 .j 7 (.mkfn 24 [(.t 1), (.t 3)]),
 .j 8 (.call 20 [(.t 6), (.t 7)]),
 .e (.store 11 (.t 2) (.t 8))]
@[go_sem] def peephole_Moves_1_c : AC := .seq (.ops [q22_0]) (.seq (.ops [q22_1]) (.seq (.ops [q22_2]) (.ret)))
theorem peephole_Moves_1_ok : compF Tryz.prog 22 = some (9, peephole_Moves_1_c, [.c 2 11 true]) := by kernel_rfl

@[go_sem] def q23_0 : List AI := [
 .j 1 (.box 230001 11 (.t 0)),
 .j 2 (.mov (.c .nils))]
@[go_sem] def q23_1 : List AI := [
 .j 23 (.load 11 true (.t 1)),
 .j 24 (.call 41 [(.t 23)]),
 .j 3 (.mov (.t 24))]
@[go_sem] def q23_2 : List AI := [
 .j 25 (.faddr 5 (.t 1)),
 .j 26 (.load 1 false (.t 25)),
 .j 27 (.len 0 (.t 26)),
 .j 28 (.mksl 230028 [.nils] (.t 27)),
 .j 4 (.mov (.t 28))]
@[go_sem] def q23_3 : List AI := [
 .j 29 (.faddr 5 (.t 1)),
 .j 30 (.load 1 false (.t 29)),
 .j 31 (.len 0 (.t 30)),
 .j 32 (.mksl 230032 [.nilp] (.t 31)),
 .j 5 (.mov (.t 32))]
@[go_sem] def q23_4 : List AI := [
 .j 33 (.faddr 5 (.t 1)),
 .j 34 (.load 1 false (.t 33)),
 .j 35 (.len 0 (.t 34)),
 .j 36 (.mksl 230036 [.nils] (.t 35)),
 .j 6 (.mov (.t 36))]
@[go_sem] def q23_5 : List AI := [
 .j 37 (.faddr 5 (.t 1)),
 .j 38 (.load 1 false (.t 37)),
 .j 39 (.len 0 (.t 38)),
 .j 40 (.mov (.z 0))]
@[go_sem] def q23_6 : List AI := [
 .j 41 (.bin .lss (.t 40) (.t 39))]
@[go_sem] def q23_7 : List AI := [
 .j 42 (.mov (.t 40)),
 .j 43 (.iaddr 5 (.t 38) (.t 40)),
 .j 44 (.load 5 true (.t 43)),
 .j 8 (.box 230008 5 (.c (.agg [(.int .i64 0), (.int .i64 0), (.int .i64 0), (.int .i64 0), (.int .i64 0)]))),
 .j 7 (.mov (.t 42)),
 .e (.store 5 (.t 8) (.t 44))]
@[go_sem] def q23_8 : List AI := [
 .j 45 (.mov (.t 4)),
 .j 46 (.mov (.t 7)),
 .j 47 (.mov (.t 3)),
 .j 48 (.mksl 230048 [(.bool false)] (.t 47)),
 .j 49 (.iaddr 1 (.t 45) (.t 46)),
 .e (.store 1 (.t 49) (.t 48))]
@[go_sem] def q23_9 : List AI := [
 .j 50 (.mov (.t 5)),
 .j 51 (.mov (.t 7)),
 .j 52 (.load 11 true (.t 1)),
 .j 53 (.load 5 true (.t 8)),
 .j 54 (.call 42 [(.t 52), (.t 53)]),
 .j 55 (.iaddr 1 (.t 50) (.t 51)),
 .e (.store 1 (.t 55) (.t 54))]
@[go_sem] def q23_10 : List AI := [
 .j 56 (.load 11 true (.t 1)),
 .j 57 (.mov (.t 7)),
 .j 58 (.call 40 [(.t 56), (.t 57)]),
 .j 59 (.len 0 (.t 58)),
 .j 60 (.mov (.z 0))]
@[go_sem] def q23_11 : List AI := [
 .j 61 (.bin .lss (.t 60) (.t 59))]
@[go_sem] def q23_12 : List AI := [
 .j 62 (.iaddr 1 (.t 58) (.t 60)),
 .j 63 (.load 1 false (.t 62)),
 .j 10 (.mov (.t 63))]
@[go_sem] def q23_13_0 : List AI := [
 .j 64 (.mov (.t 6)),
 .j 65 (.mov (.t 7)),
 .j 66 (.mov (.t 6)),
 .j 67 (.mov (.t 7)),
 .j 68 (.iaddr 1 (.t 66) (.t 67)),
 .j 69 (.load 1 false (.t 68)),
 .j 70 (.load 11 true (.t 1)),
 .j 71 (.mov (.t 7)),
 .j 72 (.mov (.t 10)),
 .j 73 (.call 43 [(.t 70), (.t 71), (.t 72)]),
 .j 74 (.mkisl 1 [(.t 73)]),
 .j 75 (.app 230075 1 (.t 69) (.t 74)),
 .j 76 (.iaddr 1 (.t 64) (.t 65)),
 .e (.store 1 (.t 76) (.t 75))]
@[go_sem] def q23_13_1 : List AI := [
 .j 64 (.mov (.t 6)),
 .j 65 (.mov (.t 7)),
 .j 66 (.mov (.t 6)),
 .j 67 (.mov (.t 7)),
 .j 68 (.iaddr 1 (.t 66) (.t 67)),
 .j 70 (.load 11 true (.t 1)),
 .j 71 (.mov (.t 7)),
 .j 72 (.mov (.t 10)),
 .j 73 (.call 43 [(.t 70), (.t 71), (.t 72)]),
 .j 69 (.load 1 false (.t 68)),
 .j 74 (.mkisl 1 [(.t 73)]),
 .j 75 (.app 230075 1 (.t 69) (.t 74)),
 .j 76 (.iaddr 1 (.t 64) (.t 65)),
 .e (.store 1 (.t 76) (.t 75))]
@[go_sem] def q23_13_2 : List AI := [
 .j 64 (.mov (.t 6)),
 .j 65 (.mov (.t 7)),
 .j 66 (.mov (.t 6)),
 .j 67 (.mov (.t 7)),
 .j 70 (.load 11 true (.t 1)),
 .j 71 (.mov (.t 7)),
 .j 72 (.mov (.t 10)),
 .j 73 (.call 43 [(.t 70), (.t 71), (.t 72)]),
 .j 68 (.iaddr 1 (.t 66) (.t 67)),
 .j 69 (.load 1 false (.t 68)),
 .j 74 (.mkisl 1 [(.t 73)]),
 .j 75 (.app 230075 1 (.t 69) (.t 74)),
 .j 76 (.iaddr 1 (.t 64) (.t 65)),
 .e (.store 1 (.t 76) (.t 75))]
@[go_sem] def q23_14 : List AI := [
 .j 77 (.bin .add (.t 60) (.z 1)),
 .j 60 (.mov (.t 77))]
@[go_sem] def flow_Live_l1' : AC := .seq (.ops [q23_11]) (.seq (.cond (.t 61) (.skip) (.exit 2)) (.seq (.block 3 (.seq (.ops [q23_12]) (.ops [q23_13_0, q23_13_1, q23_13_2]))) (.ops [q23_14])))
def flow_Live_l1 : AC := flow_Live_l1'
theorem flow_Live_l1_eq : flow_Live_l1 = flow_Live_l1' := rfl
@[go_sem] def q23_15 : List AI := [
 .j 78 (.bin .add (.t 40) (.z 1)),
 .j 40 (.mov (.t 78))]
@[go_sem] def flow_Live_l0' : AC := .seq (.ops [q23_6]) (.seq (.cond (.t 41) (.skip) (.exit 0)) (.seq (.block 1 (.seq (.ops [q23_7]) (.seq (.ops [q23_8]) (.seq (.ops [q23_9]) (.seq (.ops [q23_10]) (.block 2 (.loop flow_Live_l1))))))) (.ops [q23_15])))
def flow_Live_l0 : AC := flow_Live_l0'
theorem flow_Live_l0_eq : flow_Live_l0 = flow_Live_l0' := rfl
@[go_sem] def q23_16 : List AI := [
 .j 11 (.mov (.c (.bool true)))]
@[go_sem] def q23_17 : List AI := [
 .j 79 (.mov (.t 11))]
@[go_sem] def q23_18 : List AI := [
 .j 11 (.mov (.c (.bool false)))]
@[go_sem] def q23_19 : List AI := [
 .j 80 (.faddr 5 (.t 1)),
 .j 81 (.load 1 false (.t 80)),
 .j 82 (.len 0 (.t 81)),
 .j 83 (.bin .sub (.t 82) (.z 1)),
 .j 12 (.mov (.t 83))]
@[go_sem] def q23_20 : List AI := [
 .j 84 (.mov (.t 12)),
 .j 85 (.bin .geq (.t 84) (.z 0))]
@[go_sem] def q23_21 : List AI := [
 .j 88 (.mov (.t 5)),
 .j 89 (.mov (.t 12)),
 .j 90 (.iaddr 1 (.t 88) (.t 89)),
 .j 91 (.load 1 false (.t 90)),
 .j 92 (.mov (.t 6)),
 .j 93 (.mov (.t 12)),
 .j 94 (.iaddr 1 (.t 92) (.t 93)),
 .j 95 (.load 1 false (.t 94)),
 .j 13 (.mov (.t 91)),
 .j 14 (.mov (.t 95))]
@[go_sem] def q23_22 : List AI := [
 .j 96 (.load 11 true (.t 1)),
 .j 97 (.mov (.t 12)),
 .j 98 (.call 40 [(.t 96), (.t 97)]),
 .j 15 (.mov (.t 98))]
@[go_sem] def q23_23 : List AI := [
 .j 99 (.mov (.t 3)),
 .j 100 (.mov (.z 0))]
@[go_sem] def q23_24 : List AI := [
 .j 101 (.bin .lss (.t 100) (.t 99))]
@[go_sem] def q23_25 : List AI := [
 .j 102 (.mov (.t 100)),
 .j 16 (.mov (.t 102))]
@[go_sem] def q23_26 : List AI := [
 .j 103 (.mov (.t 13)),
 .j 104 (.mov (.t 16)),
 .j 105 (.nilck (.t 103)),
 .j 106 (.iaddrA 4096 1 (.t 105) (.t 104)),
 .j 107 (.load 1 false (.t 106)),
 .j 17 (.mov (.t 107))]
@[go_sem] def q23_27 : List AI := [
 .j 108 (.mov (.t 15)),
 .j 109 (.len 0 (.t 108)),
 .j 110 (.mov (.z 0))]
@[go_sem] def q23_28 : List AI := [
 .j 111 (.bin .lss (.t 110) (.t 109))]
@[go_sem] def q23_29 : List AI := [
 .j 112 (.mov (.t 110)),
 .j 113 (.iaddr 1 (.t 108) (.t 110)),
 .j 114 (.load 1 false (.t 113)),
 .j 18 (.mov (.t 112)),
 .j 19 (.mov (.t 114))]
@[go_sem] def q23_30 : List AI := [
 .j 115 (.mov (.t 17)),
 .j 116 (.mov (.t 115)),
 .k 117 116 false (.mov (.t 14)),
 .k 118 116 false (.mov (.t 18)),
 .k 119 116 false (.iaddr 1 (.t 117) (.t 118)),
 .k 120 116 false (.load 1 false (.t 119)),
 .k 121 116 false (.mov (.t 16)),
 .k 122 116 false (.nilck (.t 120)),
 .k 123 116 false (.iaddrA 4096 1 (.t 122) (.t 121)),
 .k 124 116 false (.load 1 false (.t 123)),
 .k 125 116 false (.un .not (.t 124)),
 .k 126 116 false (.mov (.t 125)),
 .k 127 126 true (.mov (.t 4)),
 .k 128 126 true (.mov (.t 19)),
 .k 129 126 true (.iaddr 1 (.t 127) (.t 128)),
 .k 130 126 true (.load 1 false (.t 129)),
 .k 131 126 true (.mov (.t 16)),
 .k 132 126 true (.iaddr 1 (.t 130) (.t 131)),
 .k 133 126 true (.load 1 false (.t 132)),
 .k 134 116 false (.pick (.t 126) (.t 133) (.c (.bool false))),
 .j 135 (.pick (.t 116) (.c (.bool true)) (.t 134)),
 .j 17 (.mov (.t 135))]
@[go_sem] def q23_31 : List AI := [
 .j 136 (.bin .add (.t 110) (.z 1)),
 .j 110 (.mov (.t 136))]
@[go_sem] def flow_Live_l5' : AC := .seq (.ops [q23_28]) (.seq (.cond (.t 111) (.skip) (.exit 10)) (.seq (.block 11 (.seq (.ops [q23_29]) (.ops [q23_30]))) (.ops [q23_31])))
def flow_Live_l5 : AC := flow_Live_l5'
theorem flow_Live_l5_eq : flow_Live_l5 = flow_Live_l5' := rfl
@[go_sem] def q23_32 : List AI := [
 .j 137 (.mov (.t 17)),
 .j 138 (.mov (.t 137)),
 .k 139 138 true (.mov (.t 4)),
 .k 140 138 true (.mov (.t 12)),
 .k 141 138 true (.iaddr 1 (.t 139) (.t 140)),
 .k 142 138 true (.load 1 false (.t 141)),
 .k 143 138 true (.mov (.t 16)),
 .k 144 138 true (.iaddr 1 (.t 142) (.t 143)),
 .k 145 138 true (.load 1 false (.t 144)),
 .k 146 138 true (.un .not (.t 145)),
 .j 147 (.pick (.t 138) (.t 146) (.c (.bool false)))]
@[go_sem] def q23_33 : List AI := [
 .j 148 (.mov (.t 4)),
 .j 149 (.mov (.t 12)),
 .j 150 (.iaddr 1 (.t 148) (.t 149)),
 .j 151 (.load 1 false (.t 150)),
 .j 152 (.mov (.t 16)),
 .j 153 (.iaddr 1 (.t 151) (.t 152)),
 .e (.store 1 (.t 153) (.c (.bool true)))]
@[go_sem] def q23_34 : List AI := [
 .j 11 (.mov (.c (.bool true)))]
@[go_sem] def q23_35 : List AI := [
 .j 154 (.bin .add (.t 100) (.z 1)),
 .j 100 (.mov (.t 154))]
@[go_sem] def flow_Live_l4' : AC := .seq (.ops [q23_24]) (.seq (.cond (.t 101) (.skip) (.exit 8)) (.seq (.block 9 (.seq (.ops [q23_25]) (.seq (.ops [q23_26]) (.seq (.seq (.ops [q23_27]) (.block 10 (.loop flow_Live_l5))) (.seq (.ops [q23_32]) (.cond (.t 147) (.seq (.ops [q23_33]) (.ops [q23_34])) (.skip))))))) (.ops [q23_35])))
def flow_Live_l4 : AC := flow_Live_l4'
theorem flow_Live_l4_eq : flow_Live_l4 = flow_Live_l4' := rfl
@[go_sem] def q23_36 : List AI := [
 .j 86 (.mov (.t 12)),
 .j 87 (.bin .sub (.t 86) (.z 1)),
 .j 12 (.mov (.t 87))]
@[go_sem] def flow_Live_l3' : AC := .seq (.seq (.ops [q23_20]) (.cond (.t 85) (.skip) (.exit 6))) (.seq (.block 7 (.seq (.ops [q23_21]) (.seq (.ops [q23_22]) (.seq (.ops [q23_23]) (.block 8 (.loop flow_Live_l4)))))) (.ops [q23_36]))
def flow_Live_l3 : AC := flow_Live_l3'
theorem flow_Live_l3_eq : flow_Live_l3 = flow_Live_l3' := rfl
@[go_sem] def flow_Live_l2' : AC := .seq (.seq (.ops [q23_17]) (.cond (.t 79) (.skip) (.exit 4))) (.block 5 (.seq (.ops [q23_18]) (.seq (.ops [q23_19]) (.block 6 (.loop flow_Live_l3)))))
def flow_Live_l2 : AC := flow_Live_l2'
theorem flow_Live_l2_eq : flow_Live_l2 = flow_Live_l2' := rfl
@[go_sem] def q23_37 : List AI := [
 .j 155 (.faddr 5 (.t 1)),
 .j 156 (.load 1 false (.t 155)),
 .j 157 (.len 0 (.t 156)),
 .j 158 (.mksl 230158 [.nils] (.t 157)),
 .j 20 (.mov (.t 158))]
@[go_sem] def q23_38 : List AI := [
 .j 159 (.mov (.t 20)),
 .j 160 (.len 0 (.t 159)),
 .j 161 (.mov (.z 0))]
@[go_sem] def q23_39 : List AI := [
 .j 162 (.bin .lss (.t 161) (.t 160))]
@[go_sem] def q23_40 : List AI := [
 .j 163 (.mov (.t 161)),
 .j 21 (.mov (.t 163))]
@[go_sem] def q23_41 : List AI := [
 .j 164 (.mov (.t 3)),
 .j 165 (.mov (.z 0))]
@[go_sem] def q23_42 : List AI := [
 .j 166 (.bin .lss (.t 165) (.t 164))]
@[go_sem] def q23_43 : List AI := [
 .j 167 (.mov (.t 165)),
 .j 22 (.mov (.t 167))]
@[go_sem] def q23_44 : List AI := [
 .j 168 (.mov (.t 4)),
 .j 169 (.mov (.t 21)),
 .j 170 (.iaddr 1 (.t 168) (.t 169)),
 .j 171 (.load 1 false (.t 170)),
 .j 172 (.mov (.t 22)),
 .j 173 (.iaddr 1 (.t 171) (.t 172)),
 .j 174 (.load 1 false (.t 173))]
@[go_sem] def q23_45 : List AI := [
 .j 175 (.mov (.t 20)),
 .j 176 (.mov (.t 21)),
 .j 177 (.mov (.t 20)),
 .j 178 (.mov (.t 21)),
 .j 179 (.iaddr 1 (.t 177) (.t 178)),
 .j 180 (.load 1 false (.t 179)),
 .j 181 (.mov (.t 22)),
 .j 182 (.mkisl 1 [(.t 181)]),
 .j 183 (.app 230183 1 (.t 180) (.t 182)),
 .j 184 (.iaddr 1 (.t 175) (.t 176)),
 .e (.store 1 (.t 184) (.t 183))]
@[go_sem] def q23_46 : List AI := [
 .j 185 (.bin .add (.t 165) (.z 1)),
 .j 165 (.mov (.t 185))]
@[go_sem] def flow_Live_l7' : AC := .seq (.ops [q23_42]) (.seq (.cond (.t 166) (.skip) (.exit 14)) (.seq (.block 15 (.seq (.ops [q23_43]) (.seq (.ops [q23_44]) (.cond (.t 174) (.ops [q23_45]) (.skip))))) (.ops [q23_46])))
def flow_Live_l7 : AC := flow_Live_l7'
theorem flow_Live_l7_eq : flow_Live_l7 = flow_Live_l7' := rfl
@[go_sem] def q23_47 : List AI := [
 .j 186 (.bin .add (.t 161) (.z 1)),
 .j 161 (.mov (.t 186))]
@[go_sem] def flow_Live_l6' : AC := .seq (.ops [q23_39]) (.seq (.cond (.t 162) (.skip) (.exit 12)) (.seq (.block 13 (.seq (.ops [q23_40]) (.seq (.ops [q23_41]) (.block 14 (.loop flow_Live_l7))))) (.ops [q23_47])))
def flow_Live_l6 : AC := flow_Live_l6'
theorem flow_Live_l6_eq : flow_Live_l6 = flow_Live_l6' := rfl
@[go_sem] def q23_48 : List AI := [
 .j 187 (.mov (.t 20)),
 .j 2 (.mov (.t 187))]
@[go_sem] def flow_Live_c : AC := .seq (.ops [q23_0]) (.seq (.ops [q23_1]) (.seq (.ops [q23_2]) (.seq (.ops [q23_3]) (.seq (.ops [q23_4]) (.seq (.seq (.ops [q23_5]) (.block 0 (.loop flow_Live_l0))) (.seq (.seq (.ops [q23_16]) (.block 4 (.loop flow_Live_l2))) (.seq (.ops [q23_37]) (.seq (.seq (.ops [q23_38]) (.block 12 (.loop flow_Live_l6))) (.seq (.ops [q23_48]) (.ret))))))))))
theorem flow_Live_ok : compF Tryz.prog 23 = some (188, flow_Live_c, [.t 2]) := by kernel_rfl

@[go_sem] def q24_0 : List AI := [
 .j 4 (.mov (.c (.bool false)))]
@[go_sem] def q24_1 : List AI := [
 .j 6 (.faddr 5 (.t 1)),
 .j 7 (.load 1 false (.t 6)),
 .j 8 (.mov (.t 0)),
 .j 9 (.iaddr 5 (.t 7) (.t 8)),
 .j 10 (.load 5 true (.t 9)),
 .j 5 (.box 240005 5 (.c (.agg [(.int .i64 0), (.int .i64 0), (.int .i64 0), (.int .i64 0), (.int .i64 0)]))),
 .e (.store 5 (.t 5) (.t 10))]
@[go_sem] def q24_2 : List AI := [
 .j 11 (.faddr 0 (.t 5)),
 .j 12 (.load 1 false (.t 11)),
 .j 13 (.bin .neq (.t 12) (.z 1)),
 .j 14 (.mov (.t 13)),
 .k 15 14 false (.faddr 5 (.t 1)),
 .k 16 14 false (.load 1 false (.t 15)),
 .k 17 14 false (.mov (.t 0)),
 .k 18 14 false (.call 25 [(.t 16), (.t 17)]),
 .k 19 14 false (.un .not (.t 18)),
 .j 20 (.pick (.t 14) (.c (.bool true)) (.t 19))]
@[go_sem] def q24_3 : List AI := [
 .j 4 (.mov (.c (.bool false)))]
@[go_sem] def q24_4 : List AI := [
 .j 21 (.faddr 1 (.t 5)),
 .j 22 (.load 1 false (.t 21)),
 .j 23 (.faddr 2 (.t 5)),
 .j 24 (.load 1 false (.t 23)),
 .j 25 (.bin .eql (.t 22) (.t 24)),
 .j 26 (.mov (.t 25)),
 .k 27 26 false (.load 1 false (.t 2)),
 .k 28 26 false (.mov (.t 0)),
 .k 29 26 false (.bin .add (.t 28) (.z 1)),
 .k 30 26 false (.iaddr 1 (.t 27) (.t 29)),
 .k 31 26 false (.load 1 false (.t 30)),
 .k 32 26 false (.faddr 1 (.t 5)),
 .k 33 26 false (.load 1 false (.t 32)),
 .k 34 26 false (.call 26 [(.t 31), (.t 33)]),
 .k 35 26 false (.un .not (.t 34)),
 .k 36 26 false (.mov (.t 35)),
 .k 37 36 true (.load 11 true (.t 1)),
 .k 38 36 true (.faddr 1 (.t 5)),
 .k 39 36 true (.load 1 false (.t 38)),
 .k 40 36 true (.call 27 [(.t 37), (.t 39)]),
 .k 41 36 true (.un .not (.t 40)),
 .k 42 26 false (.pick (.t 36) (.t 41) (.c (.bool false))),
 .j 43 (.pick (.t 26) (.c (.bool true)) (.t 42)),
 .j 4 (.mov (.t 43))]
@[go_sem] def peephole_Moves_1_1_c : AC := .seq (.ops [q24_0]) (.seq (.ops [q24_1]) (.seq (.seq (.ops [q24_2]) (.cond (.t 20) (.seq (.ops [q24_3]) (.ret)) (.skip))) (.seq (.ops [q24_4]) (.ret))))
theorem peephole_Moves_1_1_ok : compF Tryz.prog 24 = some (44, peephole_Moves_1_1_c, [.t 4]) := by kernel_rfl

@[go_sem] def q25_0 : List AI := [
 .j 4 (.mov (.c (.bool false)))]
@[go_sem] def q25_1 : List AI := [
 .j 7 (.mov (.t 0)),
 .j 8 (.mov (.t 1)),
 .j 9 (.bin .add (.t 8) (.z 1)),
 .j 10 (.slc 5 (.t 7) (some (.t 9)) none),
 .j 11 (.len 0 (.t 10)),
 .j 12 (.mov (.z 0))]
@[go_sem] def q25_2 : List AI := [
 .j 13 (.bin .lss (.t 12) (.t 11))]
@[go_sem] def q25_3 : List AI := [
 .j 14 (.iaddr 5 (.t 10) (.t 12)),
 .j 15 (.load 5 true (.t 14)),
 .j 6 (.box 250006 5 (.c (.agg [(.int .i64 0), (.int .i64 0), (.int .i64 0), (.int .i64 0), (.int .i64 0)]))),
 .e (.store 5 (.t 6) (.t 15))]
@[go_sem] def q25_4 : List AI := [
 .j 16 (.faddr 0 (.t 6)),
 .j 17 (.load 1 false (.t 16))]
@[go_sem] def q25_5 : List AI := [
 .j 19 (.bin .eql (.t 17) (.z 1)),
 .j 18 (.mov (.t 19))]
@[go_sem] def q25_6 : List AI := [
 .j 20 (.bin .eql (.t 17) (.z 2)),
 .j 18 (.mov (.t 20))]
@[go_sem] def q25_7 : List AI := [
 .j 21 (.bin .eql (.t 17) (.z 3)),
 .j 18 (.mov (.t 21))]
@[go_sem] def q25_8 : List AI := [
 .j 22 (.bin .eql (.t 17) (.z 4)),
 .j 18 (.mov (.t 22))]
@[go_sem] def q25_9 : List AI := [
 .j 23 (.bin .eql (.t 17) (.z 5)),
 .j 18 (.mov (.t 23))]
@[go_sem] def q25_10 : List AI := [
 .j 24 (.bin .eql (.t 17) (.z 6)),
 .j 18 (.mov (.t 24))]
@[go_sem] def q25_11 : List AI := [
 .j 25 (.bin .eql (.t 17) (.z 7)),
 .j 18 (.mov (.t 25))]
@[go_sem] def q25_12 : List AI := [
 .j 26 (.bin .eql (.t 17) (.z 8)),
 .j 18 (.mov (.t 26))]
@[go_sem] def q25_13 : List AI := [
 .j 27 (.bin .eql (.t 17) (.z 20)),
 .j 18 (.mov (.t 27))]
@[go_sem] def q25_14 : List AI := [
 .j 28 (.bin .eql (.t 17) (.z 22)),
 .j 18 (.mov (.t 28))]
@[go_sem] def q25_15 : List AI := [
 .j 29 (.bin .eql (.t 17) (.z 19)),
 .j 18 (.mov (.t 29))]
@[go_sem] def q25_16 : List AI := [
 .j 31 (.bin .eql (.t 17) (.z 29)),
 .j 30 (.mov (.t 31))]
@[go_sem] def q25_17 : List AI := [
 .j 32 (.faddr 1 (.t 6)),
 .j 33 (.load 1 false (.t 32)),
 .j 34 (.bin .eql (.t 33) (.z 0))]
@[go_sem] def q25_18 : List AI := [
 .j 4 (.mov (.c (.bool true)))]
@[go_sem] def q25_19 : List AI := [
 .j 4 (.mov (.c (.bool false)))]
@[go_sem] def q25_20 : List AI := [
 .j 35 (.bin .add (.t 12) (.z 1)),
 .j 12 (.mov (.t 35))]
@[go_sem] def peephole_quiet_l0' : AC := .seq (.ops [q25_2]) (.seq (.cond (.t 13) (.skip) (.exit 0)) (.seq (.block 1 (.seq (.ops [q25_3]) (.seq (.ops [q25_4]) (.block 2 (.seq (.seq (.ops [q25_5]) (.cond (.t 18) (.skip) (.seq (.ops [q25_6]) (.cond (.t 18) (.skip) (.seq (.ops [q25_7]) (.cond (.t 18) (.skip) (.seq (.ops [q25_8]) (.cond (.t 18) (.skip) (.seq (.ops [q25_9]) (.cond (.t 18) (.skip) (.seq (.ops [q25_10]) (.cond (.t 18) (.skip) (.seq (.ops [q25_11]) (.cond (.t 18) (.skip) (.seq (.ops [q25_12]) (.cond (.t 18) (.skip) (.seq (.ops [q25_13]) (.cond (.t 18) (.skip) (.seq (.ops [q25_14]) (.cond (.t 18) (.skip) (.ops [q25_15]))))))))))))))))))))) (.cond (.t 18) (.skip) (.seq (.ops [q25_16]) (.cond (.t 30) (.seq (.ops [q25_17]) (.cond (.t 34) (.seq (.ops [q25_18]) (.ret)) (.skip))) (.seq (.ops [q25_19]) (.ret)))))))))) (.ops [q25_20])))
def peephole_quiet_l0 : AC := peephole_quiet_l0'
theorem peephole_quiet_l0_eq : peephole_quiet_l0 = peephole_quiet_l0' := rfl
@[go_sem] def q25_21 : List AI := [
 .j 4 (.mov (.c (.bool false)))]
@[go_sem] def peephole_quiet_c : AC := .seq (.ops [q25_0]) (.seq (.seq (.ops [q25_1]) (.block 0 (.loop peephole_quiet_l0))) (.seq (.ops [q25_21]) (.ret)))
theorem peephole_quiet_ok : compF Tryz.prog 25 = some (36, peephole_quiet_c, [.t 4]) := by kernel_rfl

@[go_sem] def q26_0 : List AI := [
 .j 4 (.mov (.c (.bool false)))]
@[go_sem] def q26_1 : List AI := [
 .j 5 (.mov (.t 0)),
 .j 6 (.mov (.t 1)),
 .j 7 (.call 44 [(.t 5), (.t 6)]),
 .j 8 (.bin .geq (.t 7) (.z 0)),
 .j 4 (.mov (.t 8))]
@[go_sem] def slices_Contains_int_int_c : AC := .seq (.ops [q26_0]) (.seq (.ops [q26_1]) (.ret))
theorem slices_Contains_int_int_ok : compF Tryz.prog 26 = some (9, slices_Contains_int_int_c, [.t 4]) := by kernel_rfl

@[go_sem] def q27_0 : List AI := [
 .j 2 (.box 270002 11 (.t 0)),
 .j 3 (.box 270003 1 (.t 1)),
 .j 4 (.mov (.c (.bool false)))]
@[go_sem] def q27_1 : List AI := [
 .j 7 (.faddr 10 (.t 2)),
 .j 8 (.load 1 false (.t 7)),
 .j 9 (.mkfn 46 [(.t 3)]),
 .j 10 (.call 45 [(.t 8), (.t 9)])]
@[go_sem] def q27_2 : List AI := [
 .j 4 (.mov (.c (.bool true)))]
@[go_sem] def q27_3 : List AI := [
 .j 11 (.faddr 5 (.t 2)),
 .j 12 (.load 1 false (.t 11)),
 .j 13 (.mkfn 48 [(.t 3)]),
 .j 14 (.call 47 [(.t 12), (.t 13)])]
@[go_sem] def q27_4 : List AI := [
 .j 4 (.mov (.c (.bool true)))]
@[go_sem] def q27_5 : List AI := [
 .j 15 (.faddr 8 (.t 2)),
 .j 16 (.load 1 false (.t 15)),
 .j 17 (.len 0 (.t 16)),
 .j 18 (.mov (.z 0))]
@[go_sem] def q27_6 : List AI := [
 .j 19 (.bin .lss (.t 18) (.t 17))]
@[go_sem] def q27_7 : List AI := [
 .j 20 (.iaddr 11 (.t 16) (.t 18)),
 .j 21 (.load 11 true (.t 20)),
 .j 6 (.box 270006 11 (.c (.agg [(.str []), (.int .i64 0), (.int .i64 0), (.bool false), (.int .i64 0), .nils, .nils, .nils, .nils, .nils, .nils]))),
 .e (.store 11 (.t 6) (.t 21))]
@[go_sem] def q27_8 : List AI := [
 .j 22 (.faddr 9 (.t 6)),
 .j 23 (.load 1 false (.t 22)),
 .j 24 (.mkfn 50 [(.t 3)]),
 .j 25 (.call 49 [(.t 23), (.t 24)])]
@[go_sem] def q27_9 : List AI := [
 .j 4 (.mov (.c (.bool true)))]
@[go_sem] def q27_10 : List AI := [
 .j 26 (.bin .add (.t 18) (.z 1)),
 .j 18 (.mov (.t 26))]
@[go_sem] def peephole_kept_l0' : AC := .seq (.ops [q27_6]) (.seq (.cond (.t 19) (.skip) (.exit 0)) (.seq (.block 1 (.seq (.ops [q27_7]) (.seq (.ops [q27_8]) (.cond (.t 25) (.seq (.ops [q27_9]) (.ret)) (.skip))))) (.ops [q27_10])))
def peephole_kept_l0 : AC := peephole_kept_l0'
theorem peephole_kept_l0_eq : peephole_kept_l0 = peephole_kept_l0' := rfl
@[go_sem] def q27_11 : List AI := [
 .j 4 (.mov (.c (.bool false)))]
@[go_sem] def peephole_kept_c : AC := .seq (.ops [q27_0]) (.seq (.seq (.ops [q27_1]) (.cond (.t 10) (.seq (.ops [q27_2]) (.ret)) (.skip))) (.seq (.seq (.ops [q27_3]) (.cond (.t 14) (.seq (.ops [q27_4]) (.ret)) (.skip))) (.seq (.seq (.ops [q27_5]) (.block 0 (.loop peephole_kept_l0))) (.seq (.ops [q27_11]) (.ret)))))
theorem peephole_kept_ok : compF Tryz.prog 27 = some (27, peephole_kept_c, [.t 4]) := by kernel_rfl

@[go_sem] def q28_0 : List AI := [
 .j 3 (.load 11 true (.t 1)),
 .j 4 (.call 30 [(.t 3)]),
 .j 5 (.mov (.t 0)),
 .j 6 (.call 29 [(.t 4), (.t 5)])]
@[go_sem] def proto_Each_1_c : AC := .ops [q28_0]
theorem proto_Each_1_ok : compF Tryz.prog 28 = some (7, proto_Each_1_c, []) := by kernel_rfl

@[go_sem] def q29_0 : List AI := [
 .j 2 (.box 290002 11 (.t 0)),
 .j 4 (.mov (.c (.bool false)))]
@[go_sem] def q29_1 : List AI := [
 .j 7 (.mov (.t 1)),
 .j 8 (.load 11 true (.t 2)),
 .j 9 (.callv (.t 7) [(.t 8)]),
 .j 10 (.un .not (.t 9))]
@[go_sem] def q29_2 : List AI := [
 .j 4 (.mov (.c (.bool false)))]
@[go_sem] def q29_3 : List AI := [
 .j 11 (.faddr 8 (.t 2)),
 .j 12 (.load 1 false (.t 11)),
 .j 13 (.len 0 (.t 12)),
 .j 14 (.mov (.z 0))]
@[go_sem] def q29_4 : List AI := [
 .j 15 (.bin .lss (.t 14) (.t 13))]
@[go_sem] def q29_5 : List AI := [
 .j 16 (.iaddr 11 (.t 12) (.t 14)),
 .j 17 (.load 11 true (.t 16)),
 .j 6 (.box 290006 11 (.c (.agg [(.str []), (.int .i64 0), (.int .i64 0), (.bool false), (.int .i64 0), .nils, .nils, .nils, .nils, .nils, .nils]))),
 .e (.store 11 (.t 6) (.t 17))]
@[go_sem] def q29_6 : List AI := [
 .j 18 (.load 11 true (.t 6)),
 .j 19 (.mov (.t 1)),
 .j 20 (.call 29 [(.t 18), (.t 19)]),
 .j 21 (.un .not (.t 20))]
@[go_sem] def q29_7 : List AI := [
 .j 4 (.mov (.c (.bool false)))]
@[go_sem] def q29_8 : List AI := [
 .j 22 (.bin .add (.t 14) (.z 1)),
 .j 14 (.mov (.t 22))]
@[go_sem] def proto_walk_l0' : AC := .seq (.ops [q29_4]) (.seq (.cond (.t 15) (.skip) (.exit 0)) (.seq (.block 1 (.seq (.ops [q29_5]) (.seq (.ops [q29_6]) (.cond (.t 21) (.seq (.ops [q29_7]) (.ret)) (.skip))))) (.ops [q29_8])))
def proto_walk_l0 : AC := proto_walk_l0'
theorem proto_walk_l0_eq : proto_walk_l0 = proto_walk_l0' := rfl
@[go_sem] def q29_9 : List AI := [
 .j 4 (.mov (.c (.bool true)))]
@[go_sem] def proto_walk_c : AC := .seq (.ops [q29_0]) (.seq (.seq (.ops [q29_1]) (.cond (.t 10) (.seq (.ops [q29_2]) (.ret)) (.skip))) (.seq (.seq (.ops [q29_3]) (.block 0 (.loop proto_walk_l0))) (.seq (.ops [q29_9]) (.ret))))
theorem proto_walk_ok : compF Tryz.prog 29 = some (23, proto_walk_c, [.t 4]) := by kernel_rfl

@[go_sem] def q30_0 : List AI := [
 .j 1 (.box 300001 11 (.t 0)),
 .j 2 (.box 300002 11 (.c (.agg [(.str []), (.int .i64 0), (.int .i64 0), (.bool false), (.int .i64 0), .nils, .nils, .nils, .nils, .nils, .nils])))]
@[go_sem] def q30_1 : List AI := [
 .j 6 (.faddr 5 (.t 1)),
 .j 7 (.load 1 false (.t 6)),
 .j 9 (.faddr 6 (.t 1)),
 .j 10 (.load 1 false (.t 9)),
 .j 12 (.faddr 7 (.t 1)),
 .j 13 (.load 1 false (.t 12)),
 .j 15 (.faddr 9 (.t 1)),
 .j 16 (.load 1 false (.t 15)),
 .j 18 (.faddr 10 (.t 1)),
 .j 19 (.load 1 false (.t 18)),
 .j 8 (.pcall 51 [(.t 7)]),
 .j 21 (.faddr 5 (.t 1)),
 .j 11 (.pcall 52 [(.t 10)]),
 .j 14 (.pcall 53 [(.t 13)]),
 .j 17 (.pcall 54 [(.t 16)]),
 .j 20 (.pcall 55 [(.t 19)]),
 .e (.store 1 (.t 21) (.t 8)),
 .j 22 (.faddr 6 (.t 1)),
 .e (.store 1 (.t 22) (.t 11)),
 .j 23 (.faddr 7 (.t 1)),
 .e (.store 1 (.t 23) (.t 14)),
 .j 24 (.faddr 9 (.t 1)),
 .e (.store 1 (.t 24) (.t 17)),
 .j 25 (.faddr 10 (.t 1)),
 .e (.store 1 (.t 25) (.t 20))]
@[go_sem] def q30_2 : List AI := [
 .j 3 (.mov (.c .nils))]
@[go_sem] def q30_3 : List AI := [
 .j 26 (.faddr 8 (.t 1)),
 .j 27 (.load 1 false (.t 26)),
 .j 28 (.len 0 (.t 27)),
 .j 29 (.mov (.z 0))]
@[go_sem] def q30_4 : List AI := [
 .j 30 (.bin .lss (.t 29) (.t 28))]
@[go_sem] def q30_5 : List AI := [
 .j 31 (.iaddr 11 (.t 27) (.t 29)),
 .j 32 (.load 11 true (.t 31)),
 .j 5 (.box 300005 11 (.c (.agg [(.str []), (.int .i64 0), (.int .i64 0), (.bool false), (.int .i64 0), .nils, .nils, .nils, .nils, .nils, .nils]))),
 .e (.store 11 (.t 5) (.t 32))]
@[go_sem] def q30_6 : List AI := [
 .j 33 (.mov (.t 3)),
 .j 34 (.load 11 true (.t 5)),
 .j 35 (.call 30 [(.t 34)]),
 .j 36 (.mkisl 11 [(.t 35)]),
 .j 37 (.apb 733007751850 300037 11 (.t 33) (.t 36)),
 .j 3 (.mov (.t 37))]
@[go_sem] def q30_7 : List AI := [
 .j 38 (.bin .add (.t 29) (.z 1)),
 .j 29 (.mov (.t 38))]
@[go_sem] def proto_copied_l0' : AC := .seq (.ops [q30_4]) (.seq (.cond (.t 30) (.skip) (.exit 0)) (.seq (.block 1 (.seq (.ops [q30_5]) (.ops [q30_6]))) (.ops [q30_7])))
def proto_copied_l0 : AC := proto_copied_l0'
theorem proto_copied_l0_eq : proto_copied_l0 = proto_copied_l0' := rfl
@[go_sem] def q30_8 : List AI := [
 .j 39 (.mov (.t 3)),
 .j 40 (.faddr 8 (.t 1)),
 .e (.store 1 (.t 40) (.t 39))]
@[go_sem] def q30_9 : List AI := [
 .j 41 (.load 11 true (.t 1)),
 .e (.store 11 (.t 2) (.t 41))]
@[go_sem] def proto_copied_c : AC := .seq (.ops [q30_0]) (.seq (.ops [q30_1]) (.seq (.ops [q30_2]) (.seq (.seq (.ops [q30_3]) (.block 0 (.loop proto_copied_l0))) (.seq (.ops [q30_8]) (.seq (.ops [q30_9]) (.ret))))))
theorem proto_copied_ok : compF Tryz.prog 30 = some (42, proto_copied_c, [.c 2 11 true]) := by kernel_rfl

@[go_sem] def q31_0 : List AI := [
 .j 1 (.box 310001 11 (.t 0)),
 .j 2 (.mov (.z 0))]
@[go_sem] def q31_1 : List AI := [
 .j 4 (.faddr 5 (.t 1)),
 .j 5 (.load 1 false (.t 4)),
 .j 6 (.len 0 (.t 5)),
 .j 7 (.bin .gtr (.t 6) (.z 16384)),
 .j 8 (.mov (.t 7)),
 .k 9 8 false (.faddr 7 (.t 1)),
 .k 10 8 false (.load 1 false (.t 9)),
 .k 11 8 false (.len 0 (.t 10)),
 .k 12 8 false (.bin .gtr (.t 11) (.z 4096)),
 .j 13 (.pick (.t 8) (.c (.bool true)) (.t 12)),
 .j 14 (.mov (.t 13)),
 .k 15 14 false (.faddr 8 (.t 1)),
 .k 16 14 false (.load 1 false (.t 15)),
 .k 17 14 false (.len 0 (.t 16)),
 .k 18 14 false (.bin .gtr (.t 17) (.z 1024)),
 .j 19 (.pick (.t 14) (.c (.bool true)) (.t 18)),
 .j 20 (.mov (.t 19)),
 .k 21 20 false (.faddr 9 (.t 1)),
 .k 22 20 false (.load 1 false (.t 21)),
 .k 23 20 false (.len 0 (.t 22)),
 .k 24 20 false (.bin .gtr (.t 23) (.z 60)),
 .j 25 (.pick (.t 20) (.c (.bool true)) (.t 24)),
 .j 26 (.mov (.t 25)),
 .k 27 26 false (.faddr 10 (.t 1)),
 .k 28 26 false (.load 1 false (.t 27)),
 .k 29 26 false (.len 0 (.t 28)),
 .k 30 26 false (.bin .gtr (.t 29) (.z 16384)),
 .j 31 (.pick (.t 26) (.c (.bool true)) (.t 30)),
 .j 32 (.mov (.t 31)),
 .k 33 32 false (.faddr 4 (.t 1)),
 .k 34 32 false (.load 1 false (.t 33)),
 .k 35 32 false (.bin .gtr (.t 34) (.z 4096)),
 .j 36 (.pick (.t 32) (.c (.bool true)) (.t 35)),
 .j 37 (.mov (.t 36)),
 .k 38 37 false (.faddr 0 (.t 1)),
 .k 39 37 false (.load 1 false (.t 38)),
 .k 40 37 false (.len 1 (.t 39)),
 .k 41 37 false (.bin .gtr (.t 40) (.z 4096)),
 .j 42 (.pick (.t 37) (.c (.bool true)) (.t 41))]
@[go_sem] def q31_2 : List AI := [
 .j 2 (.mov (.z 3))]
@[go_sem] def q31_3 : List AI := [
 .j 3 (.box 310003 1 (.c (.cst .nilFunc))),
 .e (.store 1 (.t 3) (.f 56))]
@[go_sem] def q31_4 : List AI := [
 .j 43 (.faddr 9 (.t 1)),
 .j 44 (.load 1 false (.t 43)),
 .j 45 (.mkfn 57 [(.t 3)]),
 .j 46 (.call 49 [(.t 44), (.t 45)]),
 .j 47 (.mov (.t 46)),
 .k 48 47 false (.faddr 10 (.t 1)),
 .k 49 47 false (.load 1 false (.t 48)),
 .k 50 47 false (.mkfn 58 [(.t 3)]),
 .k 51 47 false (.call 45 [(.t 49), (.t 50)]),
 .j 52 (.pick (.t 47) (.c (.bool true)) (.t 51))]
@[go_sem] def q31_5 : List AI := [
 .j 2 (.mov (.z 3))]
@[go_sem] def q31_6 : List AI := [
 .j 2 (.mov (.z 0))]
@[go_sem] def proto_limits_c : AC := .seq (.ops [q31_0]) (.seq (.seq (.ops [q31_1]) (.cond (.t 42) (.seq (.ops [q31_2]) (.ret)) (.skip))) (.seq (.ops [q31_3]) (.seq (.seq (.ops [q31_4]) (.cond (.t 52) (.seq (.ops [q31_5]) (.ret)) (.skip))) (.seq (.ops [q31_6]) (.ret)))))
theorem proto_limits_ok : compF Tryz.prog 31 = some (53, proto_limits_c, [.t 2]) := by kernel_rfl

@[go_sem] def q32_0 : List AI := [
 .j 1 (.box 320001 11 (.t 0)),
 .j 2 (.mov (.z 0))]
@[go_sem] def q32_1 : List AI := [
 .j 8 (.faddr 5 (.t 1)),
 .j 9 (.load 1 false (.t 8)),
 .j 10 (.len 0 (.t 9)),
 .j 3 (.mov (.t 10))]
@[go_sem] def q32_2 : List AI := [
 .j 11 (.mov (.t 3)),
 .j 12 (.bin .eql (.t 11) (.z 0)),
 .j 13 (.mov (.t 12)),
 .k 14 13 false (.faddr 4 (.t 1)),
 .k 15 13 false (.load 1 false (.t 14)),
 .k 16 13 false (.bin .lss (.t 15) (.z 0)),
 .j 17 (.pick (.t 13) (.c (.bool true)) (.t 16)),
 .j 18 (.mov (.t 17)),
 .k 19 18 false (.faddr 2 (.t 1)),
 .k 20 18 false (.load 1 false (.t 19)),
 .k 21 18 false (.bin .lss (.t 20) (.z 0)),
 .j 22 (.pick (.t 18) (.c (.bool true)) (.t 21)),
 .j 23 (.mov (.t 22)),
 .k 24 23 false (.faddr 1 (.t 1)),
 .k 25 23 false (.load 1 false (.t 24)),
 .k 26 23 false (.bin .lss (.t 25) (.z 0)),
 .j 27 (.pick (.t 23) (.c (.bool true)) (.t 26)),
 .j 28 (.mov (.t 27)),
 .k 29 28 false (.faddr 2 (.t 1)),
 .k 30 28 false (.load 1 false (.t 29)),
 .k 31 28 false (.faddr 4 (.t 1)),
 .k 32 28 false (.load 1 false (.t 31)),
 .k 33 28 false (.bin .gtr (.t 30) (.t 32)),
 .j 34 (.pick (.t 28) (.c (.bool true)) (.t 33)),
 .j 35 (.mov (.t 34)),
 .k 36 35 false (.faddr 6 (.t 1)),
 .k 37 35 false (.load 1 false (.t 36)),
 .k 38 35 false (.len 0 (.t 37)),
 .k 39 35 false (.bin .neq (.t 38) (.z 0)),
 .k 40 35 false (.mov (.t 39)),
 .k 41 40 true (.faddr 6 (.t 1)),
 .k 42 40 true (.load 1 false (.t 41)),
 .k 43 40 true (.len 0 (.t 42)),
 .k 44 40 true (.mov (.t 3)),
 .k 45 40 true (.bin .neq (.t 43) (.t 44)),
 .k 46 35 false (.pick (.t 40) (.t 45) (.c (.bool false))),
 .j 47 (.pick (.t 35) (.c (.bool true)) (.t 46))]
@[go_sem] def q32_3 : List AI := [
 .j 2 (.mov (.z 4))]
@[go_sem] def q32_4 : List AI := [
 .j 48 (.faddr 6 (.t 1)),
 .j 49 (.load 1 false (.t 48)),
 .j 50 (.call 59 [(.t 49), (.f 60)]),
 .j 51 (.mov (.t 50)),
 .k 52 51 false (.faddr 9 (.t 1)),
 .k 53 51 false (.load 1 false (.t 52)),
 .k 54 51 false (.call 49 [(.t 53), (.f 61)]),
 .j 55 (.pick (.t 51) (.c (.bool true)) (.t 54))]
@[go_sem] def q32_5 : List AI := [
 .j 2 (.mov (.z 4))]
@[go_sem] def q32_6 : List AI := [
 .j 56 (.faddr 7 (.t 1)),
 .j 57 (.load 1 false (.t 56)),
 .j 58 (.len 0 (.t 57)),
 .j 59 (.mov (.z 0))]
@[go_sem] def q32_7 : List AI := [
 .j 60 (.bin .lss (.t 59) (.t 58))]
@[go_sem] def q32_8 : List AI := [
 .j 61 (.iaddr 5 (.t 57) (.t 59)),
 .j 62 (.load 5 true (.t 61)),
 .j 5 (.box 320005 5 (.c (.agg [(.int .i64 0), (.int .i64 0), (.int .i64 0), (.str []), (.int .i64 0)]))),
 .e (.store 5 (.t 5) (.t 62))]
@[go_sem] def q32_9 : List AI := [
 .j 63 (.faddr 0 (.t 5)),
 .j 64 (.load 1 false (.t 63)),
 .j 65 (.bin .gtr (.t 64) (.z 3)),
 .j 66 (.mov (.t 65)),
 .k 67 66 false (.load 5 true (.t 5)),
 .k 68 66 false (.call 62 [(.t 67)]),
 .k 69 66 false (.un .not (.t 68)),
 .j 70 (.pick (.t 66) (.c (.bool true)) (.t 69))]
@[go_sem] def q32_10 : List AI := [
 .j 2 (.mov (.z 4))]
@[go_sem] def q32_11 : List AI := [
 .j 71 (.bin .add (.t 59) (.z 1)),
 .j 59 (.mov (.t 71))]
@[go_sem] def proto_form_l0' : AC := .seq (.ops [q32_7]) (.seq (.cond (.t 60) (.skip) (.exit 0)) (.seq (.block 1 (.seq (.ops [q32_8]) (.seq (.ops [q32_9]) (.cond (.t 70) (.seq (.ops [q32_10]) (.ret)) (.skip))))) (.ops [q32_11])))
def proto_form_l0 : AC := proto_form_l0'
theorem proto_form_l0_eq : proto_form_l0 = proto_form_l0' := rfl
@[go_sem] def q32_12 : List AI := [
 .j 72 (.faddr 10 (.t 1)),
 .j 73 (.load 1 false (.t 72)),
 .j 74 (.len 0 (.t 73)),
 .j 75 (.mov (.z 0))]
@[go_sem] def q32_13 : List AI := [
 .j 76 (.bin .lss (.t 75) (.t 74))]
@[go_sem] def q32_14 : List AI := [
 .j 77 (.iaddr 5 (.t 73) (.t 75)),
 .j 78 (.load 5 true (.t 77)),
 .j 7 (.box 320007 5 (.c (.agg [(.str []), (.int .i64 0), (.int .i64 0), (.int .i64 0), (.int .i64 0)]))),
 .e (.store 5 (.t 7) (.t 78))]
@[go_sem] def q32_15 : List AI := [
 .j 79 (.faddr 1 (.t 7)),
 .j 80 (.load 1 false (.t 79)),
 .j 81 (.bin .lss (.t 80) (.z 0)),
 .j 82 (.mov (.t 81)),
 .k 83 82 false (.faddr 1 (.t 7)),
 .k 84 82 false (.load 1 false (.t 83)),
 .k 85 82 false (.faddr 4 (.t 1)),
 .k 86 82 false (.load 1 false (.t 85)),
 .k 87 82 false (.bin .geq (.t 84) (.t 86)),
 .j 88 (.pick (.t 82) (.c (.bool true)) (.t 87)),
 .j 89 (.mov (.t 88)),
 .k 90 89 false (.faddr 4 (.t 7)),
 .k 91 89 false (.load 1 false (.t 90)),
 .k 92 89 false (.bin .lss (.t 91) (.z 0)),
 .j 93 (.pick (.t 89) (.c (.bool true)) (.t 92)),
 .j 94 (.mov (.t 93)),
 .k 95 94 false (.faddr 4 (.t 7)),
 .k 96 94 false (.load 1 false (.t 95)),
 .k 97 94 false (.bin .gtr (.t 96) (.z 2)),
 .j 98 (.pick (.t 94) (.c (.bool true)) (.t 97)),
 .j 99 (.mov (.t 98)),
 .k 100 99 false (.faddr 2 (.t 7)),
 .k 101 99 false (.load 1 false (.t 100)),
 .k 102 99 false (.bin .lss (.t 101) (.z 0)),
 .j 103 (.pick (.t 99) (.c (.bool true)) (.t 102)),
 .j 104 (.mov (.t 103)),
 .k 105 104 false (.faddr 3 (.t 7)),
 .k 106 104 false (.load 1 false (.t 105)),
 .k 107 104 false (.faddr 2 (.t 7)),
 .k 108 104 false (.load 1 false (.t 107)),
 .k 109 104 false (.bin .lss (.t 106) (.t 108)),
 .j 110 (.pick (.t 104) (.c (.bool true)) (.t 109)),
 .j 111 (.mov (.t 110)),
 .k 112 111 false (.faddr 3 (.t 7)),
 .k 113 111 false (.load 1 false (.t 112)),
 .k 114 111 false (.mov (.t 3)),
 .k 115 111 false (.bin .gtr (.t 113) (.t 114)),
 .j 116 (.pick (.t 111) (.c (.bool true)) (.t 115))]
@[go_sem] def q32_16 : List AI := [
 .j 2 (.mov (.z 4))]
@[go_sem] def q32_17 : List AI := [
 .j 117 (.bin .add (.t 75) (.z 1)),
 .j 75 (.mov (.t 117))]
@[go_sem] def proto_form_l1' : AC := .seq (.ops [q32_13]) (.seq (.cond (.t 76) (.skip) (.exit 2)) (.seq (.block 3 (.seq (.ops [q32_14]) (.seq (.ops [q32_15]) (.cond (.t 116) (.seq (.ops [q32_16]) (.ret)) (.skip))))) (.ops [q32_17])))
def proto_form_l1 : AC := proto_form_l1'
theorem proto_form_l1_eq : proto_form_l1 = proto_form_l1' := rfl
@[go_sem] def q32_18 : List AI := [
 .j 2 (.mov (.z 0))]
@[go_sem] def proto_form_c : AC := .seq (.ops [q32_0]) (.seq (.ops [q32_1]) (.seq (.seq (.ops [q32_2]) (.cond (.t 47) (.seq (.ops [q32_3]) (.ret)) (.skip))) (.seq (.seq (.ops [q32_4]) (.cond (.t 55) (.seq (.ops [q32_5]) (.ret)) (.skip))) (.seq (.seq (.ops [q32_6]) (.block 0 (.loop proto_form_l0))) (.seq (.seq (.ops [q32_12]) (.block 2 (.loop proto_form_l1))) (.seq (.ops [q32_18]) (.ret)))))))
theorem proto_form_ok : compF Tryz.prog 32 = some (118, proto_form_c, [.t 2]) := by kernel_rfl

@[go_sem] def q33_0 : List AI := [
 .j 2 (.box 330002 11 (.t 0)),
 .j 3 (.box 330003 5 (.t 1)),
 .j 4 (.mov (.z 0))]
@[go_sem] def q33_1 : List AI := [
 .j 12 (.load 5 true (.t 3)),
 .j 13 (.call 63 [(.t 12)]),
 .j 5 (.mov (.t 13))]
@[go_sem] def q33_2 : List AI := [
 .j 14 (.mov (.t 5)),
 .j 15 (.bin .neq (.t 14) (.z 0))]
@[go_sem] def q33_3 : List AI := [
 .j 16 (.mov (.t 5)),
 .j 4 (.mov (.t 16))]
@[go_sem] def q33_4 : List AI := [
 .j 18 (.load 5 true (.t 3)),
 .j 19 (.call 64 [(.t 18)]),
 .j 17 (.mov (.t 19)),
 .j 20 (.ext 0 (.t 17)),
 .j 21 (.ext 1 (.t 17)),
 .j 6 (.mov (.t 20)),
 .j 7 (.mov (.t 21))]
@[go_sem] def q33_5 : List AI := [
 .j 23 (.load 5 true (.t 3)),
 .j 24 (.call 65 [(.t 23)]),
 .j 22 (.mov (.t 24)),
 .j 25 (.ext 0 (.t 22)),
 .j 26 (.ext 1 (.t 22)),
 .j 8 (.mov (.t 25)),
 .j 9 (.mov (.t 26))]
@[go_sem] def q33_6 : List AI := [
 .j 27 (.load 11 true (.t 2)),
 .j 28 (.mov (.t 6)),
 .j 29 (.mov (.t 7)),
 .j 30 (.call 66 [(.t 27), (.t 28), (.t 29)]),
 .j 31 (.un .not (.t 30)),
 .j 32 (.mov (.t 31)),
 .k 33 32 false (.load 11 true (.t 2)),
 .k 34 32 false (.mov (.t 8)),
 .k 35 32 false (.mov (.t 9)),
 .k 36 32 false (.call 66 [(.t 33), (.t 34), (.t 35)]),
 .k 37 32 false (.un .not (.t 36)),
 .j 38 (.pick (.t 32) (.c (.bool true)) (.t 37))]
@[go_sem] def q33_7 : List AI := [
 .j 4 (.mov (.z 4))]
@[go_sem] def q33_8 : List AI := [
 .j 40 (.load 5 true (.t 3)),
 .j 41 (.call 35 [(.t 40)]),
 .j 39 (.mov (.t 41)),
 .j 42 (.ext 0 (.t 39)),
 .j 43 (.ext 1 (.t 39)),
 .j 10 (.mov (.t 42)),
 .j 11 (.mov (.t 43))]
@[go_sem] def q33_9 : List AI := [
 .j 44 (.mov (.t 11)),
 .j 45 (.mov (.t 44)),
 .k 46 45 true (.mov (.t 10)),
 .k 47 45 true (.bin .lss (.t 46) (.z 0)),
 .k 48 45 true (.mov (.t 47)),
 .k 49 48 false (.mov (.t 10)),
 .k 50 48 false (.faddr 5 (.t 2)),
 .k 51 48 false (.load 1 false (.t 50)),
 .k 52 48 false (.len 0 (.t 51)),
 .k 53 48 false (.bin .geq (.t 49) (.t 52)),
 .k 54 45 true (.pick (.t 48) (.c (.bool true)) (.t 53)),
 .j 55 (.pick (.t 45) (.t 54) (.c (.bool false)))]
@[go_sem] def q33_10 : List AI := [
 .j 4 (.mov (.z 4))]
@[go_sem] def q33_11 : List AI := [
 .j 56 (.load 11 true (.t 2)),
 .j 57 (.load 5 true (.t 3)),
 .j 58 (.call 67 [(.t 56), (.t 57)]),
 .j 59 (.un .not (.t 58))]
@[go_sem] def q33_12 : List AI := [
 .j 4 (.mov (.z 4))]
@[go_sem] def q33_13 : List AI := [
 .j 4 (.mov (.z 0))]
@[go_sem] def proto_instruction_c : AC := .seq (.ops [q33_0]) (.seq (.seq (.ops [q33_1]) (.seq (.ops [q33_2]) (.cond (.t 15) (.seq (.ops [q33_3]) (.ret)) (.skip)))) (.seq (.ops [q33_4]) (.seq (.ops [q33_5]) (.seq (.seq (.ops [q33_6]) (.cond (.t 38) (.seq (.ops [q33_7]) (.ret)) (.skip))) (.seq (.seq (.ops [q33_8]) (.seq (.ops [q33_9]) (.cond (.t 55) (.seq (.ops [q33_10]) (.ret)) (.skip)))) (.seq (.seq (.ops [q33_11]) (.cond (.t 59) (.seq (.ops [q33_12]) (.ret)) (.skip))) (.seq (.ops [q33_13]) (.ret))))))))
theorem proto_instruction_ok : compF Tryz.prog 33 = some (60, proto_instruction_c, [.t 4]) := by kernel_rfl

@[go_sem] def q34_0 : List AI := [
 .j 1 (.box 340001 11 (.t 0)),
 .j 2 (.box 340002 11 (.c (.agg [(.str []), (.int .i64 0), (.int .i64 0), (.bool false), (.int .i64 0), .nils, .nils, .nils, .nils, .nils, .nils])))]
@[go_sem] def q34_1 : List AI := [
 .j 8 (.faddr 5 (.t 1)),
 .j 9 (.load 1 false (.t 8)),
 .j 10 (.len 0 (.t 9)),
 .j 11 (.mksl 340011 [(.int .i64 0), (.int .i64 0), (.int .i64 0), (.int .i64 0), (.int .i64 0)] (.t 10)),
 .j 3 (.mov (.t 11))]
@[go_sem] def q34_2 : List AI := [
 .j 12 (.mov (.t 3)),
 .j 13 (.faddr 5 (.t 1)),
 .j 14 (.load 1 false (.t 13)),
 .j 15 (.copy 5 (.t 12) (.t 14))]
@[go_sem] def q34_3 : List AI := [
 .j 16 (.mov (.t 3)),
 .j 17 (.len 0 (.t 16)),
 .j 18 (.mov (.z 0))]
@[go_sem] def q34_4 : List AI := [
 .j 19 (.bin .lss (.t 18) (.t 17))]
@[go_sem] def q34_5 : List AI := [
 .j 20 (.mov (.t 18)),
 .j 21 (.iaddr 5 (.t 16) (.t 18)),
 .j 22 (.load 5 true (.t 21)),
 .j 5 (.box 340005 5 (.c (.agg [(.int .i64 0), (.int .i64 0), (.int .i64 0), (.int .i64 0), (.int .i64 0)]))),
 .j 4 (.mov (.t 20)),
 .e (.store 5 (.t 5) (.t 22))]
@[go_sem] def q34_6 : List AI := [
 .j 24 (.load 5 true (.t 5)),
 .j 25 (.call 35 [(.t 24)]),
 .j 23 (.mov (.t 25)),
 .j 26 (.ext 0 (.t 23)),
 .j 27 (.ext 1 (.t 23)),
 .j 6 (.mov (.t 26)),
 .j 7 (.mov (.t 27))]
@[go_sem] def q34_7 : List AI := [
 .j 28 (.mov (.t 7)),
 .j 29 (.mov (.t 28)),
 .k 30 29 true (.faddr 0 (.t 5)),
 .k 31 29 true (.load 1 false (.t 30)),
 .k 32 29 true (.bin .neq (.t 31) (.z 26)),
 .j 33 (.pick (.t 29) (.t 32) (.c (.bool false)))]
@[go_sem] def q34_8 : List AI := [
 .j 34 (.mov (.t 3)),
 .j 35 (.mov (.t 4)),
 .j 36 (.load 11 true (.t 1)),
 .j 37 (.mov (.t 6)),
 .j 38 (.call 36 [(.t 36), (.t 37)]),
 .j 39 (.iaddr 5 (.t 34) (.t 35)),
 .j 40 (.faddr 2 (.t 39)),
 .e (.store 1 (.t 40) (.t 38))]
@[go_sem] def q34_9 : List AI := [
 .j 41 (.bin .add (.t 18) (.z 1)),
 .j 18 (.mov (.t 41))]
@[go_sem] def peephole_Jumps_1_l0' : AC := .seq (.ops [q34_4]) (.seq (.cond (.t 19) (.skip) (.exit 0)) (.seq (.block 1 (.seq (.ops [q34_5]) (.seq (.ops [q34_6]) (.seq (.ops [q34_7]) (.cond (.t 33) (.ops [q34_8]) (.skip)))))) (.ops [q34_9])))
def peephole_Jumps_1_l0 : AC := peephole_Jumps_1_l0'
theorem peephole_Jumps_1_l0_eq : peephole_Jumps_1_l0 = peephole_Jumps_1_l0' := rfl
@[go_sem] def q34_10 : List AI := [
 .j 42 (.mov (.t 3)),
 .j 43 (.faddr 5 (.t 1)),
 .e (.store 1 (.t 43) (.t 42))]
@[go_sem] def q34_11 : List AI := [
 .j 44 (.load 11 true (.t 1)),
 .e (.store 11 (.t 2) (.t 44))]
@[go_sem] def peephole_Jumps_1_c : AC := .seq (.ops [q34_0]) (.seq (.ops [q34_1]) (.seq (.ops [q34_2]) (.seq (.seq (.ops [q34_3]) (.block 0 (.loop peephole_Jumps_1_l0))) (.seq (.ops [q34_10]) (.seq (.ops [q34_11]) (.ret))))))
theorem peephole_Jumps_1_ok : compF Tryz.prog 34 = some (45, peephole_Jumps_1_c, [.c 2 11 true]) := by kernel_rfl

@[go_sem] def q35_0 : List AI := [
 .j 1 (.box 350001 5 (.t 0)),
 .j 2 (.mov (.z 0)),
 .j 3 (.mov (.c (.bool false)))]
@[go_sem] def q35_1 : List AI := [
 .j 4 (.faddr 0 (.t 1)),
 .j 5 (.load 1 false (.t 4))]
@[go_sem] def q35_2 : List AI := [
 .j 7 (.bin .eql (.t 5) (.z 14)),
 .j 6 (.mov (.t 7))]
@[go_sem] def q35_3 : List AI := [
 .j 8 (.bin .eql (.t 5) (.z 15)),
 .j 6 (.mov (.t 8))]
@[go_sem] def q35_4 : List AI := [
 .j 9 (.bin .eql (.t 5) (.z 23)),
 .j 6 (.mov (.t 9))]
@[go_sem] def q35_5 : List AI := [
 .j 10 (.bin .eql (.t 5) (.z 24)),
 .j 6 (.mov (.t 10))]
@[go_sem] def q35_6 : List AI := [
 .j 11 (.bin .eql (.t 5) (.z 26)),
 .j 6 (.mov (.t 11))]
@[go_sem] def q35_7 : List AI := [
 .j 12 (.faddr 2 (.t 1)),
 .j 13 (.load 1 false (.t 12)),
 .j 2 (.mov (.t 13)),
 .j 3 (.mov (.c (.bool true)))]
@[go_sem] def q35_8 : List AI := [
 .j 2 (.mov (.z 0)),
 .j 3 (.mov (.c (.bool false)))]
@[go_sem] def opcode_Target_c : AC := .seq (.ops [q35_0]) (.seq (.seq (.ops [q35_1]) (.block 0 (.seq (.seq (.ops [q35_2]) (.cond (.t 6) (.skip) (.seq (.ops [q35_3]) (.cond (.t 6) (.skip) (.seq (.ops [q35_4]) (.cond (.t 6) (.skip) (.seq (.ops [q35_5]) (.cond (.t 6) (.skip) (.ops [q35_6]))))))))) (.cond (.t 6) (.seq (.ops [q35_7]) (.ret)) (.skip))))) (.seq (.ops [q35_8]) (.ret)))
theorem opcode_Target_ok : compF Tryz.prog 35 = some (14, opcode_Target_c, [.t 2, .t 3]) := by kernel_rfl

@[go_sem] def q36_0 : List AI := [
 .j 2 (.box 360002 11 (.t 0)),
 .j 4 (.mov (.z 0))]
@[go_sem] def q36_1 : List AI := [
 .j 7 (.mkmap 360007),
 .j 5 (.mov (.t 7))]
@[go_sem] def q36_2 : List AI := [
 .j 8 (.mov (.t 5)),
 .j 9 (.mov (.t 1)),
 .e (.mput 0 (.t 8) (.t 9) (.c (.bool true)))]
@[go_sem] def q36_3 : List AI := [
 .j 10 (.faddr 5 (.t 2)),
 .j 11 (.load 1 false (.t 10)),
 .j 12 (.mov (.t 1)),
 .j 13 (.iaddr 5 (.t 11) (.t 12)),
 .j 14 (.load 5 true (.t 13)),
 .j 6 (.box 360006 5 (.c (.agg [(.int .i64 0), (.int .i64 0), (.int .i64 0), (.int .i64 0), (.int .i64 0)]))),
 .e (.store 5 (.t 6) (.t 14))]
@[go_sem] def q36_4 : List AI := [
 .j 18 (.faddr 0 (.t 6)),
 .j 19 (.load 1 false (.t 18)),
 .j 20 (.bin .neq (.t 19) (.z 14)),
 .j 17 (.mov (.t 20))]
@[go_sem] def q36_5 : List AI := [
 .j 22 (.mov (.t 5)),
 .j 23 (.faddr 2 (.t 6)),
 .j 24 (.load 1 false (.t 23)),
 .j 25 (.look 0 (.bool false) false (.t 22) (.t 24)),
 .j 21 (.mov (.t 25))]
@[go_sem] def q36_6 : List AI := [
 .j 15 (.faddr 2 (.t 6)),
 .j 16 (.load 1 false (.t 15)),
 .j 1 (.mov (.t 16))]
@[go_sem] def peephole_final_l0' : AC := .block 1 (.seq (.ops [q36_2]) (.seq (.ops [q36_3]) (.block 2 (.seq (.ops [q36_4]) (.cond (.t 17) (.exit 0) (.seq (.ops [q36_5]) (.cond (.t 21) (.exit 0) (.ops [q36_6]))))))))
def peephole_final_l0 : AC := peephole_final_l0'
theorem peephole_final_l0_eq : peephole_final_l0 = peephole_final_l0' := rfl
@[go_sem] def q36_7 : List AI := [
 .j 26 (.mov (.t 1)),
 .j 4 (.mov (.t 26))]
@[go_sem] def peephole_final_c : AC := .seq (.ops [q36_0]) (.block 999999999 (.seq (.ops [q36_1]) (.seq (.skip) (.seq (.block 0 (.loop peephole_final_l0)) (.seq (.ops [q36_7]) (.ret))))))
theorem peephole_final_ok : compF Tryz.prog 36 = some (27, peephole_final_c, [.t 4]) := by kernel_rfl

@[go_sem] def q37_0 : List AI := [
 .j 1 (.box 370001 11 (.t 0)),
 .j 2 (.mov (.z 0))]
@[go_sem] def q37_1 : List AI := [
 .j 7 (.load 11 true (.t 1)),
 .j 8 (.call 68 [(.t 7)]),
 .j 6 (.mov (.t 8)),
 .j 9 (.ext 0 (.t 6)),
 .j 10 (.ext 1 (.t 6)),
 .j 11 (.ext 2 (.t 6)),
 .j 3 (.mov (.t 9)),
 .j 4 (.mov (.t 10)),
 .j 5 (.mov (.t 11))]
@[go_sem] def q37_2 : List AI := [
 .j 12 (.mov (.t 5)),
 .j 2 (.mov (.t 12))]
@[go_sem] def verify_Check_c : AC := .seq (.ops [q37_0]) (.seq (.ops [q37_1]) (.seq (.ops [q37_2]) (.ret)))
theorem verify_Check_ok : compF Tryz.prog 37 = some (13, verify_Check_c, [.t 2]) := by kernel_rfl

@[go_sem] def q38_0 : List AI := [
 .j 2 (.box 380002 11 (.t 0)),
 .j 3 (.box 380003 11 (.t 1)),
 .j 4 (.mov (.c (.bool false)))]
@[go_sem] def q38_1 : List AI := [
 .j 5 (.faddr 0 (.t 2)),
 .j 6 (.load 1 false (.t 5)),
 .j 7 (.faddr 0 (.t 3)),
 .j 8 (.load 1 false (.t 7)),
 .j 9 (.bin .eql (.t 6) (.t 8)),
 .j 10 (.mov (.t 9)),
 .k 11 10 true (.faddr 1 (.t 2)),
 .k 12 10 true (.load 1 false (.t 11)),
 .k 13 10 true (.faddr 1 (.t 3)),
 .k 14 10 true (.load 1 false (.t 13)),
 .k 15 10 true (.bin .eql (.t 12) (.t 14)),
 .j 16 (.pick (.t 10) (.t 15) (.c (.bool false))),
 .j 17 (.mov (.t 16)),
 .k 18 17 true (.faddr 2 (.t 2)),
 .k 19 17 true (.load 1 false (.t 18)),
 .k 20 17 true (.faddr 2 (.t 3)),
 .k 21 17 true (.load 1 false (.t 20)),
 .k 22 17 true (.bin .eql (.t 19) (.t 21)),
 .j 23 (.pick (.t 17) (.t 22) (.c (.bool false))),
 .j 24 (.mov (.t 23)),
 .k 25 24 true (.faddr 3 (.t 2)),
 .k 26 24 true (.load 1 false (.t 25)),
 .k 27 24 true (.faddr 3 (.t 3)),
 .k 28 24 true (.load 1 false (.t 27)),
 .k 29 24 true (.eqp 2 false (.t 26) (.t 28)),
 .j 30 (.pick (.t 24) (.t 29) (.c (.bool false))),
 .j 31 (.mov (.t 30)),
 .k 32 31 true (.faddr 4 (.t 2)),
 .k 33 31 true (.load 1 false (.t 32)),
 .k 34 31 true (.faddr 4 (.t 3)),
 .k 35 31 true (.load 1 false (.t 34)),
 .k 36 31 true (.bin .eql (.t 33) (.t 35)),
 .j 37 (.pick (.t 31) (.t 36) (.c (.bool false))),
 .j 38 (.mov (.t 37)),
 .k 39 38 true (.faddr 5 (.t 2)),
 .k 40 38 true (.load 1 false (.t 39)),
 .k 41 38 true (.faddr 5 (.t 3)),
 .k 42 38 true (.load 1 false (.t 41)),
 .k 43 38 true (.call 69 [(.t 40), (.t 42)]),
 .j 44 (.pick (.t 38) (.t 43) (.c (.bool false))),
 .j 45 (.mov (.t 44)),
 .k 46 45 true (.faddr 6 (.t 2)),
 .k 47 45 true (.load 1 false (.t 46)),
 .k 48 45 true (.faddr 6 (.t 3)),
 .k 49 45 true (.load 1 false (.t 48)),
 .k 50 45 true (.call 70 [(.t 47), (.t 49)]),
 .j 51 (.pick (.t 45) (.t 50) (.c (.bool false))),
 .j 52 (.mov (.t 51)),
 .k 53 52 true (.faddr 7 (.t 2)),
 .k 54 52 true (.load 1 false (.t 53)),
 .k 55 52 true (.faddr 7 (.t 3)),
 .k 56 52 true (.load 1 false (.t 55)),
 .k 57 52 true (.call 71 [(.t 54), (.t 56)]),
 .j 58 (.pick (.t 52) (.t 57) (.c (.bool false))),
 .j 59 (.mov (.t 58)),
 .k 60 59 true (.faddr 9 (.t 2)),
 .k 61 59 true (.load 1 false (.t 60)),
 .k 62 59 true (.faddr 9 (.t 3)),
 .k 63 59 true (.load 1 false (.t 62)),
 .k 64 59 true (.call 72 [(.t 61), (.t 63)]),
 .j 65 (.pick (.t 59) (.t 64) (.c (.bool false))),
 .j 66 (.mov (.t 65)),
 .k 67 66 true (.faddr 10 (.t 2)),
 .k 68 66 true (.load 1 false (.t 67)),
 .k 69 66 true (.faddr 10 (.t 3)),
 .k 70 66 true (.load 1 false (.t 69)),
 .k 71 66 true (.call 73 [(.t 68), (.t 70)]),
 .j 72 (.pick (.t 66) (.t 71) (.c (.bool false))),
 .j 73 (.mov (.t 72)),
 .k 74 73 true (.faddr 8 (.t 2)),
 .k 75 73 true (.load 1 false (.t 74)),
 .k 76 73 true (.faddr 8 (.t 3)),
 .k 77 73 true (.load 1 false (.t 76)),
 .k 78 73 true (.call 74 [(.t 75), (.t 77), (.f 38)]),
 .j 79 (.pick (.t 73) (.t 78) (.c (.bool false))),
 .j 4 (.mov (.t 79))]
@[go_sem] def proto_Same_c : AC := .seq (.ops [q38_0]) (.seq (.ops [q38_1]) (.ret))
theorem proto_Same_ok : compF Tryz.prog 38 = some (80, proto_Same_c, [.t 4]) := by kernel_rfl

@[go_sem] def q39_0 : List AI := [
 .j 2 (.mov (.c .nils))]
@[go_sem] def q39_1 : List AI := [
 .j 3 (.mov (.c .nils))]
@[go_sem] def q39_2 : List AI := [
 .j 9 (.mov (.t 0)),
 .j 10 (.len 0 (.t 9)),
 .j 11 (.mov (.z 0))]
@[go_sem] def q39_3 : List AI := [
 .j 12 (.bin .lss (.t 11) (.t 10))]
@[go_sem] def q39_4 : List AI := [
 .j 13 (.iaddr 11 (.t 9) (.t 11)),
 .j 14 (.load 11 true (.t 13)),
 .j 5 (.box 390005 11 (.c (.agg [(.str []), (.int .i64 0), (.int .i64 0), (.bool false), (.int .i64 0), .nils, .nils, .nils, .nils, .nils, .nils]))),
 .e (.store 11 (.t 5) (.t 14))]
@[go_sem] def q39_5 : List AI := [
 .j 15 (.build [(.int .i64 0), (.int .i64 0), (.int .i64 0), (.int .i64 0), (.int .i64 0)] [(0, 1, (.z 18))]),
 .j 16 (.mkrow 390016 5 [(.t 15)]),
 .j 17 (.build [(.str []), (.int .i64 0), (.int .i64 0), (.bool false), (.int .i64 0), .nils, .nils, .nils, .nils, .nils, .nils] [(5, 1, (.t 16))]),
 .j 6 (.box 390006 11 (.c (.agg [(.str []), (.int .i64 0), (.int .i64 0), (.bool false), (.int .i64 0), .nils, .nils, .nils, .nils, .nils, .nils]))),
 .e (.store 11 (.t 6) (.t 17))]
@[go_sem] def q39_6 : List AI := [
 .j 18 (.faddr 9 (.t 5)),
 .j 19 (.load 1 false (.t 18)),
 .j 20 (.len 0 (.t 19)),
 .j 21 (.mov (.z 0))]
@[go_sem] def q39_7 : List AI := [
 .j 22 (.bin .lss (.t 21) (.t 20))]
@[go_sem] def q39_8 : List AI := [
 .j 23 (.iaddr 3 (.t 19) (.t 21)),
 .j 24 (.load 3 true (.t 23)),
 .j 8 (.box 390008 3 (.c (.agg [(.str []), (.bool false), (.int .i64 0)]))),
 .e (.store 3 (.t 8) (.t 24))]
@[go_sem] def q39_9 : List AI := [
 .j 25 (.faddr 0 (.t 8)),
 .e (.store 1 (.t 25) (.c (.str [])))]
@[go_sem] def q39_10 : List AI := [
 .j 26 (.faddr 2 (.t 8)),
 .j 27 (.load 1 false (.t 26)),
 .j 28 (.mm true [(.t 27), (.z 0)]),
 .j 29 (.faddr 2 (.t 8)),
 .e (.store 1 (.t 29) (.t 28))]
@[go_sem] def q39_11 : List AI := [
 .j 30 (.faddr 9 (.t 6)),
 .j 31 (.load 1 false (.t 30)),
 .j 32 (.load 3 true (.t 8)),
 .j 33 (.mkisl 3 [(.t 32)]),
 .j 34 (.app 390034 3 (.t 31) (.t 33)),
 .j 35 (.faddr 9 (.t 6)),
 .e (.store 1 (.t 35) (.t 34))]
@[go_sem] def q39_12 : List AI := [
 .j 36 (.bin .add (.t 21) (.z 1)),
 .j 21 (.mov (.t 36))]
@[go_sem] def peephole_shells_l1' : AC := .seq (.ops [q39_7]) (.seq (.cond (.t 22) (.skip) (.exit 2)) (.seq (.block 3 (.seq (.ops [q39_8]) (.seq (.ops [q39_9]) (.seq (.ops [q39_10]) (.ops [q39_11]))))) (.ops [q39_12])))
def peephole_shells_l1 : AC := peephole_shells_l1'
theorem peephole_shells_l1_eq : peephole_shells_l1 = peephole_shells_l1' := rfl
@[go_sem] def q39_13 : List AI := [
 .j 37 (.faddr 9 (.t 6)),
 .j 38 (.load 1 false (.t 37)),
 .j 39 (.faddr 9 (.t 6)),
 .j 40 (.load 1 false (.t 39)),
 .j 41 (.len 0 (.t 40)),
 .j 42 (.mm false [(.t 41), (.z 60)]),
 .j 43 (.slc 3 (.t 38) none (some (.t 42))),
 .j 44 (.faddr 9 (.t 6)),
 .e (.store 1 (.t 44) (.t 43))]
@[go_sem] def q39_14 : List AI := [
 .j 45 (.mov (.t 3)),
 .j 46 (.load 11 true (.t 6)),
 .j 47 (.mkisl 11 [(.t 46)]),
 .j 48 (.app 390048 11 (.t 45) (.t 47)),
 .j 3 (.mov (.t 48))]
@[go_sem] def q39_15 : List AI := [
 .j 49 (.bin .add (.t 11) (.z 1)),
 .j 11 (.mov (.t 49))]
@[go_sem] def peephole_shells_l0' : AC := .seq (.ops [q39_3]) (.seq (.cond (.t 12) (.skip) (.exit 0)) (.seq (.block 1 (.seq (.ops [q39_4]) (.seq (.ops [q39_5]) (.seq (.seq (.ops [q39_6]) (.block 2 (.loop peephole_shells_l1))) (.seq (.ops [q39_13]) (.ops [q39_14])))))) (.ops [q39_15])))
def peephole_shells_l0 : AC := peephole_shells_l0'
theorem peephole_shells_l0_eq : peephole_shells_l0 = peephole_shells_l0' := rfl
@[go_sem] def q39_16 : List AI := [
 .j 50 (.mov (.t 3)),
 .j 2 (.mov (.t 50))]
@[go_sem] def peephole_shells_c : AC := .seq (.ops [q39_0]) (.seq (.ops [q39_1]) (.seq (.seq (.ops [q39_2]) (.block 0 (.loop peephole_shells_l0))) (.seq (.ops [q39_16]) (.ret))))
theorem peephole_shells_ok : compF Tryz.prog 39 = some (51, peephole_shells_c, [.t 2]) := by kernel_rfl

@[go_sem] def q40_0 : List AI := [
 .j 2 (.box 400002 11 (.t 0)),
 .j 4 (.mov (.c .nils))]
@[go_sem] def q40_1 : List AI := [
 .j 8 (.mov (.t 1)),
 .j 9 (.bin .lss (.t 8) (.z 0)),
 .j 10 (.mov (.t 9)),
 .k 11 10 false (.mov (.t 1)),
 .k 12 10 false (.faddr 5 (.t 2)),
 .k 13 10 false (.load 1 false (.t 12)),
 .k 14 10 false (.len 0 (.t 13)),
 .k 15 10 false (.bin .geq (.t 11) (.t 14)),
 .j 16 (.pick (.t 10) (.c (.bool true)) (.t 15))]
@[go_sem] def q40_2 : List AI := [
 .j 4 (.mov (.c .nils))]
@[go_sem] def q40_3 : List AI := [
 .j 5 (.mov (.c .nils))]
@[go_sem] def q40_4 : List AI := [
 .j 18 (.faddr 5 (.t 2)),
 .j 19 (.load 1 false (.t 18)),
 .j 20 (.mov (.t 1)),
 .j 21 (.iaddr 5 (.t 19) (.t 20)),
 .j 22 (.load 5 true (.t 21)),
 .j 23 (.call 35 [(.t 22)]),
 .j 17 (.mov (.t 23)),
 .j 24 (.ext 0 (.t 17)),
 .j 25 (.ext 1 (.t 17)),
 .j 6 (.mov (.t 24)),
 .j 7 (.mov (.t 25))]
@[go_sem] def q40_5 : List AI := [
 .j 26 (.mov (.t 7)),
 .j 27 (.mov (.t 26)),
 .k 28 27 true (.mov (.t 6)),
 .k 29 27 true (.bin .geq (.t 28) (.z 0)),
 .j 30 (.pick (.t 27) (.t 29) (.c (.bool false))),
 .j 31 (.mov (.t 30)),
 .k 32 31 true (.mov (.t 6)),
 .k 33 31 true (.faddr 5 (.t 2)),
 .k 34 31 true (.load 1 false (.t 33)),
 .k 35 31 true (.len 0 (.t 34)),
 .k 36 31 true (.bin .lss (.t 32) (.t 35)),
 .j 37 (.pick (.t 31) (.t 36) (.c (.bool false)))]
@[go_sem] def q40_6 : List AI := [
 .j 38 (.mov (.t 5)),
 .j 39 (.mov (.t 6)),
 .j 40 (.mkisl 1 [(.t 39)]),
 .j 41 (.app 400041 1 (.t 38) (.t 40)),
 .j 5 (.mov (.t 41))]
@[go_sem] def q40_7 : List AI := [
 .j 42 (.faddr 5 (.t 2)),
 .j 43 (.load 1 false (.t 42)),
 .j 44 (.mov (.t 1)),
 .j 45 (.iaddr 5 (.t 43) (.t 44)),
 .j 46 (.load 5 true (.t 45)),
 .j 47 (.call 75 [(.t 46)]),
 .j 48 (.mov (.t 47)),
 .k 49 48 true (.mov (.t 1)),
 .k 50 48 true (.bin .add (.t 49) (.z 1)),
 .k 51 48 true (.faddr 5 (.t 2)),
 .k 52 48 true (.load 1 false (.t 51)),
 .k 53 48 true (.len 0 (.t 52)),
 .k 54 48 true (.bin .lss (.t 50) (.t 53)),
 .j 55 (.pick (.t 48) (.t 54) (.c (.bool false)))]
@[go_sem] def q40_8 : List AI := [
 .j 56 (.mov (.t 5)),
 .j 57 (.mov (.t 1)),
 .j 58 (.bin .add (.t 57) (.z 1)),
 .j 59 (.mkisl 1 [(.t 58)]),
 .j 60 (.app 400060 1 (.t 56) (.t 59)),
 .j 5 (.mov (.t 60))]
@[go_sem] def q40_9 : List AI := [
 .j 61 (.mov (.t 5)),
 .j 62 (.call 76 [(.t 61)])]
@[go_sem] def q40_10 : List AI := [
 .j 63 (.mov (.t 5)),
 .j 64 (.call 77 [(.t 63)]),
 .j 4 (.mov (.t 64))]
@[go_sem] def flow_Next_c : AC := .seq (.ops [q40_0]) (.seq (.seq (.ops [q40_1]) (.cond (.t 16) (.seq (.ops [q40_2]) (.ret)) (.skip))) (.seq (.ops [q40_3]) (.seq (.seq (.ops [q40_4]) (.seq (.ops [q40_5]) (.cond (.t 37) (.ops [q40_6]) (.skip)))) (.seq (.seq (.ops [q40_7]) (.cond (.t 55) (.ops [q40_8]) (.skip))) (.seq (.ops [q40_9]) (.seq (.ops [q40_10]) (.ret)))))))
theorem flow_Next_ok : compF Tryz.prog 40 = some (65, flow_Next_c, [.t 4]) := by kernel_rfl

@[go_sem] def q41_0 : List AI := [
 .j 1 (.box 410001 11 (.t 0)),
 .j 2 (.mov (.z 0))]
@[go_sem] def q41_1 : List AI := [
 .j 3 (.faddr 4 (.t 1)),
 .j 4 (.load 1 false (.t 3)),
 .j 5 (.mm true [(.t 4), (.z 0)]),
 .j 6 (.mm false [(.t 5), (.z 4096)]),
 .j 2 (.mov (.t 6))]
@[go_sem] def flow_size_c : AC := .seq (.ops [q41_0]) (.seq (.ops [q41_1]) (.ret))
theorem flow_size_ok : compF Tryz.prog 41 = some (7, flow_size_c, [.t 2]) := by kernel_rfl

@[go_sem] def q42_0 : List AI := [
 .j 2 (.box 420002 11 (.t 0)),
 .j 3 (.box 420003 5 (.t 1)),
 .j 4 (.mov (.c .nilp))]
@[go_sem] def q42_1 : List AI := [
 .j 10 (.build (List.replicate 4096 (.bool false)) []),
 .j 11 (.box 420011 4096 (.t 10)),
 .j 5 (.mov (.t 11))]
@[go_sem] def q42_2 : List AI := [
 .j 13 (.load 5 true (.t 3)),
 .j 14 (.call 64 [(.t 13)]),
 .j 12 (.mov (.t 14)),
 .j 15 (.ext 0 (.t 12)),
 .j 16 (.ext 1 (.t 12)),
 .j 6 (.mov (.t 15)),
 .j 7 (.mov (.t 16))]
@[go_sem] def q42_3 : List AI := [
 .j 17 (.mov (.t 5)),
 .j 18 (.load 11 true (.t 2)),
 .j 19 (.mov (.t 6)),
 .j 20 (.mov (.t 7)),
 .j 21 (.call 78 [(.t 17), (.t 18), (.t 19), (.t 20)])]
@[go_sem] def q42_4 : List AI := [
 .j 22 (.faddr 0 (.t 3)),
 .j 23 (.load 1 false (.t 22)),
 .j 24 (.bin .eql (.t 23) (.z 22)),
 .j 25 (.mov (.t 24)),
 .k 26 25 true (.faddr 2 (.t 3)),
 .k 27 25 true (.load 1 false (.t 26)),
 .k 28 25 true (.bin .geq (.t 27) (.z 0)),
 .j 29 (.pick (.t 25) (.t 28) (.c (.bool false))),
 .j 30 (.mov (.t 29)),
 .k 31 30 true (.faddr 2 (.t 3)),
 .k 32 30 true (.load 1 false (.t 31)),
 .k 33 30 true (.faddr 8 (.t 2)),
 .k 34 30 true (.load 1 false (.t 33)),
 .k 35 30 true (.len 0 (.t 34)),
 .k 36 30 true (.bin .lss (.t 32) (.t 35)),
 .j 37 (.pick (.t 30) (.t 36) (.c (.bool false)))]
@[go_sem] def q42_5 : List AI := [
 .j 38 (.faddr 8 (.t 2)),
 .j 39 (.load 1 false (.t 38)),
 .j 40 (.faddr 2 (.t 3)),
 .j 41 (.load 1 false (.t 40)),
 .j 42 (.iaddr 11 (.t 39) (.t 41)),
 .j 43 (.faddr 9 (.t 42)),
 .j 44 (.load 1 false (.t 43)),
 .j 45 (.len 0 (.t 44)),
 .j 46 (.mov (.z 0))]
@[go_sem] def q42_6 : List AI := [
 .j 47 (.bin .lss (.t 46) (.t 45))]
@[go_sem] def q42_7 : List AI := [
 .j 48 (.iaddr 3 (.t 44) (.t 46)),
 .j 49 (.load 3 true (.t 48)),
 .j 9 (.box 420009 3 (.c (.agg [(.str []), (.bool false), (.int .i64 0)]))),
 .e (.store 3 (.t 9) (.t 49))]
@[go_sem] def q42_8 : List AI := [
 .j 50 (.faddr 1 (.t 9)),
 .j 51 (.load 1 false (.t 50))]
@[go_sem] def q42_9 : List AI := [
 .j 52 (.mov (.t 5)),
 .j 53 (.load 11 true (.t 2)),
 .j 54 (.faddr 2 (.t 9)),
 .j 55 (.load 1 false (.t 54)),
 .j 56 (.mkisl 1 [(.t 55)]),
 .j 57 (.call 78 [(.t 52), (.t 53), (.t 56), (.z (-1))])]
@[go_sem] def q42_10 : List AI := [
 .j 58 (.bin .add (.t 46) (.z 1)),
 .j 46 (.mov (.t 58))]
@[go_sem] def flow_uses_l0' : AC := .seq (.ops [q42_6]) (.seq (.cond (.t 47) (.skip) (.exit 0)) (.seq (.block 1 (.seq (.ops [q42_7]) (.seq (.ops [q42_8]) (.cond (.t 51) (.ops [q42_9]) (.skip))))) (.ops [q42_10])))
def flow_uses_l0 : AC := flow_uses_l0'
theorem flow_uses_l0_eq : flow_uses_l0 = flow_uses_l0' := rfl
@[go_sem] def q42_11 : List AI := [
 .j 59 (.mov (.t 5)),
 .j 4 (.mov (.t 59))]
@[go_sem] def flow_uses_c : AC := .seq (.ops [q42_0]) (.seq (.ops [q42_1]) (.seq (.ops [q42_2]) (.seq (.ops [q42_3]) (.seq (.seq (.ops [q42_4]) (.cond (.t 37) (.seq (.ops [q42_5]) (.block 0 (.loop flow_uses_l0))) (.skip))) (.seq (.ops [q42_11]) (.ret))))))
theorem flow_uses_ok : compF Tryz.prog 42 = some (60, flow_uses_c, [.t 4]) := by kernel_rfl

@[go_sem] def q43_0 : List AI := [
 .j 3 (.box 430003 11 (.t 0)),
 .j 6 (.mov (.c .nilp))]
@[go_sem] def q43_1 : List AI := [
 .j 12 (.build (List.replicate 4096 (.bool false)) []),
 .j 13 (.box 430013 4096 (.t 12)),
 .j 7 (.mov (.t 13))]
@[go_sem] def q43_2 : List AI := [
 .j 14 (.faddr 5 (.t 3)),
 .j 15 (.load 1 false (.t 14)),
 .j 16 (.mov (.t 1)),
 .j 17 (.iaddr 5 (.t 15) (.t 16)),
 .j 18 (.load 5 true (.t 17)),
 .j 8 (.box 430008 5 (.c (.agg [(.int .i64 0), (.int .i64 0), (.int .i64 0), (.int .i64 0), (.int .i64 0)]))),
 .e (.store 5 (.t 8) (.t 18))]
@[go_sem] def q43_3 : List AI := [
 .j 19 (.mov (.t 2)),
 .j 20 (.faddr 2 (.t 8)),
 .j 21 (.load 1 false (.t 20)),
 .j 22 (.bin .eql (.t 19) (.t 21)),
 .j 23 (.mov (.t 22)),
 .k 24 23 true (.mov (.t 2)),
 .k 25 23 true (.mov (.t 1)),
 .k 26 23 true (.bin .add (.t 25) (.z 1)),
 .k 27 23 true (.bin .neq (.t 24) (.t 26)),
 .j 28 (.pick (.t 23) (.t 27) (.c (.bool false))),
 .j 9 (.mov (.t 28))]
@[go_sem] def q43_4 : List AI := [
 .j 29 (.faddr 0 (.t 8)),
 .j 30 (.load 1 false (.t 29))]
@[go_sem] def q43_5 : List AI := [
 .j 32 (.bin .eql (.t 30) (.z 24)),
 .j 31 (.mov (.t 32))]
@[go_sem] def q43_6 : List AI := [
 .j 33 (.bin .eql (.t 30) (.z 26)),
 .j 31 (.mov (.t 33))]
@[go_sem] def q43_7 : List AI := [
 .j 34 (.mov (.t 9)),
 .j 35 (.un .not (.t 34))]
@[go_sem] def q43_8 : List AI := [
 .j 36 (.mov (.t 7)),
 .j 6 (.mov (.t 36))]
@[go_sem] def q43_9 : List AI := [
 .j 38 (.bin .eql (.t 30) (.z 23)),
 .j 37 (.mov (.t 38))]
@[go_sem] def q43_10 : List AI := [
 .j 39 (.mov (.t 2)),
 .j 40 (.faddr 2 (.t 8)),
 .j 41 (.load 1 false (.t 40)),
 .j 42 (.bin .eql (.t 39) (.t 41))]
@[go_sem] def q43_11 : List AI := [
 .j 43 (.mov (.t 7)),
 .j 6 (.mov (.t 43))]
@[go_sem] def q43_12 : List AI := [
 .j 45 (.load 5 true (.t 8)),
 .j 46 (.call 65 [(.t 45)]),
 .j 44 (.mov (.t 46)),
 .j 47 (.ext 0 (.t 44)),
 .j 48 (.ext 1 (.t 44)),
 .j 10 (.mov (.t 47)),
 .j 11 (.mov (.t 48))]
@[go_sem] def q43_13 : List AI := [
 .j 49 (.mov (.t 7)),
 .j 50 (.load 11 true (.t 3)),
 .j 51 (.mov (.t 10)),
 .j 52 (.mov (.t 11)),
 .j 53 (.call 78 [(.t 49), (.t 50), (.t 51), (.t 52)])]
@[go_sem] def q43_14 : List AI := [
 .j 54 (.mov (.t 7)),
 .j 6 (.mov (.t 54))]
@[go_sem] def flow_defines_c : AC := .seq (.ops [q43_0]) (.seq (.ops [q43_1]) (.seq (.ops [q43_2]) (.seq (.ops [q43_3]) (.seq (.seq (.ops [q43_4]) (.block 0 (.seq (.seq (.ops [q43_5]) (.cond (.t 31) (.skip) (.ops [q43_6]))) (.cond (.t 31) (.seq (.ops [q43_7]) (.cond (.t 35) (.seq (.ops [q43_8]) (.ret)) (.skip))) (.seq (.ops [q43_9]) (.cond (.t 37) (.seq (.ops [q43_10]) (.cond (.t 42) (.seq (.ops [q43_11]) (.ret)) (.skip))) (.skip))))))) (.seq (.ops [q43_12]) (.seq (.ops [q43_13]) (.seq (.ops [q43_14]) (.ret))))))))
theorem flow_defines_ok : compF Tryz.prog 43 = some (55, flow_defines_c, [.t 6]) := by kernel_rfl

@[go_sem] def q44_0 : List AI := [
 .j 4 (.mov (.z 0))]
@[go_sem] def q44_1 : List AI := [
 .j 6 (.mov (.t 0)),
 .j 7 (.len 0 (.t 6)),
 .j 8 (.mov (.z 0))]
@[go_sem] def q44_2 : List AI := [
 .j 9 (.bin .lss (.t 8) (.t 7))]
@[go_sem] def q44_3 : List AI := [
 .j 10 (.mov (.t 8)),
 .j 5 (.mov (.t 10))]
@[go_sem] def q44_4 : List AI := [
 .j 11 (.mov (.t 1)),
 .j 12 (.mov (.t 0)),
 .j 13 (.mov (.t 5)),
 .j 14 (.iaddr 1 (.t 12) (.t 13)),
 .j 15 (.load 1 false (.t 14)),
 .j 16 (.bin .eql (.t 11) (.t 15))]
@[go_sem] def q44_5 : List AI := [
 .j 17 (.mov (.t 5)),
 .j 4 (.mov (.t 17))]
@[go_sem] def q44_6 : List AI := [
 .j 18 (.bin .add (.t 8) (.z 1)),
 .j 8 (.mov (.t 18))]
@[go_sem] def slices_Index_int_int_l0' : AC := .seq (.ops [q44_2]) (.seq (.cond (.t 9) (.skip) (.exit 0)) (.seq (.block 1 (.seq (.ops [q44_3]) (.seq (.ops [q44_4]) (.cond (.t 16) (.seq (.ops [q44_5]) (.ret)) (.skip))))) (.ops [q44_6])))
def slices_Index_int_int_l0 : AC := slices_Index_int_int_l0'
theorem slices_Index_int_int_l0_eq : slices_Index_int_int_l0 = slices_Index_int_int_l0' := rfl
@[go_sem] def q44_7 : List AI := [
 .j 4 (.mov (.z (-1)))]
@[go_sem] def slices_Index_int_int_c : AC := .seq (.ops [q44_0]) (.seq (.seq (.ops [q44_1]) (.block 0 (.loop slices_Index_int_int_l0))) (.seq (.ops [q44_7]) (.ret)))
theorem slices_Index_int_int_ok : compF Tryz.prog 44 = some (19, slices_Index_int_int_c, [.t 4]) := by kernel_rfl

@[go_sem] def q45_0 : List AI := [
 .j 4 (.mov (.c (.bool false)))]
@[go_sem] def q45_1 : List AI := [
 .j 5 (.mov (.t 0)),
 .j 6 (.mov (.t 1)),
 .j 7 (.call 79 [(.t 5), (.t 6)]),
 .j 8 (.bin .geq (.t 7) (.z 0)),
 .j 4 (.mov (.t 8))]
@[go_sem] def slices_ContainsFunc_api_Var_api_Var_c : AC := .seq (.ops [q45_0]) (.seq (.ops [q45_1]) (.ret))
theorem slices_ContainsFunc_api_Var_api_Var_ok : compF Tryz.prog 45 = some (9, slices_ContainsFunc_api_Var_api_Var_c, [.t 4]) := by kernel_rfl

@[go_sem] def q46_0 : List AI := [
 .j 2 (.box 460002 5 (.t 0)),
 .j 3 (.mov (.c (.bool false)))]
@[go_sem] def q46_1 : List AI := [
 .j 4 (.faddr 1 (.t 2)),
 .j 5 (.load 1 false (.t 4)),
 .j 6 (.load 1 false (.t 1)),
 .j 7 (.bin .eql (.t 5) (.t 6)),
 .j 3 (.mov (.t 7))]
@[go_sem] def peephole_kept_1_c : AC := .seq (.ops [q46_0]) (.seq (.ops [q46_1]) (.ret))
theorem peephole_kept_1_ok : compF Tryz.prog 46 = some (8, peephole_kept_1_c, [.t 3]) := by kernel_rfl

@[go_sem] def q47_0 : List AI := [
 .j 4 (.mov (.c (.bool false)))]
@[go_sem] def q47_1 : List AI := [
 .j 5 (.mov (.t 0)),
 .j 6 (.mov (.t 1)),
 .j 7 (.call 80 [(.t 5), (.t 6)]),
 .j 8 (.bin .geq (.t 7) (.z 0)),
 .j 4 (.mov (.t 8))]
@[go_sem] def slices_ContainsFunc_api_Instr_api_Instr_c : AC := .seq (.ops [q47_0]) (.seq (.ops [q47_1]) (.ret))
theorem slices_ContainsFunc_api_Instr_api_Instr_ok : compF Tryz.prog 47 = some (9, slices_ContainsFunc_api_Instr_api_Instr_c, [.t 4]) := by kernel_rfl

@[go_sem] def q48_0 : List AI := [
 .j 2 (.box 480002 5 (.t 0)),
 .j 3 (.mov (.c (.bool false)))]
@[go_sem] def q48_1 : List AI := [
 .j 4 (.faddr 0 (.t 2)),
 .j 5 (.load 1 false (.t 4)),
 .j 6 (.bin .eql (.t 5) (.z 26)),
 .j 7 (.mov (.t 6)),
 .k 8 7 true (.load 1 false (.t 1)),
 .k 9 7 true (.faddr 1 (.t 2)),
 .k 10 7 true (.load 1 false (.t 9)),
 .k 11 7 true (.bin .geq (.t 8) (.t 10)),
 .j 12 (.pick (.t 7) (.t 11) (.c (.bool false))),
 .j 13 (.mov (.t 12)),
 .k 14 13 true (.load 1 false (.t 1)),
 .k 15 13 true (.faddr 1 (.t 2)),
 .k 16 13 true (.load 1 false (.t 15)),
 .k 17 13 true (.bin .add (.t 16) (.z 2)),
 .k 18 13 true (.bin .leq (.t 14) (.t 17)),
 .j 19 (.pick (.t 13) (.t 18) (.c (.bool false))),
 .j 3 (.mov (.t 19))]
@[go_sem] def peephole_kept_2_c : AC := .seq (.ops [q48_0]) (.seq (.ops [q48_1]) (.ret))
theorem peephole_kept_2_ok : compF Tryz.prog 48 = some (20, peephole_kept_2_c, [.t 3]) := by kernel_rfl

@[go_sem] def q49_0 : List AI := [
 .j 4 (.mov (.c (.bool false)))]
@[go_sem] def q49_1 : List AI := [
 .j 5 (.mov (.t 0)),
 .j 6 (.mov (.t 1)),
 .j 7 (.call 81 [(.t 5), (.t 6)]),
 .j 8 (.bin .geq (.t 7) (.z 0)),
 .j 4 (.mov (.t 8))]
@[go_sem] def slices_ContainsFunc_api_Up_api_Up_c : AC := .seq (.ops [q49_0]) (.seq (.ops [q49_1]) (.ret))
theorem slices_ContainsFunc_api_Up_api_Up_ok : compF Tryz.prog 49 = some (9, slices_ContainsFunc_api_Up_api_Up_c, [.t 4]) := by kernel_rfl

@[go_sem] def q50_0 : List AI := [
 .j 2 (.box 500002 3 (.t 0)),
 .j 3 (.mov (.c (.bool false)))]
@[go_sem] def q50_1 : List AI := [
 .j 4 (.faddr 1 (.t 2)),
 .j 5 (.load 1 false (.t 4)),
 .j 6 (.mov (.t 5)),
 .k 7 6 true (.faddr 2 (.t 2)),
 .k 8 6 true (.load 1 false (.t 7)),
 .k 9 6 true (.load 1 false (.t 1)),
 .k 10 6 true (.bin .eql (.t 8) (.t 9)),
 .j 11 (.pick (.t 6) (.t 10) (.c (.bool false))),
 .j 3 (.mov (.t 11))]
@[go_sem] def peephole_kept_3_c : AC := .seq (.ops [q50_0]) (.seq (.ops [q50_1]) (.ret))
theorem peephole_kept_3_ok : compF Tryz.prog 50 = some (12, peephole_kept_3_c, [.t 3]) := by kernel_rfl

@[go_sem] def q51_0 : List AI := [
 .j 2 (.mov (.c .nils))]
@[go_sem] def q51_1 : List AI := [
 .j 3 (.mov (.t 0)),
 .j 4 (.eqn false false (.t 3))]
@[go_sem] def q51_2 : List AI := [
 .j 2 (.mov (.c .nils))]
@[go_sem] def q51_3 : List AI := [
 .j 5 (.mkrow 510005 5 []),
 .j 6 (.mov (.t 0)),
 .j 7 (.apb 3518437208883 510007 5 (.t 5) (.t 6)),
 .j 2 (.mov (.t 7))]
@[go_sem] def slices_Clone_api_Instr_api_Instr_c : AC := .seq (.ops [q51_0]) (.seq (.seq (.ops [q51_1]) (.cond (.t 4) (.seq (.ops [q51_2]) (.ret)) (.skip))) (.seq (.ops [q51_3]) (.ret)))
theorem slices_Clone_api_Instr_api_Instr_ok : compF Tryz.prog 51 = some (8, slices_Clone_api_Instr_api_Instr_c, [.t 2]) := by kernel_rfl

@[go_sem] def q52_0 : List AI := [
 .j 2 (.mov (.c .nils))]
@[go_sem] def q52_1 : List AI := [
 .j 3 (.mov (.t 0)),
 .j 4 (.eqn false false (.t 3))]
@[go_sem] def q52_2 : List AI := [
 .j 2 (.mov (.c .nils))]
@[go_sem] def q52_3 : List AI := [
 .j 5 (.mkrow 520005 1 []),
 .j 6 (.mov (.t 0)),
 .j 7 (.apb 17592186044416 520007 1 (.t 5) (.t 6)),
 .j 2 (.mov (.t 7))]
@[go_sem] def slices_Clone_int_int_c : AC := .seq (.ops [q52_0]) (.seq (.seq (.ops [q52_1]) (.cond (.t 4) (.seq (.ops [q52_2]) (.ret)) (.skip))) (.seq (.ops [q52_3]) (.ret)))
theorem slices_Clone_int_int_ok : compF Tryz.prog 52 = some (8, slices_Clone_int_int_c, [.t 2]) := by kernel_rfl

@[go_sem] def q53_0 : List AI := [
 .j 2 (.mov (.c .nils))]
@[go_sem] def q53_1 : List AI := [
 .j 3 (.mov (.t 0)),
 .j 4 (.eqn false false (.t 3))]
@[go_sem] def q53_2 : List AI := [
 .j 2 (.mov (.c .nils))]
@[go_sem] def q53_3 : List AI := [
 .j 5 (.mkrow 530005 5 []),
 .j 6 (.mov (.t 0)),
 .j 7 (.apb 2932031007402 530007 5 (.t 5) (.t 6)),
 .j 2 (.mov (.t 7))]
@[go_sem] def slices_Clone_api_Value_api_Value_c : AC := .seq (.ops [q53_0]) (.seq (.seq (.ops [q53_1]) (.cond (.t 4) (.seq (.ops [q53_2]) (.ret)) (.skip))) (.seq (.ops [q53_3]) (.ret)))
theorem slices_Clone_api_Value_api_Value_ok : compF Tryz.prog 53 = some (8, slices_Clone_api_Value_api_Value_c, [.t 2]) := by kernel_rfl

@[go_sem] def q54_0 : List AI := [
 .j 2 (.mov (.c .nils))]
@[go_sem] def q54_1 : List AI := [
 .j 3 (.mov (.t 0)),
 .j 4 (.eqn false false (.t 3))]
@[go_sem] def q54_2 : List AI := [
 .j 2 (.mov (.c .nils))]
@[go_sem] def q54_3 : List AI := [
 .j 5 (.mkrow 540005 3 []),
 .j 6 (.mov (.t 0)),
 .j 7 (.apb 4398046511104 540007 3 (.t 5) (.t 6)),
 .j 2 (.mov (.t 7))]
@[go_sem] def slices_Clone_api_Up_api_Up_c : AC := .seq (.ops [q54_0]) (.seq (.seq (.ops [q54_1]) (.cond (.t 4) (.seq (.ops [q54_2]) (.ret)) (.skip))) (.seq (.ops [q54_3]) (.ret)))
theorem slices_Clone_api_Up_api_Up_ok : compF Tryz.prog 54 = some (8, slices_Clone_api_Up_api_Up_c, [.t 2]) := by kernel_rfl

@[go_sem] def q55_0 : List AI := [
 .j 2 (.mov (.c .nils))]
@[go_sem] def q55_1 : List AI := [
 .j 3 (.mov (.t 0)),
 .j 4 (.eqn false false (.t 3))]
@[go_sem] def q55_2 : List AI := [
 .j 2 (.mov (.c .nils))]
@[go_sem] def q55_3 : List AI := [
 .j 5 (.mkrow 550005 5 []),
 .j 6 (.mov (.t 0)),
 .j 7 (.apb 2932031007402 550007 5 (.t 5) (.t 6)),
 .j 2 (.mov (.t 7))]
@[go_sem] def slices_Clone_api_Var_api_Var_c : AC := .seq (.ops [q55_0]) (.seq (.seq (.ops [q55_1]) (.cond (.t 4) (.seq (.ops [q55_2]) (.ret)) (.skip))) (.seq (.ops [q55_3]) (.ret)))
theorem slices_Clone_api_Var_api_Var_ok : compF Tryz.prog 55 = some (8, slices_Clone_api_Var_api_Var_c, [.t 2]) := by kernel_rfl

@[go_sem] def q56_0 : List AI := [
 .j 2 (.mov (.c (.bool false)))]
@[go_sem] def q56_1 : List AI := [
 .j 3 (.mov (.t 0)),
 .j 4 (.len 1 (.t 3)),
 .j 5 (.bin .gtr (.t 4) (.z 40)),
 .j 2 (.mov (.t 5))]
@[go_sem] def proto_limits_1_c : AC := .seq (.ops [q56_0]) (.seq (.ops [q56_1]) (.ret))
theorem proto_limits_1_ok : compF Tryz.prog 56 = some (6, proto_limits_1_c, [.t 2]) := by kernel_rfl

@[go_sem] def q57_0 : List AI := [
 .j 2 (.box 570002 3 (.t 0)),
 .j 3 (.mov (.c (.bool false)))]
@[go_sem] def q57_1 : List AI := [
 .j 4 (.load 1 false (.t 1)),
 .j 5 (.faddr 0 (.t 2)),
 .j 6 (.load 1 false (.t 5)),
 .j 7 (.callv (.t 4) [(.t 6)]),
 .j 3 (.mov (.t 7))]
@[go_sem] def proto_limits_2_c : AC := .seq (.ops [q57_0]) (.seq (.ops [q57_1]) (.ret))
theorem proto_limits_2_ok : compF Tryz.prog 57 = some (8, proto_limits_2_c, [.t 3]) := by kernel_rfl

@[go_sem] def q58_0 : List AI := [
 .j 2 (.box 580002 5 (.t 0)),
 .j 3 (.mov (.c (.bool false)))]
@[go_sem] def q58_1 : List AI := [
 .j 4 (.load 1 false (.t 1)),
 .j 5 (.faddr 0 (.t 2)),
 .j 6 (.load 1 false (.t 5)),
 .j 7 (.callv (.t 4) [(.t 6)]),
 .j 3 (.mov (.t 7))]
@[go_sem] def proto_limits_3_c : AC := .seq (.ops [q58_0]) (.seq (.ops [q58_1]) (.ret))
theorem proto_limits_3_ok : compF Tryz.prog 58 = some (8, proto_limits_3_c, [.t 3]) := by kernel_rfl

@[go_sem] def q59_0 : List AI := [
 .j 4 (.mov (.c (.bool false)))]
@[go_sem] def q59_1 : List AI := [
 .j 5 (.mov (.t 0)),
 .j 6 (.mov (.t 1)),
 .j 7 (.call 82 [(.t 5), (.t 6)]),
 .j 8 (.bin .geq (.t 7) (.z 0)),
 .j 4 (.mov (.t 8))]
@[go_sem] def slices_ContainsFunc_int_int_c : AC := .seq (.ops [q59_0]) (.seq (.ops [q59_1]) (.ret))
theorem slices_ContainsFunc_int_int_ok : compF Tryz.prog 59 = some (9, slices_ContainsFunc_int_int_c, [.t 4]) := by kernel_rfl

@[go_sem] def q60_0 : List AI := [
 .j 2 (.mov (.c (.bool false)))]
@[go_sem] def q60_1 : List AI := [
 .j 3 (.mov (.t 0)),
 .j 4 (.bin .lss (.t 3) (.z 0)),
 .j 2 (.mov (.t 4))]
@[go_sem] def proto_form_1_c : AC := .seq (.ops [q60_0]) (.seq (.ops [q60_1]) (.ret))
theorem proto_form_1_ok : compF Tryz.prog 60 = some (5, proto_form_1_c, [.t 2]) := by kernel_rfl

@[go_sem] def q61_0 : List AI := [
 .j 1 (.box 610001 3 (.t 0)),
 .j 2 (.mov (.c (.bool false)))]
@[go_sem] def q61_1 : List AI := [
 .j 3 (.faddr 2 (.t 1)),
 .j 4 (.load 1 false (.t 3)),
 .j 5 (.bin .lss (.t 4) (.z 0)),
 .j 2 (.mov (.t 5))]
@[go_sem] def proto_form_2_c : AC := .seq (.ops [q61_0]) (.seq (.ops [q61_1]) (.ret))
theorem proto_form_2_ok : compF Tryz.prog 61 = some (6, proto_form_2_c, [.t 2]) := by kernel_rfl

@[go_sem] def q62_0 : List AI := [
 .j 1 (.box 620001 5 (.t 0)),
 .j 2 (.mov (.c (.bool false)))]
@[go_sem] def q62_1 : List AI := [
 .j 5 (.faddr 0 (.t 1)),
 .j 6 (.load 1 false (.t 5)),
 .j 7 (.build [(.int .i64 0), (.int .i64 0), (.int .i64 0), (.str []), (.int .i64 0)] [(0, 1, (.t 6))]),
 .j 3 (.box 620003 5 (.c (.agg [(.int .i64 0), (.int .i64 0), (.int .i64 0), (.str []), (.int .i64 0)]))),
 .e (.store 5 (.t 3) (.t 7))]
@[go_sem] def q62_2 : List AI := [
 .j 4 (.mov (.c (.bool true)))]
@[go_sem] def q62_3 : List AI := [
 .j 8 (.faddr 0 (.t 1)),
 .j 9 (.load 1 false (.t 8))]
@[go_sem] def q62_4 : List AI := [
 .j 11 (.bin .eql (.t 9) (.z 0)),
 .j 10 (.mov (.t 11))]
@[go_sem] def q62_5 : List AI := [
 .j 13 (.bin .eql (.t 9) (.z 1)),
 .j 12 (.mov (.t 13))]
@[go_sem] def q62_6 : List AI := [
 .j 14 (.faddr 4 (.t 1)),
 .j 15 (.load 1 false (.t 14)),
 .j 16 (.faddr 4 (.t 3)),
 .e (.store 1 (.t 16) (.t 15))]
@[go_sem] def q62_7 : List AI := [
 .j 17 (.faddr 4 (.t 1)),
 .j 18 (.load 1 false (.t 17)),
 .j 19 (.bin .eql (.t 18) (.z 0)),
 .j 20 (.mov (.t 19)),
 .k 21 20 false (.faddr 4 (.t 1)),
 .k 22 20 false (.load 1 false (.t 21)),
 .k 23 20 false (.bin .eql (.t 22) (.z 1)),
 .j 24 (.pick (.t 20) (.c (.bool true)) (.t 23)),
 .j 4 (.mov (.t 24))]
@[go_sem] def q62_8 : List AI := [
 .j 26 (.bin .eql (.t 9) (.z 2)),
 .j 25 (.mov (.t 26))]
@[go_sem] def q62_9 : List AI := [
 .j 27 (.faddr 1 (.t 1)),
 .j 28 (.load 2 true (.t 27)),
 .j 29 (.faddr 1 (.t 3)),
 .e (.store 2 (.t 29) (.t 28))]
@[go_sem] def q62_10 : List AI := [
 .j 30 (.faddr 1 (.t 1)),
 .j 31 (.load 2 true (.t 30)),
 .j 32 (.call 83 [(.t 31)]),
 .j 4 (.mov (.t 32))]
@[go_sem] def q62_11 : List AI := [
 .j 34 (.bin .eql (.t 9) (.z 3)),
 .j 33 (.mov (.t 34))]
@[go_sem] def q62_12 : List AI := [
 .j 35 (.faddr 3 (.t 1)),
 .j 36 (.load 1 false (.t 35)),
 .j 37 (.faddr 3 (.t 3)),
 .e (.store 1 (.t 37) (.t 36))]
@[go_sem] def q62_13 : List AI := [
 .j 38 (.faddr 3 (.t 1)),
 .j 39 (.load 1 false (.t 38)),
 .j 40 (.len 1 (.t 39)),
 .j 41 (.bin .leq (.t 40) (.z 4096)),
 .j 4 (.mov (.t 41))]
@[go_sem] def q62_14 : List AI := [
 .j 43 (.bin .eql (.t 9) (.z 4)),
 .j 42 (.mov (.t 43))]
@[go_sem] def q62_15 : List AI := [
 .j 44 (.bin .eql (.t 9) (.z 5)),
 .j 42 (.mov (.t 44))]
@[go_sem] def q62_16 : List AI := [
 .j 45 (.bin .eql (.t 9) (.z 7)),
 .j 42 (.mov (.t 45))]
@[go_sem] def q62_17 : List AI := [
 .j 46 (.bin .eql (.t 9) (.z 8)),
 .j 42 (.mov (.t 46))]
@[go_sem] def q62_18 : List AI := [
 .j 47 (.faddr 4 (.t 1)),
 .j 48 (.load 1 false (.t 47)),
 .j 49 (.faddr 4 (.t 3)),
 .e (.store 1 (.t 49) (.t 48))]
@[go_sem] def q62_19 : List AI := [
 .j 50 (.faddr 4 (.t 1)),
 .j 51 (.load 1 false (.t 50)),
 .j 52 (.bin .geq (.t 51) (.z 1)),
 .j 4 (.mov (.t 52))]
@[go_sem] def q62_20 : List AI := [
 .j 54 (.bin .eql (.t 9) (.z 6)),
 .j 53 (.mov (.t 54))]
@[go_sem] def q62_21 : List AI := [
 .j 55 (.faddr 3 (.t 1)),
 .j 56 (.load 1 false (.t 55)),
 .j 57 (.faddr 3 (.t 3)),
 .e (.store 1 (.t 57) (.t 56))]
@[go_sem] def q62_22 : List AI := [
 .j 58 (.faddr 3 (.t 1)),
 .j 59 (.load 1 false (.t 58)),
 .j 60 (.len 1 (.t 59)),
 .j 61 (.bin .geq (.t 60) (.z 1)),
 .j 62 (.mov (.t 61)),
 .k 63 62 true (.faddr 3 (.t 1)),
 .k 64 62 true (.load 1 false (.t 63)),
 .k 65 62 true (.len 1 (.t 64)),
 .k 66 62 true (.bin .leq (.t 65) (.z 4096)),
 .j 67 (.pick (.t 62) (.t 66) (.c (.bool false))),
 .j 4 (.mov (.t 67))]
@[go_sem] def q62_23 : List AI := [
 .j 4 (.mov (.c (.bool false)))]
@[go_sem] def q62_24 : List AI := [
 .j 68 (.mov (.t 4)),
 .j 69 (.mov (.t 68)),
 .k 70 69 true (.load 5 true (.t 1)),
 .k 71 69 true (.load 5 true (.t 3)),
 .k 72 69 true (.eqa false (.agg [(0, 1, (.leaf 1)), (1, 2, (.agg [(0, 1, (.leaf 1)), (1, 1, (.leaf 1))])), (3, 1, (.leaf 2)), (4, 1, (.leaf 1))]) (.t 70) (.t 71)),
 .j 73 (.pick (.t 69) (.t 72) (.c (.bool false))),
 .j 2 (.mov (.t 73))]
@[go_sem] def value_Valid_c : AC := .seq (.ops [q62_0]) (.seq (.ops [q62_1]) (.seq (.ops [q62_2]) (.seq (.seq (.ops [q62_3]) (.block 0 (.seq (.ops [q62_4]) (.cond (.t 10) (.skip) (.seq (.ops [q62_5]) (.cond (.t 12) (.seq (.ops [q62_6]) (.ops [q62_7])) (.seq (.ops [q62_8]) (.cond (.t 25) (.seq (.ops [q62_9]) (.ops [q62_10])) (.seq (.ops [q62_11]) (.cond (.t 33) (.seq (.ops [q62_12]) (.ops [q62_13])) (.seq (.seq (.ops [q62_14]) (.cond (.t 42) (.skip) (.seq (.ops [q62_15]) (.cond (.t 42) (.skip) (.seq (.ops [q62_16]) (.cond (.t 42) (.skip) (.ops [q62_17]))))))) (.cond (.t 42) (.seq (.ops [q62_18]) (.ops [q62_19])) (.seq (.ops [q62_20]) (.cond (.t 53) (.seq (.ops [q62_21]) (.ops [q62_22])) (.ops [q62_23]))))))))))))))) (.seq (.ops [q62_24]) (.ret)))))
theorem value_Valid_ok : compF Tryz.prog 62 = some (74, value_Valid_c, [.t 2]) := by kernel_rfl

@[go_sem] def q63_0 : List AI := [
 .j 1 (.box 630001 5 (.t 0)),
 .j 2 (.mov (.z 0))]
@[go_sem] def q63_1 : List AI := [
 .j 14 (.faddr 0 (.t 1)),
 .j 15 (.load 1 false (.t 14)),
 .j 16 (.call 84 [(.t 15)]),
 .j 13 (.mov (.t 16)),
 .j 17 (.ext 0 (.t 13)),
 .j 18 (.ext 1 (.t 13)),
 .j 3 (.box 630003 6 (.c (.agg [(.str []), (.int .i64 0), (.int .i64 0), (.int .i64 0), (.int .i64 0), (.int .i64 0)]))),
 .e (.store 6 (.t 3) (.t 17)),
 .j 4 (.mov (.t 18))]
@[go_sem] def q63_2 : List AI := [
 .j 19 (.mov (.t 4)),
 .j 20 (.un .not (.t 19))]
@[go_sem] def q63_3 : List AI := [
 .j 2 (.mov (.z 4))]
@[go_sem] def q63_4 : List AI := [
 .j 22 (.load 6 true (.t 3)),
 .j 23 (.load 5 true (.t 1)),
 .j 24 (.call 85 [(.t 22), (.t 23)]),
 .j 21 (.mov (.t 24)),
 .j 25 (.ext 0 (.t 21)),
 .j 26 (.ext 1 (.t 21)),
 .j 5 (.box 630005 4 (.c (.agg [(.int .i64 0), (.int .i64 0), (.int .i64 0), (.int .i64 0)]))),
 .j 6 (.box 630006 4 (.c (.agg [(.int .i64 0), (.int .i64 0), (.int .i64 0), (.int .i64 0)]))),
 .e (.store 4 (.t 5) (.t 25)),
 .e (.store 4 (.t 6) (.t 26))]
@[go_sem] def q63_5 : List AI := [
 .j 27 (.load 4 true (.t 5)),
 .j 28 (.mov (.z 0))]
@[go_sem] def q63_6 : List AI := [
 .j 29 (.bin .lss (.t 28) (.z 4))]
@[go_sem] def q63_7 : List AI := [
 .j 30 (.mov (.t 28)),
 .j 31 (.idxA 4 1 1 false (.t 27) (.t 28)),
 .j 7 (.mov (.t 30)),
 .j 8 (.mov (.t 31))]
@[go_sem] def q63_8 : List AI := [
 .j 32 (.mov (.t 8)),
 .j 33 (.bin .eql (.t 32) (.z 0)),
 .j 34 (.mov (.t 33)),
 .k 35 34 true (.mov (.t 7)),
 .k 36 34 true (.iaddrA 4 1 (.t 6) (.t 35)),
 .k 37 34 true (.load 1 false (.t 36)),
 .k 38 34 true (.bin .neq (.t 37) (.z 0)),
 .j 39 (.pick (.t 34) (.t 38) (.c (.bool false)))]
@[go_sem] def q63_9 : List AI := [
 .j 2 (.mov (.z 4))]
@[go_sem] def q63_10 : List AI := [
 .j 40 (.bin .add (.t 28) (.z 1)),
 .j 28 (.mov (.t 40))]
@[go_sem] def opcode_Check_l0' : AC := .seq (.ops [q63_6]) (.seq (.cond (.t 29) (.skip) (.exit 0)) (.seq (.block 1 (.seq (.ops [q63_7]) (.seq (.ops [q63_8]) (.cond (.t 39) (.seq (.ops [q63_9]) (.ret)) (.skip))))) (.ops [q63_10])))
def opcode_Check_l0 : AC := opcode_Check_l0'
theorem opcode_Check_l0_eq : opcode_Check_l0 = opcode_Check_l0' := rfl
@[go_sem] def q63_11 : List AI := [
 .j 41 (.load 4 true (.t 5)),
 .j 42 (.mov (.z 0))]
@[go_sem] def q63_12 : List AI := [
 .j 43 (.bin .lss (.t 42) (.z 4))]
@[go_sem] def q63_13 : List AI := [
 .j 44 (.mov (.t 42)),
 .j 45 (.idxA 4 1 1 false (.t 41) (.t 42)),
 .j 9 (.mov (.t 44)),
 .j 10 (.mov (.t 45))]
@[go_sem] def q63_14 : List AI := [
 .j 47 (.mov (.t 10)),
 .j 48 (.call 86 [(.t 47)]),
 .j 46 (.mov (.t 48)),
 .j 49 (.ext 0 (.t 46)),
 .j 50 (.ext 1 (.t 46)),
 .j 11 (.mov (.t 49)),
 .j 12 (.mov (.t 50))]
@[go_sem] def q63_15 : List AI := [
 .j 51 (.mov (.t 9)),
 .j 52 (.iaddrA 4 1 (.t 6) (.t 51)),
 .j 53 (.load 1 false (.t 52)),
 .j 54 (.mov (.t 11)),
 .j 55 (.bin .lss (.t 53) (.t 54)),
 .j 56 (.mov (.t 55)),
 .k 57 56 false (.mov (.t 9)),
 .k 58 56 false (.iaddrA 4 1 (.t 6) (.t 57)),
 .k 59 56 false (.load 1 false (.t 58)),
 .k 60 56 false (.mov (.t 12)),
 .k 61 56 false (.bin .gtr (.t 59) (.t 60)),
 .j 62 (.pick (.t 56) (.c (.bool true)) (.t 61))]
@[go_sem] def q63_16 : List AI := [
 .j 2 (.mov (.z 6))]
@[go_sem] def q63_17 : List AI := [
 .j 63 (.bin .add (.t 42) (.z 1)),
 .j 42 (.mov (.t 63))]
@[go_sem] def opcode_Check_l1' : AC := .seq (.ops [q63_12]) (.seq (.cond (.t 43) (.skip) (.exit 2)) (.seq (.block 3 (.seq (.ops [q63_13]) (.seq (.ops [q63_14]) (.seq (.ops [q63_15]) (.cond (.t 62) (.seq (.ops [q63_16]) (.ret)) (.skip)))))) (.ops [q63_17])))
def opcode_Check_l1 : AC := opcode_Check_l1'
theorem opcode_Check_l1_eq : opcode_Check_l1 = opcode_Check_l1' := rfl
@[go_sem] def q63_18 : List AI := [
 .j 64 (.faddr 1 (.t 3)),
 .j 65 (.load 1 false (.t 64)),
 .j 66 (.bin .eql (.t 65) (.z 1)),
 .j 67 (.mov (.t 66)),
 .k 68 67 true (.load 6 true (.t 3)),
 .k 69 67 true (.load 5 true (.t 1)),
 .k 70 67 true (.call 87 [(.t 68), (.t 69)]),
 .k 71 67 true (.bin .geq (.t 70) (.z 4096)),
 .j 72 (.pick (.t 67) (.t 71) (.c (.bool false))),
 .j 73 (.mov (.t 72)),
 .k 74 73 false (.faddr 0 (.t 1)),
 .k 75 73 false (.load 1 false (.t 74)),
 .k 76 73 false (.bin .eql (.t 75) (.z 3)),
 .k 77 73 false (.mov (.t 76)),
 .k 78 77 true (.faddr 2 (.t 1)),
 .k 79 77 true (.load 1 false (.t 78)),
 .k 80 77 true (.faddr 1 (.t 1)),
 .k 81 77 true (.load 1 false (.t 80)),
 .k 82 77 true (.bin .lss (.t 79) (.t 81)),
 .k 83 73 false (.pick (.t 77) (.t 82) (.c (.bool false))),
 .j 84 (.pick (.t 73) (.c (.bool true)) (.t 83))]
@[go_sem] def q63_19 : List AI := [
 .j 2 (.mov (.z 6))]
@[go_sem] def q63_20 : List AI := [
 .j 2 (.mov (.z 0))]
@[go_sem] def opcode_Check_c : AC := .seq (.ops [q63_0]) (.seq (.ops [q63_1]) (.seq (.seq (.ops [q63_2]) (.cond (.t 20) (.seq (.ops [q63_3]) (.ret)) (.skip))) (.seq (.ops [q63_4]) (.seq (.seq (.ops [q63_5]) (.block 0 (.loop opcode_Check_l0))) (.seq (.seq (.ops [q63_11]) (.block 2 (.loop opcode_Check_l1))) (.seq (.seq (.ops [q63_18]) (.cond (.t 84) (.seq (.ops [q63_19]) (.ret)) (.skip))) (.seq (.ops [q63_20]) (.ret))))))))
theorem opcode_Check_ok : compF Tryz.prog 63 = some (85, opcode_Check_c, [.t 2]) := by kernel_rfl

@[go_sem] def q64_0 : List AI := [
 .j 1 (.box 640001 5 (.t 0)),
 .j 2 (.mov (.c .nils)),
 .j 3 (.mov (.z 0))]
@[go_sem] def q64_1 : List AI := [
 .j 6 (.load 5 true (.t 1)),
 .j 7 (.call 63 [(.t 6)]),
 .j 8 (.bin .neq (.t 7) (.z 0))]
@[go_sem] def q64_2 : List AI := [
 .j 2 (.mov (.c .nils)),
 .j 3 (.mov (.z (-1)))]
@[go_sem] def q64_3 : List AI := [
 .j 9 (.faddr 0 (.t 1)),
 .j 10 (.load 1 false (.t 9))]
@[go_sem] def q64_4 : List AI := [
 .j 12 (.bin .eql (.t 10) (.z 1)),
 .j 11 (.mov (.t 12))]
@[go_sem] def q64_5 : List AI := [
 .j 13 (.bin .eql (.t 10) (.z 6)),
 .j 11 (.mov (.t 13))]
@[go_sem] def q64_6 : List AI := [
 .j 14 (.bin .eql (.t 10) (.z 8)),
 .j 11 (.mov (.t 14))]
@[go_sem] def q64_7 : List AI := [
 .j 15 (.bin .eql (.t 10) (.z 11)),
 .j 11 (.mov (.t 15))]
@[go_sem] def q64_8 : List AI := [
 .j 16 (.bin .eql (.t 10) (.z 12)),
 .j 11 (.mov (.t 16))]
@[go_sem] def q64_9 : List AI := [
 .j 17 (.faddr 2 (.t 1)),
 .j 18 (.load 1 false (.t 17)),
 .j 19 (.mkrow 640019 1 [(.t 18)]),
 .j 2 (.mov (.t 19)),
 .j 3 (.mov (.z (-1)))]
@[go_sem] def q64_10 : List AI := [
 .j 21 (.bin .eql (.t 10) (.z 9)),
 .j 20 (.mov (.t 21))]
@[go_sem] def q64_11 : List AI := [
 .j 22 (.bin .eql (.t 10) (.z 13)),
 .j 20 (.mov (.t 22))]
@[go_sem] def q64_12 : List AI := [
 .j 23 (.faddr 2 (.t 1)),
 .j 24 (.load 1 false (.t 23)),
 .j 25 (.faddr 3 (.t 1)),
 .j 26 (.load 1 false (.t 25)),
 .j 27 (.mkrow 640027 1 [(.t 24), (.t 26)]),
 .j 28 (.call 88 [(.t 27)]),
 .j 2 (.mov (.t 28)),
 .j 3 (.mov (.z (-1)))]
@[go_sem] def q64_13 : List AI := [
 .j 30 (.bin .eql (.t 10) (.z 10)),
 .j 29 (.mov (.t 30))]
@[go_sem] def q64_14 : List AI := [
 .j 31 (.faddr 1 (.t 1)),
 .j 32 (.load 1 false (.t 31)),
 .j 33 (.faddr 2 (.t 1)),
 .j 34 (.load 1 false (.t 33)),
 .j 35 (.faddr 3 (.t 1)),
 .j 36 (.load 1 false (.t 35)),
 .j 37 (.mkrow 640037 1 [(.t 32), (.t 34), (.t 36)]),
 .j 38 (.call 88 [(.t 37)]),
 .j 2 (.mov (.t 38)),
 .j 3 (.mov (.z (-1)))]
@[go_sem] def q64_15 : List AI := [
 .j 40 (.bin .eql (.t 10) (.z 15)),
 .j 39 (.mov (.t 40))]
@[go_sem] def q64_16 : List AI := [
 .j 41 (.bin .eql (.t 10) (.z 28)),
 .j 39 (.mov (.t 41))]
@[go_sem] def q64_17 : List AI := [
 .j 42 (.faddr 1 (.t 1)),
 .j 43 (.load 1 false (.t 42)),
 .j 44 (.mkrow 640044 1 [(.t 43)]),
 .j 2 (.mov (.t 44)),
 .j 3 (.mov (.z (-1)))]
@[go_sem] def q64_18 : List AI := [
 .j 46 (.bin .eql (.t 10) (.z 16)),
 .j 45 (.mov (.t 46))]
@[go_sem] def q64_19 : List AI := [
 .j 47 (.bin .eql (.t 10) (.z 17)),
 .j 45 (.mov (.t 47))]
@[go_sem] def q64_20 : List AI := [
 .j 48 (.bin .eql (.t 10) (.z 21)),
 .j 45 (.mov (.t 48))]
@[go_sem] def q64_21 : List AI := [
 .j 50 (.faddr 1 (.t 1)),
 .j 51 (.load 1 false (.t 50)),
 .j 52 (.bin .add (.t 51) (.z 1)),
 .j 53 (.faddr 2 (.t 1)),
 .j 54 (.load 1 false (.t 53)),
 .j 55 (.call 89 [(.t 52), (.t 54)]),
 .j 49 (.mov (.t 55)),
 .j 56 (.ext 0 (.t 49)),
 .j 57 (.ext 1 (.t 49)),
 .j 4 (.mov (.t 56)),
 .j 5 (.mov (.t 57))]
@[go_sem] def q64_22 : List AI := [
 .j 58 (.faddr 1 (.t 1)),
 .j 59 (.load 1 false (.t 58)),
 .j 60 (.mkrow 640060 1 [(.t 59)]),
 .j 61 (.mov (.t 4)),
 .j 62 (.app 640062 1 (.t 60) (.t 61)),
 .j 63 (.mov (.t 5)),
 .j 2 (.mov (.t 62)),
 .j 3 (.mov (.t 63))]
@[go_sem] def q64_23 : List AI := [
 .j 65 (.bin .eql (.t 10) (.z 18)),
 .j 64 (.mov (.t 65))]
@[go_sem] def q64_24 : List AI := [
 .j 66 (.faddr 1 (.t 1)),
 .j 67 (.load 1 false (.t 66)),
 .j 68 (.faddr 2 (.t 1)),
 .j 69 (.load 1 false (.t 68)),
 .j 70 (.call 89 [(.t 67), (.t 69)]),
 .j 71 (.ext 0 (.t 70)),
 .j 72 (.ext 1 (.t 70)),
 .j 2 (.mov (.t 71)),
 .j 3 (.mov (.t 72))]
@[go_sem] def q64_25 : List AI := [
 .j 74 (.bin .eql (.t 10) (.z 23)),
 .j 73 (.mov (.t 74))]
@[go_sem] def q64_26 : List AI := [
 .j 75 (.bin .eql (.t 10) (.z 24)),
 .j 73 (.mov (.t 75))]
@[go_sem] def q64_27 : List AI := [
 .j 76 (.bin .eql (.t 10) (.z 25)),
 .j 73 (.mov (.t 76))]
@[go_sem] def q64_28 : List AI := [
 .j 77 (.faddr 1 (.t 1)),
 .j 78 (.load 1 false (.t 77)),
 .j 79 (.call 89 [(.t 78), (.z 3)]),
 .j 80 (.ext 0 (.t 79)),
 .j 81 (.ext 1 (.t 79)),
 .j 2 (.mov (.t 80)),
 .j 3 (.mov (.t 81))]
@[go_sem] def q64_29 : List AI := [
 .j 83 (.bin .eql (.t 10) (.z 26)),
 .j 82 (.mov (.t 83))]
@[go_sem] def q64_30 : List AI := [
 .j 84 (.faddr 1 (.t 1)),
 .j 85 (.load 1 false (.t 84)),
 .j 86 (.bin .add (.t 85) (.z 3)),
 .j 87 (.mkrow 640087 1 [(.t 86)]),
 .j 2 (.mov (.t 87)),
 .j 3 (.mov (.z (-1)))]
@[go_sem] def q64_31 : List AI := [
 .j 2 (.mov (.c .nils)),
 .j 3 (.mov (.z (-1)))]
@[go_sem] def opcode_Reads_c : AC := .seq (.ops [q64_0]) (.seq (.seq (.ops [q64_1]) (.cond (.t 8) (.seq (.ops [q64_2]) (.ret)) (.skip))) (.seq (.seq (.ops [q64_3]) (.block 0 (.seq (.seq (.ops [q64_4]) (.cond (.t 11) (.skip) (.seq (.ops [q64_5]) (.cond (.t 11) (.skip) (.seq (.ops [q64_6]) (.cond (.t 11) (.skip) (.seq (.ops [q64_7]) (.cond (.t 11) (.skip) (.ops [q64_8]))))))))) (.cond (.t 11) (.seq (.ops [q64_9]) (.ret)) (.seq (.seq (.ops [q64_10]) (.cond (.t 20) (.skip) (.ops [q64_11]))) (.cond (.t 20) (.seq (.ops [q64_12]) (.ret)) (.seq (.ops [q64_13]) (.cond (.t 29) (.seq (.ops [q64_14]) (.ret)) (.seq (.seq (.ops [q64_15]) (.cond (.t 39) (.skip) (.ops [q64_16]))) (.cond (.t 39) (.seq (.ops [q64_17]) (.ret)) (.seq (.seq (.ops [q64_18]) (.cond (.t 45) (.skip) (.seq (.ops [q64_19]) (.cond (.t 45) (.skip) (.ops [q64_20]))))) (.cond (.t 45) (.seq (.ops [q64_21]) (.seq (.ops [q64_22]) (.ret))) (.seq (.ops [q64_23]) (.cond (.t 64) (.seq (.ops [q64_24]) (.ret)) (.seq (.seq (.ops [q64_25]) (.cond (.t 73) (.skip) (.seq (.ops [q64_26]) (.cond (.t 73) (.skip) (.ops [q64_27]))))) (.cond (.t 73) (.seq (.ops [q64_28]) (.ret)) (.seq (.ops [q64_29]) (.cond (.t 82) (.seq (.ops [q64_30]) (.ret)) (.skip))))))))))))))))))) (.seq (.ops [q64_31]) (.ret))))
theorem opcode_Reads_ok : compF Tryz.prog 64 = some (88, opcode_Reads_c, [.t 2, .t 3]) := by kernel_rfl

@[go_sem] def q65_0 : List AI := [
 .j 1 (.box 650001 5 (.t 0)),
 .j 2 (.mov (.c .nils)),
 .j 3 (.mov (.z 0))]
@[go_sem] def q65_1 : List AI := [
 .j 4 (.load 5 true (.t 1)),
 .j 5 (.call 63 [(.t 4)]),
 .j 6 (.bin .neq (.t 5) (.z 0))]
@[go_sem] def q65_2 : List AI := [
 .j 2 (.mov (.c .nils)),
 .j 3 (.mov (.z (-1)))]
@[go_sem] def q65_3 : List AI := [
 .j 7 (.faddr 0 (.t 1)),
 .j 8 (.load 1 false (.t 7))]
@[go_sem] def q65_4 : List AI := [
 .j 10 (.bin .eql (.t 8) (.z 1)),
 .j 9 (.mov (.t 10))]
@[go_sem] def q65_5 : List AI := [
 .j 11 (.bin .eql (.t 8) (.z 2)),
 .j 9 (.mov (.t 11))]
@[go_sem] def q65_6 : List AI := [
 .j 12 (.bin .eql (.t 8) (.z 4)),
 .j 9 (.mov (.t 12))]
@[go_sem] def q65_7 : List AI := [
 .j 13 (.bin .eql (.t 8) (.z 5)),
 .j 9 (.mov (.t 13))]
@[go_sem] def q65_8 : List AI := [
 .j 14 (.bin .eql (.t 8) (.z 7)),
 .j 9 (.mov (.t 14))]
@[go_sem] def q65_9 : List AI := [
 .j 15 (.bin .eql (.t 8) (.z 9)),
 .j 9 (.mov (.t 15))]
@[go_sem] def q65_10 : List AI := [
 .j 16 (.bin .eql (.t 8) (.z 12)),
 .j 9 (.mov (.t 16))]
@[go_sem] def q65_11 : List AI := [
 .j 17 (.bin .eql (.t 8) (.z 13)),
 .j 9 (.mov (.t 17))]
@[go_sem] def q65_12 : List AI := [
 .j 18 (.bin .eql (.t 8) (.z 20)),
 .j 9 (.mov (.t 18))]
@[go_sem] def q65_13 : List AI := [
 .j 19 (.bin .eql (.t 8) (.z 22)),
 .j 9 (.mov (.t 19))]
@[go_sem] def q65_14 : List AI := [
 .j 20 (.faddr 1 (.t 1)),
 .j 21 (.load 1 false (.t 20)),
 .j 22 (.mkrow 650022 1 [(.t 21)]),
 .j 2 (.mov (.t 22)),
 .j 3 (.mov (.z (-1)))]
@[go_sem] def q65_15 : List AI := [
 .j 24 (.bin .eql (.t 8) (.z 3)),
 .j 23 (.mov (.t 24))]
@[go_sem] def q65_16 : List AI := [
 .j 25 (.faddr 1 (.t 1)),
 .j 26 (.load 1 false (.t 25)),
 .j 27 (.faddr 2 (.t 1)),
 .j 28 (.load 1 false (.t 27)),
 .j 29 (.faddr 1 (.t 1)),
 .j 30 (.load 1 false (.t 29)),
 .j 31 (.bin .sub (.t 28) (.t 30)),
 .j 32 (.bin .add (.t 31) (.z 1)),
 .j 33 (.call 89 [(.t 26), (.t 32)]),
 .j 34 (.ext 0 (.t 33)),
 .j 35 (.ext 1 (.t 33)),
 .j 2 (.mov (.t 34)),
 .j 3 (.mov (.t 35))]
@[go_sem] def q65_17 : List AI := [
 .j 37 (.bin .eql (.t 8) (.z 11)),
 .j 36 (.mov (.t 37))]
@[go_sem] def q65_18 : List AI := [
 .j 38 (.faddr 1 (.t 1)),
 .j 39 (.load 1 false (.t 38)),
 .j 40 (.faddr 1 (.t 1)),
 .j 41 (.load 1 false (.t 40)),
 .j 42 (.bin .add (.t 41) (.z 1)),
 .j 43 (.mkrow 650043 1 [(.t 39), (.t 42)]),
 .j 2 (.mov (.t 43)),
 .j 3 (.mov (.z (-1)))]
@[go_sem] def q65_19 : List AI := [
 .j 45 (.bin .eql (.t 8) (.z 16)),
 .j 44 (.mov (.t 45))]
@[go_sem] def q65_20 : List AI := [
 .j 46 (.faddr 1 (.t 1)),
 .j 47 (.load 1 false (.t 46)),
 .j 48 (.faddr 3 (.t 1)),
 .j 49 (.load 1 false (.t 48)),
 .j 50 (.call 89 [(.t 47), (.t 49)]),
 .j 51 (.ext 0 (.t 50)),
 .j 52 (.ext 1 (.t 50)),
 .j 2 (.mov (.t 51)),
 .j 3 (.mov (.t 52))]
@[go_sem] def q65_21 : List AI := [
 .j 54 (.bin .eql (.t 8) (.z 19)),
 .j 53 (.mov (.t 54))]
@[go_sem] def q65_22 : List AI := [
 .j 55 (.faddr 1 (.t 1)),
 .j 56 (.load 1 false (.t 55)),
 .j 57 (.faddr 2 (.t 1)),
 .j 58 (.load 1 false (.t 57)),
 .j 59 (.call 89 [(.t 56), (.t 58)]),
 .j 60 (.ext 0 (.t 59)),
 .j 61 (.ext 1 (.t 59)),
 .j 2 (.mov (.t 60)),
 .j 3 (.mov (.t 61))]
@[go_sem] def q65_23 : List AI := [
 .j 63 (.bin .eql (.t 8) (.z 23)),
 .j 62 (.mov (.t 63))]
@[go_sem] def q65_24 : List AI := [
 .j 64 (.faddr 1 (.t 1)),
 .j 65 (.load 1 false (.t 64)),
 .j 66 (.bin .add (.t 65) (.z 3)),
 .j 67 (.mkrow 650067 1 [(.t 66)]),
 .j 2 (.mov (.t 67)),
 .j 3 (.mov (.z (-1)))]
@[go_sem] def q65_25 : List AI := [
 .j 69 (.bin .eql (.t 8) (.z 24)),
 .j 68 (.mov (.t 69))]
@[go_sem] def q65_26 : List AI := [
 .j 70 (.faddr 1 (.t 1)),
 .j 71 (.load 1 false (.t 70)),
 .j 72 (.faddr 1 (.t 1)),
 .j 73 (.load 1 false (.t 72)),
 .j 74 (.bin .add (.t 73) (.z 3)),
 .j 75 (.mkrow 650075 1 [(.t 71), (.t 74)]),
 .j 2 (.mov (.t 75)),
 .j 3 (.mov (.z (-1)))]
@[go_sem] def q65_27 : List AI := [
 .j 77 (.bin .eql (.t 8) (.z 25)),
 .j 76 (.mov (.t 77))]
@[go_sem] def q65_28 : List AI := [
 .j 78 (.faddr 1 (.t 1)),
 .j 79 (.load 1 false (.t 78)),
 .j 80 (.bin .add (.t 79) (.z 3)),
 .j 81 (.faddr 3 (.t 1)),
 .j 82 (.load 1 false (.t 81)),
 .j 83 (.call 89 [(.t 80), (.t 82)]),
 .j 84 (.ext 0 (.t 83)),
 .j 85 (.ext 1 (.t 83)),
 .j 2 (.mov (.t 84)),
 .j 3 (.mov (.t 85))]
@[go_sem] def q65_29 : List AI := [
 .j 87 (.bin .eql (.t 8) (.z 26)),
 .j 86 (.mov (.t 87))]
@[go_sem] def q65_30 : List AI := [
 .j 88 (.faddr 1 (.t 1)),
 .j 89 (.load 1 false (.t 88)),
 .j 90 (.bin .add (.t 89) (.z 2)),
 .j 91 (.mkrow 650091 1 [(.t 90)]),
 .j 2 (.mov (.t 91)),
 .j 3 (.mov (.z (-1)))]
@[go_sem] def q65_31 : List AI := [
 .j 2 (.mov (.c .nils)),
 .j 3 (.mov (.z (-1)))]
@[go_sem] def opcode_Writes_c : AC := .seq (.ops [q65_0]) (.seq (.seq (.ops [q65_1]) (.cond (.t 6) (.seq (.ops [q65_2]) (.ret)) (.skip))) (.seq (.seq (.ops [q65_3]) (.block 0 (.seq (.seq (.ops [q65_4]) (.cond (.t 9) (.skip) (.seq (.ops [q65_5]) (.cond (.t 9) (.skip) (.seq (.ops [q65_6]) (.cond (.t 9) (.skip) (.seq (.ops [q65_7]) (.cond (.t 9) (.skip) (.seq (.ops [q65_8]) (.cond (.t 9) (.skip) (.seq (.ops [q65_9]) (.cond (.t 9) (.skip) (.seq (.ops [q65_10]) (.cond (.t 9) (.skip) (.seq (.ops [q65_11]) (.cond (.t 9) (.skip) (.seq (.ops [q65_12]) (.cond (.t 9) (.skip) (.ops [q65_13]))))))))))))))))))) (.cond (.t 9) (.seq (.ops [q65_14]) (.ret)) (.seq (.ops [q65_15]) (.cond (.t 23) (.seq (.ops [q65_16]) (.ret)) (.seq (.ops [q65_17]) (.cond (.t 36) (.seq (.ops [q65_18]) (.ret)) (.seq (.ops [q65_19]) (.cond (.t 44) (.seq (.ops [q65_20]) (.ret)) (.seq (.ops [q65_21]) (.cond (.t 53) (.seq (.ops [q65_22]) (.ret)) (.seq (.ops [q65_23]) (.cond (.t 62) (.seq (.ops [q65_24]) (.ret)) (.seq (.ops [q65_25]) (.cond (.t 68) (.seq (.ops [q65_26]) (.ret)) (.seq (.ops [q65_27]) (.cond (.t 76) (.seq (.ops [q65_28]) (.ret)) (.seq (.ops [q65_29]) (.cond (.t 86) (.seq (.ops [q65_30]) (.ret)) (.skip))))))))))))))))))))) (.seq (.ops [q65_31]) (.ret))))
theorem opcode_Writes_ok : compF Tryz.prog 65 = some (92, opcode_Writes_c, [.t 2, .t 3]) := by kernel_rfl

@[go_sem] def q66_0 : List AI := [
 .j 3 (.box 660003 11 (.t 0)),
 .j 6 (.mov (.c (.bool false)))]
@[go_sem] def q66_1 : List AI := [
 .j 7 (.mov (.t 2)),
 .j 8 (.faddr 4 (.t 3)),
 .j 9 (.load 1 false (.t 8)),
 .j 10 (.bin .leq (.t 7) (.t 9)),
 .j 11 (.mov (.t 10)),
 .k 12 11 true (.mov (.t 1)),
 .k 13 11 true (.mkfn 90 [(.t 3)]),
 .k 14 11 true (.call 59 [(.t 12), (.t 13)]),
 .k 15 11 true (.un .not (.t 14)),
 .j 16 (.pick (.t 11) (.t 15) (.c (.bool false))),
 .j 6 (.mov (.t 16))]
@[go_sem] def proto_within_c : AC := .seq (.ops [q66_0]) (.seq (.ops [q66_1]) (.ret))
theorem proto_within_ok : compF Tryz.prog 66 = some (17, proto_within_c, [.t 6]) := by kernel_rfl

@[go_sem] def q67_0 : List AI := [
 .j 2 (.box 670002 11 (.t 0)),
 .j 3 (.box 670003 5 (.t 1)),
 .j 4 (.mov (.c (.bool false)))]
@[go_sem] def q67_1 : List AI := [
 .j 8 (.load 5 true (.t 3)),
 .j 9 (.call 91 [(.t 8)]),
 .j 7 (.mov (.t 9)),
 .j 10 (.ext 0 (.t 7)),
 .j 11 (.ext 1 (.t 7)),
 .j 5 (.mov (.t 10)),
 .j 6 (.mov (.t 11))]
@[go_sem] def q67_2 : List AI := [
 .j 12 (.mov (.t 5)),
 .j 13 (.faddr 7 (.t 2)),
 .j 14 (.load 1 false (.t 13)),
 .j 15 (.len 0 (.t 14)),
 .j 16 (.bin .geq (.t 12) (.t 15)),
 .j 17 (.mov (.t 16)),
 .k 18 17 false (.mov (.t 5)),
 .k 19 17 false (.bin .geq (.t 18) (.z 0)),
 .k 20 17 false (.mov (.t 19)),
 .k 21 20 true (.mov (.t 6)),
 .k 22 17 false (.pick (.t 20) (.t 21) (.c (.bool false))),
 .k 23 17 false (.mov (.t 22)),
 .k 24 23 true (.faddr 7 (.t 2)),
 .k 25 23 true (.load 1 false (.t 24)),
 .k 26 23 true (.mov (.t 5)),
 .k 27 23 true (.iaddr 5 (.t 25) (.t 26)),
 .k 28 23 true (.faddr 0 (.t 27)),
 .k 29 23 true (.load 1 false (.t 28)),
 .k 30 23 true (.bin .neq (.t 29) (.z 3)),
 .k 31 17 false (.pick (.t 23) (.t 30) (.c (.bool false))),
 .j 32 (.pick (.t 17) (.c (.bool true)) (.t 31))]
@[go_sem] def q67_3 : List AI := [
 .j 4 (.mov (.c (.bool false)))]
@[go_sem] def q67_4 : List AI := [
 .j 33 (.faddr 0 (.t 3)),
 .j 34 (.load 1 false (.t 33))]
@[go_sem] def q67_5 : List AI := [
 .j 36 (.bin .eql (.t 34) (.z 5)),
 .j 35 (.mov (.t 36))]
@[go_sem] def q67_6 : List AI := [
 .j 37 (.faddr 2 (.t 3)),
 .j 38 (.load 1 false (.t 37)),
 .j 39 (.faddr 9 (.t 2)),
 .j 40 (.load 1 false (.t 39)),
 .j 41 (.len 0 (.t 40)),
 .j 42 (.bin .lss (.t 38) (.t 41)),
 .j 4 (.mov (.t 42))]
@[go_sem] def q67_7 : List AI := [
 .j 44 (.bin .eql (.t 34) (.z 6)),
 .j 43 (.mov (.t 44))]
@[go_sem] def q67_8 : List AI := [
 .j 45 (.faddr 1 (.t 3)),
 .j 46 (.load 1 false (.t 45)),
 .j 47 (.faddr 9 (.t 2)),
 .j 48 (.load 1 false (.t 47)),
 .j 49 (.len 0 (.t 48)),
 .j 50 (.bin .lss (.t 46) (.t 49)),
 .j 4 (.mov (.t 50))]
@[go_sem] def q67_9 : List AI := [
 .j 52 (.bin .eql (.t 34) (.z 22)),
 .j 51 (.mov (.t 52))]
@[go_sem] def q67_10 : List AI := [
 .j 53 (.faddr 2 (.t 3)),
 .j 54 (.load 1 false (.t 53)),
 .j 55 (.faddr 8 (.t 2)),
 .j 56 (.load 1 false (.t 55)),
 .j 57 (.len 0 (.t 56)),
 .j 58 (.bin .lss (.t 54) (.t 57)),
 .j 4 (.mov (.t 58))]
@[go_sem] def q67_11 : List AI := [
 .j 60 (.bin .eql (.t 34) (.z 19)),
 .j 59 (.mov (.t 60))]
@[go_sem] def q67_12 : List AI := [
 .j 61 (.faddr 3 (.t 2)),
 .j 62 (.load 1 false (.t 61)),
 .j 4 (.mov (.t 62))]
@[go_sem] def q67_13 : List AI := [
 .j 4 (.mov (.c (.bool true)))]
@[go_sem] def proto_refers_c : AC := .seq (.ops [q67_0]) (.seq (.seq (.ops [q67_1]) (.seq (.ops [q67_2]) (.cond (.t 32) (.seq (.ops [q67_3]) (.ret)) (.skip)))) (.seq (.seq (.ops [q67_4]) (.block 0 (.seq (.ops [q67_5]) (.cond (.t 35) (.seq (.ops [q67_6]) (.ret)) (.seq (.ops [q67_7]) (.cond (.t 43) (.seq (.ops [q67_8]) (.ret)) (.seq (.ops [q67_9]) (.cond (.t 51) (.seq (.ops [q67_10]) (.ret)) (.seq (.ops [q67_11]) (.cond (.t 59) (.seq (.ops [q67_12]) (.ret)) (.skip))))))))))) (.seq (.ops [q67_13]) (.ret))))
theorem proto_refers_ok : compF Tryz.prog 67 = some (63, proto_refers_c, [.t 4]) := by kernel_rfl

@[go_sem] def q68_0 : List AI := [
 .j 1 (.box 680001 11 (.t 0)),
 .j 2 (.mov (.c .nils)),
 .j 3 (.mov (.z 0)),
 .j 4 (.mov (.z 0))]
@[go_sem] def q68_1 : List AI := [
 .j 9 (.load 11 true (.t 1)),
 .j 10 (.call 5 [(.t 9)]),
 .j 5 (.mov (.t 10))]
@[go_sem] def q68_2 : List AI := [
 .j 11 (.mov (.t 5)),
 .j 12 (.bin .neq (.t 11) (.z 0))]
@[go_sem] def q68_3 : List AI := [
 .j 13 (.mov (.t 5)),
 .j 2 (.mov (.c .nils)),
 .j 3 (.mov (.z 0)),
 .j 4 (.mov (.t 13))]
@[go_sem] def q68_4 : List AI := [
 .j 15 (.load 11 true (.t 1)),
 .j 16 (.call 92 [(.t 15), (.c .nils)]),
 .j 14 (.mov (.t 16)),
 .j 17 (.ext 0 (.t 14)),
 .j 18 (.ext 1 (.t 14)),
 .j 19 (.ext 2 (.t 14)),
 .j 6 (.mov (.t 17)),
 .j 7 (.mov (.t 18)),
 .j 8 (.mov (.t 19))]
@[go_sem] def q68_5 : List AI := [
 .j 20 (.mov (.t 8))]
@[go_sem] def q68_6 : List AI := [
 .j 21 (.mov (.t 6)),
 .j 22 (.mov (.t 7)),
 .j 2 (.mov (.t 21)),
 .j 3 (.mov (.t 22)),
 .j 4 (.mov (.z 21))]
@[go_sem] def q68_7 : List AI := [
 .j 2 (.mov (.c .nils)),
 .j 3 (.mov (.z 0)),
 .j 4 (.mov (.z 0))]
@[go_sem] def verify_Explain_c : AC := .seq (.ops [q68_0]) (.seq (.seq (.ops [q68_1]) (.seq (.ops [q68_2]) (.cond (.t 12) (.seq (.ops [q68_3]) (.ret)) (.skip)))) (.seq (.seq (.ops [q68_4]) (.seq (.ops [q68_5]) (.cond (.t 20) (.seq (.ops [q68_6]) (.ret)) (.skip)))) (.seq (.ops [q68_7]) (.ret))))
theorem verify_Explain_ok : compF Tryz.prog 68 = some (23, verify_Explain_c, [.t 2, .t 3, .t 4]) := by kernel_rfl

@[go_sem] def q69_0 : List AI := [
 .j 4 (.mov (.c (.bool false)))]
@[go_sem] def q69_1 : List AI := [
 .j 6 (.mov (.t 0)),
 .j 7 (.len 0 (.t 6)),
 .j 8 (.mov (.t 1)),
 .j 9 (.len 0 (.t 8)),
 .j 10 (.bin .neq (.t 7) (.t 9))]
@[go_sem] def q69_2 : List AI := [
 .j 4 (.mov (.c (.bool false)))]
@[go_sem] def q69_3 : List AI := [
 .j 11 (.mov (.t 0)),
 .j 12 (.len 0 (.t 11)),
 .j 13 (.mov (.z 0))]
@[go_sem] def q69_4 : List AI := [
 .j 14 (.bin .lss (.t 13) (.t 12))]
@[go_sem] def q69_5 : List AI := [
 .j 15 (.mov (.t 13)),
 .j 5 (.mov (.t 15))]
@[go_sem] def q69_6 : List AI := [
 .j 16 (.mov (.t 0)),
 .j 17 (.mov (.t 5)),
 .j 18 (.iaddr 5 (.t 16) (.t 17)),
 .j 19 (.load 5 true (.t 18)),
 .j 20 (.mov (.t 1)),
 .j 21 (.mov (.t 5)),
 .j 22 (.iaddr 5 (.t 20) (.t 21)),
 .j 23 (.load 5 true (.t 22)),
 .j 24 (.eqa true (.agg [(0, 1, (.leaf 1)), (1, 1, (.leaf 1)), (2, 1, (.leaf 1)), (3, 1, (.leaf 1)), (4, 1, (.leaf 1))]) (.t 19) (.t 23))]
@[go_sem] def q69_7 : List AI := [
 .j 4 (.mov (.c (.bool false)))]
@[go_sem] def q69_8 : List AI := [
 .j 25 (.bin .add (.t 13) (.z 1)),
 .j 13 (.mov (.t 25))]
@[go_sem] def slices_Equal_api_Instr_api_Instr_l0' : AC := .seq (.ops [q69_4]) (.seq (.cond (.t 14) (.skip) (.exit 0)) (.seq (.block 1 (.seq (.ops [q69_5]) (.seq (.ops [q69_6]) (.cond (.t 24) (.seq (.ops [q69_7]) (.ret)) (.skip))))) (.ops [q69_8])))
def slices_Equal_api_Instr_api_Instr_l0 : AC := slices_Equal_api_Instr_api_Instr_l0'
theorem slices_Equal_api_Instr_api_Instr_l0_eq : slices_Equal_api_Instr_api_Instr_l0 = slices_Equal_api_Instr_api_Instr_l0' := rfl
@[go_sem] def q69_9 : List AI := [
 .j 4 (.mov (.c (.bool true)))]
@[go_sem] def slices_Equal_api_Instr_api_Instr_c : AC := .seq (.ops [q69_0]) (.seq (.seq (.ops [q69_1]) (.cond (.t 10) (.seq (.ops [q69_2]) (.ret)) (.skip))) (.seq (.seq (.ops [q69_3]) (.block 0 (.loop slices_Equal_api_Instr_api_Instr_l0))) (.seq (.ops [q69_9]) (.ret))))
theorem slices_Equal_api_Instr_api_Instr_ok : compF Tryz.prog 69 = some (26, slices_Equal_api_Instr_api_Instr_c, [.t 4]) := by kernel_rfl

end Go.Proofs.YtkibfcnieamdoaaGreatDoor
