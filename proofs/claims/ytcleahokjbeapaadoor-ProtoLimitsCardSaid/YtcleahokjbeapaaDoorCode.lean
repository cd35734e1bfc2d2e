/-
  The code of the functions that this seat reaches, translated into abstract code (printed by a program, each proved to be the translation). No condition.
-/
import Derived.Test.YtcleahokjbeapaaDoorExe
import Derived.Test.YtcleahokjbeapaaDoorChecked
set_option maxRecDepth 1000000
namespace Go.Proofs.YtcleahokjbeapaaDoor
open Go.Abs

@[go_sem] def q3_0 : List AI := [
 .j 2 (.mov (.c (.bool false)))]
@[go_sem] def q3_1 : List AI := [
 .j 6 (.build [(.int .i64 0), (.int .i64 0), (.int .i64 0), (.int .i64 0), (.int .i64 0)] [(0, 1, (.z 18))]),
 .j 7 (.mkrow 30007 5 [(.t 6)]),
 .j 8 (.build [(.str []), (.int .i64 0), (.int .i64 0), (.bool false), (.int .i64 0), .nils, .nils, .nils, .nils, .nils, .nils] [(5, 1, (.t 7))]),
 .j 3 (.box 30003 11 (.c (.agg [(.str []), (.int .i64 0), (.int .i64 0), (.bool false), (.int .i64 0), .nils, .nils, .nils, .nils, .nils, .nils]))),
 .e (.store 11 (.t 3) (.t 8))]
@[go_sem] def q3_2 : List AI := [
 .j 9 (.load 11 true (.t 3)),
 .j 4 (.box 30004 11 (.c (.agg [(.str []), (.int .i64 0), (.int .i64 0), (.bool false), (.int .i64 0), .nils, .nils, .nils, .nils, .nils, .nils]))),
 .e (.store 11 (.t 4) (.t 9))]
@[go_sem] def q3_3 : List AI := [
 .j 10 (.mov (.t 0)),
 .j 11 (.bin .rem (.t 10) (.c (.int .u8 5)))]
@[go_sem] def q3_4 : List AI := [
 .j 17 (.bin .eql (.t 11) (.c (.int .u8 0))),
 .j 16 (.mov (.t 17))]
@[go_sem] def q3_5 : List AI := [
 .j 5 (.mov (.z 1))]
@[go_sem] def q3_6 : List AI := [
 .j 18 (.mov (.t 5)),
 .j 19 (.bin .lss (.t 18) (.z 64))]
@[go_sem] def q3_7 : List AI := [
 .j 22 (.faddr 5 (.t 3)),
 .j 23 (.load 1 false (.t 22)),
 .j 24 (.load 11 true (.t 3)),
 .j 25 (.mkrow 30025 11 [(.t 24)]),
 .j 26 (.build [(.str []), (.int .i64 0), (.int .i64 0), (.bool false), (.int .i64 0), .nils, .nils, .nils, .nils, .nils, .nils] [(5, 1, (.t 23)), (8, 1, (.t 25))]),
 .e (.store 11 (.t 3) (.t 26))]
@[go_sem] def q3_8 : List AI := [
 .j 20 (.mov (.t 5)),
 .j 21 (.bin .add (.t 20) (.z 1)),
 .j 5 (.mov (.t 21))]
@[go_sem] def scriptinglaw33_ProtoLimits_l0' : AC := .seq (.seq (.ops [q3_6]) (.cond (.t 19) (.skip) (.exit 1))) (.seq (.block 2 (.ops [q3_7])) (.ops [q3_8]))
def scriptinglaw33_ProtoLimits_l0 : AC := scriptinglaw33_ProtoLimits_l0'
theorem scriptinglaw33_ProtoLimits_l0_eq : scriptinglaw33_ProtoLimits_l0 = scriptinglaw33_ProtoLimits_l0' := rfl
@[go_sem] def q3_9 : List AI := [
 .j 27 (.faddr 5 (.t 3)),
 .j 28 (.load 1 false (.t 27)),
 .j 29 (.load 11 true (.t 3)),
 .j 30 (.mkrow 30030 11 [(.t 29)]),
 .j 31 (.build [(.str []), (.int .i64 0), (.int .i64 0), (.bool false), (.int .i64 0), .nils, .nils, .nils, .nils, .nils, .nils] [(5, 1, (.t 28)), (8, 1, (.t 30))]),
 .e (.store 11 (.t 4) (.t 31))]
@[go_sem] def q3_10 : List AI := [
 .j 33 (.bin .eql (.t 11) (.c (.int .u8 1))),
 .j 32 (.mov (.t 33))]
@[go_sem] def q3_11 : List AI := [
 .j 34 (.mksl 30034 [(.int .i64 0), (.int .i64 0), (.int .i64 0), (.str []), (.int .i64 0)] (.z 4096)),
 .j 35 (.faddr 7 (.t 3)),
 .e (.store 1 (.t 35) (.t 34))]
@[go_sem] def q3_12 : List AI := [
 .j 36 (.mksl 30036 [(.int .i64 0), (.int .i64 0), (.int .i64 0), (.str []), (.int .i64 0)] (.z 4097)),
 .j 37 (.faddr 7 (.t 4)),
 .e (.store 1 (.t 37) (.t 36))]
@[go_sem] def q3_13 : List AI := [
 .j 39 (.bin .eql (.t 11) (.c (.int .u8 2))),
 .j 38 (.mov (.t 39))]
@[go_sem] def q3_14 : List AI := [
 .j 40 (.mksl 30040 [(.str []), (.bool false), (.int .i64 0)] (.z 60)),
 .j 41 (.faddr 9 (.t 3)),
 .e (.store 1 (.t 41) (.t 40))]
@[go_sem] def q3_15 : List AI := [
 .j 42 (.mksl 30042 [(.str []), (.bool false), (.int .i64 0)] (.z 61)),
 .j 43 (.faddr 9 (.t 4)),
 .e (.store 1 (.t 43) (.t 42))]
@[go_sem] def q3_16 : List AI := [
 .j 45 (.bin .eql (.t 11) (.c (.int .u8 3))),
 .j 44 (.mov (.t 45))]
@[go_sem] def q3_17 : List AI := [
 .j 46 (.faddr 4 (.t 3)),
 .e (.store 1 (.t 46) (.z 4096))]
@[go_sem] def q3_18 : List AI := [
 .j 47 (.faddr 4 (.t 4)),
 .e (.store 1 (.t 47) (.z 4097))]
@[go_sem] def q3_19 : List AI := [
 .j 12 (.call 4 [(.c (.str [110])), (.z 4096)]),
 .j 13 (.faddr 0 (.t 3)),
 .e (.store 1 (.t 13) (.t 12))]
@[go_sem] def q3_20 : List AI := [
 .j 14 (.call 4 [(.c (.str [110])), (.z 4097)]),
 .j 15 (.faddr 0 (.t 4)),
 .e (.store 1 (.t 15) (.t 14))]
@[go_sem] def q3_21 : List AI := [
 .j 48 (.load 11 true (.t 3)),
 .j 49 (.call 5 [(.t 48)]),
 .j 50 (.bin .eql (.t 49) (.z 0)),
 .j 51 (.mov (.t 50)),
 .k 52 51 true (.load 11 true (.t 4)),
 .k 53 51 true (.call 5 [(.t 52)]),
 .k 54 51 true (.bin .eql (.t 53) (.z 3)),
 .j 55 (.pick (.t 51) (.t 54) (.c (.bool false))),
 .j 56 (.mov (.t 55)),
 .k 57 56 true (.call 6 []),
 .j 58 (.pick (.t 56) (.t 57) (.c (.bool false))),
 .j 2 (.mov (.t 58))]
@[go_sem] def scriptinglaw33_ProtoLimits_c : AC := .seq (.ops [q3_0]) (.seq (.ops [q3_1]) (.seq (.ops [q3_2]) (.seq (.seq (.ops [q3_3]) (.block 0 (.seq (.ops [q3_4]) (.cond (.t 16) (.seq (.seq (.ops [q3_5]) (.block 1 (.loop scriptinglaw33_ProtoLimits_l0))) (.ops [q3_9])) (.seq (.ops [q3_10]) (.cond (.t 32) (.seq (.ops [q3_11]) (.ops [q3_12])) (.seq (.ops [q3_13]) (.cond (.t 38) (.seq (.ops [q3_14]) (.ops [q3_15])) (.seq (.ops [q3_16]) (.cond (.t 44) (.seq (.ops [q3_17]) (.ops [q3_18])) (.seq (.ops [q3_19]) (.ops [q3_20])))))))))))) (.seq (.ops [q3_21]) (.ret)))))
theorem scriptinglaw33_ProtoLimits_ok : compF Tryd.prog 3 = some (59, scriptinglaw33_ProtoLimits_c, [.t 2]) := by kernel_rfl

@[go_sem] def q5_0 : List AI := [
 .j 1 (.box 50001 11 (.t 0)),
 .j 2 (.box 50002 1 (.z 0))]
@[go_sem] def q5_1 : List AI := [
 .j 5 (.load 11 true (.t 1)),
 .j 6 (.call 13 [(.t 5)]),
 .j 7 (.bin .gtr (.t 6) (.z 64))]
@[go_sem] def q5_2 : List AI := [
 .e (.store 1 (.t 2) (.z 3))]
@[go_sem] def q5_3 : List AI := [
 .j 8 (.load 11 true (.t 1)),
 .j 9 (.call 14 [(.t 8)])]
@[go_sem] def q5_4 : List AI := [
 .j 3 (.box 50003 11 (.c (.agg [(.str []), (.int .i64 0), (.int .i64 0), (.bool false), (.int .i64 0), .nils, .nils, .nils, .nils, .nils, .nils]))),
 .e (.store 11 (.t 3) (.t 10))]
@[go_sem] def q5_5 : List AI := [
 .j 11 (.load 11 true (.t 3)),
 .j 12 (.call 15 [(.t 11)]),
 .j 4 (.mov (.t 12))]
@[go_sem] def q5_6 : List AI := [
 .j 13 (.mov (.t 4)),
 .j 14 (.bin .neq (.t 13) (.z 0))]
@[go_sem] def q5_7 : List AI := [
 .j 15 (.mov (.t 4)),
 .e (.store 1 (.t 2) (.t 15))]
@[go_sem] def proto_Check_g0a' : AC := .ops [q5_4]
def proto_Check_g0a : AC := proto_Check_g0a'
theorem proto_Check_g0a_eq : proto_Check_g0a = proto_Check_g0a' := rfl
@[go_sem] def proto_Check_g0b' : AC := .block 1 (.seq (.ops [q5_5]) (.seq (.ops [q5_6]) (.cond (.t 14) (.seq (.ops [q5_7]) (.ret)) (.skip))))
def proto_Check_g0b : AC := proto_Check_g0b'
theorem proto_Check_g0b_eq : proto_Check_g0b = proto_Check_g0b' := rfl
@[go_sem] def q5_8 : List AI := [
 .e (.store 1 (.t 2) (.z 0))]
@[go_sem] def proto_Check_c : AC := .seq (.ops [q5_0]) (.seq (.seq (.ops [q5_1]) (.cond (.t 7) (.seq (.ops [q5_2]) (.ret)) (.skip))) (.seq (.seq (.ops [q5_3]) (.block 0 (.rng 59010 (.t 9) [10] proto_Check_g0a proto_Check_g0b))) (.seq (.ops [q5_8]) (.ret))))
theorem proto_Check_ok : compF Tryd.prog 5 = some (16, proto_Check_c, [.c 2 1 false]) := by kernel_rfl

@[go_sem] def q6_0 : List AI := [
 .j 0 (.mov (.c (.bool false)))]
@[go_sem] def q6_1 : List AI := [
 .j 3 (.build [(.int .i64 0), (.int .i64 0), (.int .i64 0), (.int .i64 0), (.int .i64 0)] [(0, 1, (.z 18))]),
 .j 4 (.mkrow 60004 5 [(.t 3)]),
 .j 5 (.build [(.str []), (.int .i64 0), (.int .i64 0), (.bool false), (.int .i64 0), .nils, .nils, .nils, .nils, .nils, .nils] [(5, 1, (.t 4))]),
 .j 1 (.box 60001 11 (.c (.agg [(.str []), (.int .i64 0), (.int .i64 0), (.bool false), (.int .i64 0), .nils, .nils, .nils, .nils, .nils, .nils]))),
 .e (.store 11 (.t 1) (.t 5))]
@[go_sem] def q6_2 : List AI := [
 .j 6 (.build [(.int .i64 0), (.int .i64 0), (.int .i64 0), (.int .i64 0), (.int .i64 0)] [(0, 1, (.z 18))]),
 .j 7 (.mkrow 60007 5 [(.t 6)]),
 .j 8 (.load 11 true (.t 1)),
 .j 9 (.load 11 true (.t 1)),
 .j 10 (.mkrow 60010 11 [(.t 8), (.t 9)]),
 .j 11 (.build [(.str []), (.int .i64 0), (.int .i64 0), (.bool false), (.int .i64 0), .nils, .nils, .nils, .nils, .nils, .nils] [(5, 1, (.t 7)), (8, 1, (.t 10))]),
 .j 2 (.box 60002 11 (.c (.agg [(.str []), (.int .i64 0), (.int .i64 0), (.bool false), (.int .i64 0), .nils, .nils, .nils, .nils, .nils, .nils]))),
 .e (.store 11 (.t 2) (.t 11))]
@[go_sem] def q6_3 : List AI := [
 .j 12 (.load 11 true (.t 2)),
 .j 13 (.call 5 [(.t 12)]),
 .j 14 (.bin .eql (.t 13) (.z 0)),
 .j 15 (.mov (.t 14)),
 .k 16 15 true (.load 11 true (.t 2)),
 .k 17 15 true (.call 16 [(.t 16)]),
 .k 18 15 true (.bin .eql (.t 17) (.z 3)),
 .j 19 (.pick (.t 15) (.t 18) (.c (.bool false))),
 .j 20 (.mov (.t 19)),
 .k 21 20 true (.load 11 true (.t 2)),
 .k 22 20 true (.call 17 [(.t 21)]),
 .k 23 20 true (.bin .eql (.t 22) (.z 3)),
 .j 24 (.pick (.t 20) (.t 23) (.c (.bool false))),
 .j 0 (.mov (.t 24))]
@[go_sem] def scriptinglaw33_lives_c : AC := .seq (.ops [q6_0]) (.seq (.ops [q6_1]) (.seq (.ops [q6_2]) (.seq (.ops [q6_3]) (.ret))))
theorem scriptinglaw33_lives_ok : compF Tryd.prog 6 = some (25, scriptinglaw33_lives_c, [.t 0]) := by kernel_rfl

@[go_sem] def q13_0 : List AI := [
 .j 1 (.box 130001 11 (.t 0)),
 .j 2 (.mov (.z 0))]
@[go_sem] def q13_1 : List AI := [
 .j 3 (.mov (.z 0))]
@[go_sem] def q13_2 : List AI := [
 .j 6 (.faddr 8 (.t 1)),
 .j 7 (.load 1 false (.t 6)),
 .j 8 (.len 0 (.t 7)),
 .j 9 (.mov (.z 0))]
@[go_sem] def q13_3 : List AI := [
 .j 10 (.bin .lss (.t 9) (.t 8))]
@[go_sem] def q13_4 : List AI := [
 .j 11 (.iaddr 11 (.t 7) (.t 9)),
 .j 12 (.load 11 true (.t 11)),
 .j 5 (.box 130005 11 (.c (.agg [(.str []), (.int .i64 0), (.int .i64 0), (.bool false), (.int .i64 0), .nils, .nils, .nils, .nils, .nils, .nils]))),
 .e (.store 11 (.t 5) (.t 12))]
@[go_sem] def q13_5 : List AI := [
 .j 13 (.mov (.t 3)),
 .j 14 (.load 11 true (.t 5)),
 .j 15 (.call 13 [(.t 14)]),
 .j 16 (.mm true [(.t 13), (.t 15)]),
 .j 3 (.mov (.t 16))]
@[go_sem] def q13_6 : List AI := [
 .j 17 (.bin .add (.t 9) (.z 1)),
 .j 9 (.mov (.t 17))]
@[go_sem] def proto_depth_l0' : AC := .seq (.ops [q13_3]) (.seq (.cond (.t 10) (.skip) (.exit 0)) (.seq (.block 1 (.seq (.ops [q13_4]) (.ops [q13_5]))) (.ops [q13_6])))
def proto_depth_l0 : AC := proto_depth_l0'
theorem proto_depth_l0_eq : proto_depth_l0 = proto_depth_l0' := rfl
@[go_sem] def q13_7 : List AI := [
 .j 18 (.mov (.t 3)),
 .j 19 (.bin .add (.t 18) (.z 1)),
 .j 2 (.mov (.t 19))]
@[go_sem] def proto_depth_c : AC := .seq (.ops [q13_0]) (.seq (.ops [q13_1]) (.seq (.seq (.ops [q13_2]) (.block 0 (.loop proto_depth_l0))) (.seq (.ops [q13_7]) (.ret))))
theorem proto_depth_ok : compF Tryd.prog 13 = some (20, proto_depth_c, [.t 2]) := by kernel_rfl

@[go_sem] def q14_0 : List AI := [
 .j 1 (.box 140001 11 (.t 0)),
 .j 2 (.mov (.c (.cst .nilFunc)))]
@[go_sem] def q14_1 : List AI := [
 .j 3 (.mkfn 23 [(.t 1)]),
 .j 2 (.mov (.t 3))]
@[go_sem] def proto_Each_c : AC := .seq (.ops [q14_0]) (.seq (.ops [q14_1]) (.ret))
theorem proto_Each_ok : compF Tryd.prog 14 = some (4, proto_Each_c, [.t 2]) := by kernel_rfl

@[go_sem] def q15_0 : List AI := [
 .j 1 (.box 150001 11 (.t 0)),
 .j 2 (.mov (.z 0))]
@[go_sem] def q15_1 : List AI := [
 .j 12 (.load 11 true (.t 1)),
 .j 13 (.call 26 [(.t 12)]),
 .j 3 (.mov (.t 13))]
@[go_sem] def q15_2 : List AI := [
 .j 14 (.mov (.t 3)),
 .j 15 (.bin .neq (.t 14) (.z 0))]
@[go_sem] def q15_3 : List AI := [
 .j 16 (.mov (.t 3)),
 .j 2 (.mov (.t 16))]
@[go_sem] def q15_4 : List AI := [
 .j 17 (.load 11 true (.t 1)),
 .j 18 (.call 27 [(.t 17)]),
 .j 4 (.mov (.t 18))]
@[go_sem] def q15_5 : List AI := [
 .j 19 (.mov (.t 4)),
 .j 20 (.bin .neq (.t 19) (.z 0))]
@[go_sem] def q15_6 : List AI := [
 .j 21 (.mov (.t 4)),
 .j 2 (.mov (.t 21))]
@[go_sem] def q15_7 : List AI := [
 .j 22 (.faddr 5 (.t 1)),
 .j 23 (.load 1 false (.t 22)),
 .j 24 (.len 0 (.t 23)),
 .j 25 (.mov (.z 0))]
@[go_sem] def q15_8 : List AI := [
 .j 26 (.bin .lss (.t 25) (.t 24))]
@[go_sem] def q15_9 : List AI := [
 .j 27 (.iaddr 5 (.t 23) (.t 25)),
 .j 28 (.load 5 true (.t 27)),
 .j 6 (.box 150006 5 (.c (.agg [(.int .i64 0), (.int .i64 0), (.int .i64 0), (.int .i64 0), (.int .i64 0)]))),
 .e (.store 5 (.t 6) (.t 28))]
@[go_sem] def q15_10 : List AI := [
 .j 29 (.load 11 true (.t 1)),
 .j 30 (.load 5 true (.t 6)),
 .j 31 (.call 28 [(.t 29), (.t 30)]),
 .j 7 (.mov (.t 31))]
@[go_sem] def q15_11 : List AI := [
 .j 32 (.mov (.t 7)),
 .j 33 (.bin .neq (.t 32) (.z 0))]
@[go_sem] def q15_12 : List AI := [
 .j 34 (.mov (.t 7)),
 .j 2 (.mov (.t 34))]
@[go_sem] def q15_13 : List AI := [
 .j 35 (.bin .add (.t 25) (.z 1)),
 .j 25 (.mov (.t 35))]
@[go_sem] def proto_single_l0' : AC := .seq (.ops [q15_8]) (.seq (.cond (.t 26) (.skip) (.exit 0)) (.seq (.block 1 (.seq (.ops [q15_9]) (.seq (.ops [q15_10]) (.seq (.ops [q15_11]) (.cond (.t 33) (.seq (.ops [q15_12]) (.ret)) (.skip)))))) (.ops [q15_13])))
def proto_single_l0 : AC := proto_single_l0'
theorem proto_single_l0_eq : proto_single_l0 = proto_single_l0' := rfl
@[go_sem] def q15_14 : List AI := [
 .j 36 (.faddr 8 (.t 1)),
 .j 37 (.load 1 false (.t 36)),
 .j 38 (.len 0 (.t 37)),
 .j 39 (.mov (.z 0))]
@[go_sem] def q15_15 : List AI := [
 .j 40 (.bin .lss (.t 39) (.t 38))]
@[go_sem] def q15_16 : List AI := [
 .j 41 (.iaddr 11 (.t 37) (.t 39)),
 .j 42 (.load 11 true (.t 41)),
 .j 9 (.box 150009 11 (.c (.agg [(.str []), (.int .i64 0), (.int .i64 0), (.bool false), (.int .i64 0), .nils, .nils, .nils, .nils, .nils, .nils]))),
 .e (.store 11 (.t 9) (.t 42))]
@[go_sem] def q15_17 : List AI := [
 .j 43 (.faddr 9 (.t 9)),
 .j 44 (.load 1 false (.t 43)),
 .j 45 (.len 0 (.t 44)),
 .j 46 (.mov (.z 0))]
@[go_sem] def q15_18 : List AI := [
 .j 47 (.bin .lss (.t 46) (.t 45))]
@[go_sem] def q15_19 : List AI := [
 .j 48 (.iaddr 3 (.t 44) (.t 46)),
 .j 49 (.load 3 true (.t 48)),
 .j 11 (.box 150011 3 (.c (.agg [(.str []), (.bool false), (.int .i64 0)]))),
 .e (.store 3 (.t 11) (.t 49))]
@[go_sem] def q15_20 : List AI := [
 .j 50 (.faddr 1 (.t 11)),
 .j 51 (.load 1 false (.t 50)),
 .j 52 (.mov (.t 51)),
 .k 53 52 true (.faddr 2 (.t 11)),
 .k 54 52 true (.load 1 false (.t 53)),
 .k 55 52 true (.faddr 4 (.t 1)),
 .k 56 52 true (.load 1 false (.t 55)),
 .k 57 52 true (.bin .geq (.t 54) (.t 56)),
 .j 58 (.pick (.t 52) (.t 57) (.c (.bool false))),
 .j 59 (.mov (.t 58)),
 .k 60 59 false (.faddr 1 (.t 11)),
 .k 61 59 false (.load 1 false (.t 60)),
 .k 62 59 false (.un .not (.t 61)),
 .k 63 59 false (.mov (.t 62)),
 .k 64 63 true (.faddr 2 (.t 11)),
 .k 65 63 true (.load 1 false (.t 64)),
 .k 66 63 true (.faddr 9 (.t 1)),
 .k 67 63 true (.load 1 false (.t 66)),
 .k 68 63 true (.len 0 (.t 67)),
 .k 69 63 true (.bin .geq (.t 65) (.t 68)),
 .k 70 59 false (.pick (.t 63) (.t 69) (.c (.bool false))),
 .j 71 (.pick (.t 59) (.c (.bool true)) (.t 70))]
@[go_sem] def q15_21 : List AI := [
 .j 2 (.mov (.z 4))]
@[go_sem] def q15_22 : List AI := [
 .j 72 (.bin .add (.t 46) (.z 1)),
 .j 46 (.mov (.t 72))]
@[go_sem] def proto_single_l2' : AC := .seq (.ops [q15_18]) (.seq (.cond (.t 47) (.skip) (.exit 4)) (.seq (.block 5 (.seq (.ops [q15_19]) (.seq (.ops [q15_20]) (.cond (.t 71) (.seq (.ops [q15_21]) (.ret)) (.skip))))) (.ops [q15_22])))
def proto_single_l2 : AC := proto_single_l2'
theorem proto_single_l2_eq : proto_single_l2 = proto_single_l2' := rfl
@[go_sem] def q15_23 : List AI := [
 .j 73 (.bin .add (.t 39) (.z 1)),
 .j 39 (.mov (.t 73))]
@[go_sem] def proto_single_l1' : AC := .seq (.ops [q15_15]) (.seq (.cond (.t 40) (.skip) (.exit 2)) (.seq (.block 3 (.seq (.ops [q15_16]) (.seq (.ops [q15_17]) (.block 4 (.loop proto_single_l2))))) (.ops [q15_23])))
def proto_single_l1 : AC := proto_single_l1'
theorem proto_single_l1_eq : proto_single_l1 = proto_single_l1' := rfl
@[go_sem] def q15_24 : List AI := [
 .j 2 (.mov (.z 0))]
@[go_sem] def proto_single_c : AC := .seq (.ops [q15_0]) (.seq (.seq (.ops [q15_1]) (.seq (.ops [q15_2]) (.cond (.t 15) (.seq (.ops [q15_3]) (.ret)) (.skip)))) (.seq (.seq (.ops [q15_4]) (.seq (.ops [q15_5]) (.cond (.t 20) (.seq (.ops [q15_6]) (.ret)) (.skip)))) (.seq (.seq (.ops [q15_7]) (.block 0 (.loop proto_single_l0))) (.seq (.seq (.ops [q15_14]) (.block 2 (.loop proto_single_l1))) (.seq (.ops [q15_24]) (.ret))))))
theorem proto_single_ok : compF Tryd.prog 15 = some (74, proto_single_c, [.t 2]) := by kernel_rfl

@[go_sem] def q16_0 : List AI := [
 .j 1 (.box 160001 11 (.t 0)),
 .j 2 (.mov (.z 0))]
@[go_sem] def q16_1 : List AI := [
 .j 3 (.box 160003 1 (.z 0)),
 .e (.store 1 (.t 3) (.z 0))]
@[go_sem] def q16_2 : List AI := [
 .j 4 (.load 11 true (.t 1)),
 .j 5 (.call 14 [(.t 4)])]
@[go_sem] def q16_3 : List AI := [
 .j 7 (.load 1 false (.t 3)),
 .j 8 (.bin .add (.t 7) (.z 1)),
 .e (.store 1 (.t 3) (.t 8))]
@[go_sem] def proto_Count_g0a' : AC := .skip
def proto_Count_g0a : AC := proto_Count_g0a'
theorem proto_Count_g0a_eq : proto_Count_g0a = proto_Count_g0a' := rfl
@[go_sem] def proto_Count_g0b' : AC := .block 1 (.ops [q16_3])
def proto_Count_g0b : AC := proto_Count_g0b'
theorem proto_Count_g0b_eq : proto_Count_g0b = proto_Count_g0b' := rfl
@[go_sem] def q16_4 : List AI := [
 .j 9 (.load 1 false (.t 3)),
 .j 2 (.mov (.t 9))]
@[go_sem] def proto_Count_c : AC := .seq (.ops [q16_0]) (.seq (.ops [q16_1]) (.seq (.seq (.ops [q16_2]) (.block 0 (.rng 169006 (.t 5) [6] proto_Count_g0a proto_Count_g0b))) (.seq (.ops [q16_4]) (.ret))))
theorem proto_Count_ok : compF Tryd.prog 16 = some (10, proto_Count_c, [.t 2]) := by kernel_rfl

@[go_sem] def q17_0 : List AI := [
 .j 1 (.box 170001 11 (.t 0)),
 .j 2 (.mov (.z 0))]
@[go_sem] def q17_1 : List AI := [
 .j 3 (.box 170003 1 (.z 0)),
 .e (.store 1 (.t 3) (.z 0))]
@[go_sem] def q17_2 : List AI := [
 .j 5 (.load 11 true (.t 1)),
 .j 6 (.call 14 [(.t 5)])]
@[go_sem] def q17_3 : List AI := [
 .j 4 (.box 170004 11 (.c (.agg [(.str []), (.int .i64 0), (.int .i64 0), (.bool false), (.int .i64 0), .nils, .nils, .nils, .nils, .nils, .nils]))),
 .e (.store 11 (.t 4) (.t 7))]
@[go_sem] def q17_4 : List AI := [
 .j 8 (.load 1 false (.t 3)),
 .j 9 (.faddr 5 (.t 4)),
 .j 10 (.load 1 false (.t 9)),
 .j 11 (.len 0 (.t 10)),
 .j 12 (.bin .add (.t 8) (.t 11)),
 .e (.store 1 (.t 3) (.t 12))]
@[go_sem] def proto_Size_g0a' : AC := .ops [q17_3]
def proto_Size_g0a : AC := proto_Size_g0a'
theorem proto_Size_g0a_eq : proto_Size_g0a = proto_Size_g0a' := rfl
@[go_sem] def proto_Size_g0b' : AC := .block 1 (.ops [q17_4])
def proto_Size_g0b : AC := proto_Size_g0b'
theorem proto_Size_g0b_eq : proto_Size_g0b = proto_Size_g0b' := rfl
@[go_sem] def q17_5 : List AI := [
 .j 13 (.load 1 false (.t 3)),
 .j 2 (.mov (.t 13))]
@[go_sem] def proto_Size_c : AC := .seq (.ops [q17_0]) (.seq (.ops [q17_1]) (.seq (.seq (.ops [q17_2]) (.block 0 (.rng 179007 (.t 6) [7] proto_Size_g0a proto_Size_g0b))) (.seq (.ops [q17_5]) (.ret))))
theorem proto_Size_ok : compF Tryd.prog 17 = some (14, proto_Size_c, [.t 2]) := by kernel_rfl

@[go_sem] def q23_0 : List AI := [
 .j 3 (.load 11 true (.t 1)),
 .j 4 (.call 25 [(.t 3)]),
 .j 5 (.mov (.t 0)),
 .j 6 (.call 24 [(.t 4), (.t 5)])]
@[go_sem] def proto_Each_1_c : AC := .ops [q23_0]
theorem proto_Each_1_ok : compF Tryd.prog 23 = some (7, proto_Each_1_c, []) := by kernel_rfl

@[go_sem] def q24_0 : List AI := [
 .j 2 (.box 240002 11 (.t 0)),
 .j 4 (.mov (.c (.bool false)))]
@[go_sem] def q24_1 : List AI := [
 .j 7 (.mov (.t 1)),
 .j 8 (.load 11 true (.t 2)),
 .j 9 (.callv (.t 7) [(.t 8)]),
 .j 10 (.un .not (.t 9))]
@[go_sem] def q24_2 : List AI := [
 .j 4 (.mov (.c (.bool false)))]
@[go_sem] def q24_3 : List AI := [
 .j 11 (.faddr 8 (.t 2)),
 .j 12 (.load 1 false (.t 11)),
 .j 13 (.len 0 (.t 12)),
 .j 14 (.mov (.z 0))]
@[go_sem] def q24_4 : List AI := [
 .j 15 (.bin .lss (.t 14) (.t 13))]
@[go_sem] def q24_5 : List AI := [
 .j 16 (.iaddr 11 (.t 12) (.t 14)),
 .j 17 (.load 11 true (.t 16)),
 .j 6 (.box 240006 11 (.c (.agg [(.str []), (.int .i64 0), (.int .i64 0), (.bool false), (.int .i64 0), .nils, .nils, .nils, .nils, .nils, .nils]))),
 .e (.store 11 (.t 6) (.t 17))]
@[go_sem] def q24_6 : List AI := [
 .j 18 (.load 11 true (.t 6)),
 .j 19 (.mov (.t 1)),
 .j 20 (.call 24 [(.t 18), (.t 19)]),
 .j 21 (.un .not (.t 20))]
@[go_sem] def q24_7 : List AI := [
 .j 4 (.mov (.c (.bool false)))]
@[go_sem] def q24_8 : List AI := [
 .j 22 (.bin .add (.t 14) (.z 1)),
 .j 14 (.mov (.t 22))]
@[go_sem] def proto_walk_l0' : AC := .seq (.ops [q24_4]) (.seq (.cond (.t 15) (.skip) (.exit 0)) (.seq (.block 1 (.seq (.ops [q24_5]) (.seq (.ops [q24_6]) (.cond (.t 21) (.seq (.ops [q24_7]) (.ret)) (.skip))))) (.ops [q24_8])))
def proto_walk_l0 : AC := proto_walk_l0'
theorem proto_walk_l0_eq : proto_walk_l0 = proto_walk_l0' := rfl
@[go_sem] def q24_9 : List AI := [
 .j 4 (.mov (.c (.bool true)))]
@[go_sem] def proto_walk_c : AC := .seq (.ops [q24_0]) (.seq (.seq (.ops [q24_1]) (.cond (.t 10) (.seq (.ops [q24_2]) (.ret)) (.skip))) (.seq (.seq (.ops [q24_3]) (.block 0 (.loop proto_walk_l0))) (.seq (.ops [q24_9]) (.ret))))
theorem proto_walk_ok : compF Tryd.prog 24 = some (23, proto_walk_c, [.t 4]) := by kernel_rfl

@[go_sem] def q25_0 : List AI := [
 .j 1 (.box 250001 11 (.t 0)),
 .j 2 (.box 250002 11 (.c (.agg [(.str []), (.int .i64 0), (.int .i64 0), (.bool false), (.int .i64 0), .nils, .nils, .nils, .nils, .nils, .nils])))]
@[go_sem] def q25_1 : List AI := [
 .j 6 (.faddr 5 (.t 1)),
 .j 7 (.load 1 false (.t 6)),
 .j 9 (.faddr 6 (.t 1)),
 .j 10 (.load 1 false (.t 9)),
 .j 12 (.faddr 7 (.t 1)),
 .j 13 (.load 1 false (.t 12)),
 .j 15 (.faddr 9 (.t 1)),
 .j 16 (.load 1 false (.t 15)),
 .j 18 (.faddr 10 (.t 1)),
 .j 19 (.load 1 false (.t 18)),
 .j 8 (.pcall 31 [(.t 7)]),
 .j 21 (.faddr 5 (.t 1)),
 .j 11 (.pcall 32 [(.t 10)]),
 .j 14 (.pcall 33 [(.t 13)]),
 .j 17 (.pcall 34 [(.t 16)]),
 .j 20 (.pcall 35 [(.t 19)]),
 .e (.store 1 (.t 21) (.t 8)),
 .j 22 (.faddr 6 (.t 1)),
 .e (.store 1 (.t 22) (.t 11)),
 .j 23 (.faddr 7 (.t 1)),
 .e (.store 1 (.t 23) (.t 14)),
 .j 24 (.faddr 9 (.t 1)),
 .e (.store 1 (.t 24) (.t 17)),
 .j 25 (.faddr 10 (.t 1)),
 .e (.store 1 (.t 25) (.t 20))]
@[go_sem] def q25_2 : List AI := [
 .j 3 (.mov (.c .nils))]
@[go_sem] def q25_3 : List AI := [
 .j 26 (.faddr 8 (.t 1)),
 .j 27 (.load 1 false (.t 26)),
 .j 28 (.len 0 (.t 27)),
 .j 29 (.mov (.z 0))]
@[go_sem] def q25_4 : List AI := [
 .j 30 (.bin .lss (.t 29) (.t 28))]
@[go_sem] def q25_5 : List AI := [
 .j 31 (.iaddr 11 (.t 27) (.t 29)),
 .j 32 (.load 11 true (.t 31)),
 .j 5 (.box 250005 11 (.c (.agg [(.str []), (.int .i64 0), (.int .i64 0), (.bool false), (.int .i64 0), .nils, .nils, .nils, .nils, .nils, .nils]))),
 .e (.store 11 (.t 5) (.t 32))]
@[go_sem] def q25_6 : List AI := [
 .j 33 (.mov (.t 3)),
 .j 34 (.load 11 true (.t 5)),
 .j 35 (.call 25 [(.t 34)]),
 .j 36 (.mkisl 11 [(.t 35)]),
 .j 37 (.app 250037 11 (.t 33) (.t 36)),
 .j 3 (.mov (.t 37))]
@[go_sem] def q25_7 : List AI := [
 .j 38 (.bin .add (.t 29) (.z 1)),
 .j 29 (.mov (.t 38))]
@[go_sem] def proto_copied_l0' : AC := .seq (.ops [q25_4]) (.seq (.cond (.t 30) (.skip) (.exit 0)) (.seq (.block 1 (.seq (.ops [q25_5]) (.ops [q25_6]))) (.ops [q25_7])))
def proto_copied_l0 : AC := proto_copied_l0'
theorem proto_copied_l0_eq : proto_copied_l0 = proto_copied_l0' := rfl
@[go_sem] def q25_8 : List AI := [
 .j 39 (.mov (.t 3)),
 .j 40 (.faddr 8 (.t 1)),
 .e (.store 1 (.t 40) (.t 39))]
@[go_sem] def q25_9 : List AI := [
 .j 41 (.load 11 true (.t 1)),
 .e (.store 11 (.t 2) (.t 41))]
@[go_sem] def proto_copied_c : AC := .seq (.ops [q25_0]) (.seq (.ops [q25_1]) (.seq (.ops [q25_2]) (.seq (.seq (.ops [q25_3]) (.block 0 (.loop proto_copied_l0))) (.seq (.ops [q25_8]) (.seq (.ops [q25_9]) (.ret))))))
theorem proto_copied_ok : compF Tryd.prog 25 = some (42, proto_copied_c, [.c 2 11 true]) := by kernel_rfl

@[go_sem] def q26_0 : List AI := [
 .j 1 (.box 260001 11 (.t 0)),
 .j 2 (.mov (.z 0))]
@[go_sem] def q26_1 : List AI := [
 .j 4 (.faddr 5 (.t 1)),
 .j 5 (.load 1 false (.t 4)),
 .j 6 (.len 0 (.t 5)),
 .j 7 (.bin .gtr (.t 6) (.z 16384)),
 .j 8 (.mov (.t 7)),
 .k 9 8 false (.faddr 7 (.t 1)),
 .k 10 8 false (.load 1 false (.t 9)),
 .k 11 8 false (.len 0 (.t 10)),
 .k 12 8 false (.bin .gtr (.t 11) (.z 4096)),
 .j 13 (.pick (.t 8) (.c (.bool true)) (.t 12)),
 .j 14 (.mov (.t 13)),
 .k 15 14 false (.faddr 8 (.t 1)),
 .k 16 14 false (.load 1 false (.t 15)),
 .k 17 14 false (.len 0 (.t 16)),
 .k 18 14 false (.bin .gtr (.t 17) (.z 1024)),
 .j 19 (.pick (.t 14) (.c (.bool true)) (.t 18)),
 .j 20 (.mov (.t 19)),
 .k 21 20 false (.faddr 9 (.t 1)),
 .k 22 20 false (.load 1 false (.t 21)),
 .k 23 20 false (.len 0 (.t 22)),
 .k 24 20 false (.bin .gtr (.t 23) (.z 60)),
 .j 25 (.pick (.t 20) (.c (.bool true)) (.t 24)),
 .j 26 (.mov (.t 25)),
 .k 27 26 false (.faddr 10 (.t 1)),
 .k 28 26 false (.load 1 false (.t 27)),
 .k 29 26 false (.len 0 (.t 28)),
 .k 30 26 false (.bin .gtr (.t 29) (.z 16384)),
 .j 31 (.pick (.t 26) (.c (.bool true)) (.t 30)),
 .j 32 (.mov (.t 31)),
 .k 33 32 false (.faddr 4 (.t 1)),
 .k 34 32 false (.load 1 false (.t 33)),
 .k 35 32 false (.bin .gtr (.t 34) (.z 4096)),
 .j 36 (.pick (.t 32) (.c (.bool true)) (.t 35)),
 .j 37 (.mov (.t 36)),
 .k 38 37 false (.faddr 0 (.t 1)),
 .k 39 37 false (.load 1 false (.t 38)),
 .k 40 37 false (.len 1 (.t 39)),
 .k 41 37 false (.bin .gtr (.t 40) (.z 4096)),
 .j 42 (.pick (.t 37) (.c (.bool true)) (.t 41))]
@[go_sem] def q26_2 : List AI := [
 .j 2 (.mov (.z 3))]
@[go_sem] def q26_3 : List AI := [
 .j 3 (.box 260003 1 (.c (.cst .nilFunc))),
 .e (.store 1 (.t 3) (.f 36))]
@[go_sem] def q26_4 : List AI := [
 .j 43 (.faddr 9 (.t 1)),
 .j 44 (.load 1 false (.t 43)),
 .j 45 (.mkfn 38 [(.t 3)]),
 .j 46 (.call 37 [(.t 44), (.t 45)]),
 .j 47 (.mov (.t 46)),
 .k 48 47 false (.faddr 10 (.t 1)),
 .k 49 47 false (.load 1 false (.t 48)),
 .k 50 47 false (.mkfn 40 [(.t 3)]),
 .k 51 47 false (.call 39 [(.t 49), (.t 50)]),
 .j 52 (.pick (.t 47) (.c (.bool true)) (.t 51))]
@[go_sem] def q26_5 : List AI := [
 .j 2 (.mov (.z 3))]
@[go_sem] def q26_6 : List AI := [
 .j 2 (.mov (.z 0))]
@[go_sem] def proto_limits_c : AC := .seq (.ops [q26_0]) (.seq (.seq (.ops [q26_1]) (.cond (.t 42) (.seq (.ops [q26_2]) (.ret)) (.skip))) (.seq (.ops [q26_3]) (.seq (.seq (.ops [q26_4]) (.cond (.t 52) (.seq (.ops [q26_5]) (.ret)) (.skip))) (.seq (.ops [q26_6]) (.ret)))))
theorem proto_limits_ok : compF Tryd.prog 26 = some (53, proto_limits_c, [.t 2]) := by kernel_rfl

@[go_sem] def q27_0 : List AI := [
 .j 1 (.box 270001 11 (.t 0)),
 .j 2 (.mov (.z 0))]
@[go_sem] def q27_1 : List AI := [
 .j 8 (.faddr 5 (.t 1)),
 .j 9 (.load 1 false (.t 8)),
 .j 10 (.len 0 (.t 9)),
 .j 3 (.mov (.t 10))]
@[go_sem] def q27_2 : List AI := [
 .j 11 (.mov (.t 3)),
 .j 12 (.bin .eql (.t 11) (.z 0)),
 .j 13 (.mov (.t 12)),
 .k 14 13 false (.faddr 4 (.t 1)),
 .k 15 13 false (.load 1 false (.t 14)),
 .k 16 13 false (.bin .lss (.t 15) (.z 0)),
 .j 17 (.pick (.t 13) (.c (.bool true)) (.t 16)),
 .j 18 (.mov (.t 17)),
 .k 19 18 false (.faddr 2 (.t 1)),
 .k 20 18 false (.load 1 false (.t 19)),
 .k 21 18 false (.bin .lss (.t 20) (.z 0)),
 .j 22 (.pick (.t 18) (.c (.bool true)) (.t 21)),
 .j 23 (.mov (.t 22)),
 .k 24 23 false (.faddr 1 (.t 1)),
 .k 25 23 false (.load 1 false (.t 24)),
 .k 26 23 false (.bin .lss (.t 25) (.z 0)),
 .j 27 (.pick (.t 23) (.c (.bool true)) (.t 26)),
 .j 28 (.mov (.t 27)),
 .k 29 28 false (.faddr 2 (.t 1)),
 .k 30 28 false (.load 1 false (.t 29)),
 .k 31 28 false (.faddr 4 (.t 1)),
 .k 32 28 false (.load 1 false (.t 31)),
 .k 33 28 false (.bin .gtr (.t 30) (.t 32)),
 .j 34 (.pick (.t 28) (.c (.bool true)) (.t 33)),
 .j 35 (.mov (.t 34)),
 .k 36 35 false (.faddr 6 (.t 1)),
 .k 37 35 false (.load 1 false (.t 36)),
 .k 38 35 false (.len 0 (.t 37)),
 .k 39 35 false (.bin .neq (.t 38) (.z 0)),
 .k 40 35 false (.mov (.t 39)),
 .k 41 40 true (.faddr 6 (.t 1)),
 .k 42 40 true (.load 1 false (.t 41)),
 .k 43 40 true (.len 0 (.t 42)),
 .k 44 40 true (.mov (.t 3)),
 .k 45 40 true (.bin .neq (.t 43) (.t 44)),
 .k 46 35 false (.pick (.t 40) (.t 45) (.c (.bool false))),
 .j 47 (.pick (.t 35) (.c (.bool true)) (.t 46))]
@[go_sem] def q27_3 : List AI := [
 .j 2 (.mov (.z 4))]
@[go_sem] def q27_4 : List AI := [
 .j 48 (.faddr 6 (.t 1)),
 .j 49 (.load 1 false (.t 48)),
 .j 50 (.call 41 [(.t 49), (.f 42)]),
 .j 51 (.mov (.t 50)),
 .k 52 51 false (.faddr 9 (.t 1)),
 .k 53 51 false (.load 1 false (.t 52)),
 .k 54 51 false (.call 37 [(.t 53), (.f 43)]),
 .j 55 (.pick (.t 51) (.c (.bool true)) (.t 54))]
@[go_sem] def q27_5 : List AI := [
 .j 2 (.mov (.z 4))]
@[go_sem] def q27_6 : List AI := [
 .j 56 (.faddr 7 (.t 1)),
 .j 57 (.load 1 false (.t 56)),
 .j 58 (.len 0 (.t 57)),
 .j 59 (.mov (.z 0))]
@[go_sem] def q27_7 : List AI := [
 .j 60 (.bin .lss (.t 59) (.t 58))]
@[go_sem] def q27_8 : List AI := [
 .j 61 (.iaddr 5 (.t 57) (.t 59)),
 .j 62 (.load 5 true (.t 61)),
 .j 5 (.box 270005 5 (.c (.agg [(.int .i64 0), (.int .i64 0), (.int .i64 0), (.str []), (.int .i64 0)]))),
 .e (.store 5 (.t 5) (.t 62))]
@[go_sem] def q27_9 : List AI := [
 .j 63 (.faddr 0 (.t 5)),
 .j 64 (.load 1 false (.t 63)),
 .j 65 (.bin .gtr (.t 64) (.z 3)),
 .j 66 (.mov (.t 65)),
 .k 67 66 false (.load 5 true (.t 5)),
 .k 68 66 false (.call 44 [(.t 67)]),
 .k 69 66 false (.un .not (.t 68)),
 .j 70 (.pick (.t 66) (.c (.bool true)) (.t 69))]
@[go_sem] def q27_10 : List AI := [
 .j 2 (.mov (.z 4))]
@[go_sem] def q27_11 : List AI := [
 .j 71 (.bin .add (.t 59) (.z 1)),
 .j 59 (.mov (.t 71))]
@[go_sem] def proto_form_l0' : AC := .seq (.ops [q27_7]) (.seq (.cond (.t 60) (.skip) (.exit 0)) (.seq (.block 1 (.seq (.ops [q27_8]) (.seq (.ops [q27_9]) (.cond (.t 70) (.seq (.ops [q27_10]) (.ret)) (.skip))))) (.ops [q27_11])))
def proto_form_l0 : AC := proto_form_l0'
theorem proto_form_l0_eq : proto_form_l0 = proto_form_l0' := rfl
@[go_sem] def q27_12 : List AI := [
 .j 72 (.faddr 10 (.t 1)),
 .j 73 (.load 1 false (.t 72)),
 .j 74 (.len 0 (.t 73)),
 .j 75 (.mov (.z 0))]
@[go_sem] def q27_13 : List AI := [
 .j 76 (.bin .lss (.t 75) (.t 74))]
@[go_sem] def q27_14 : List AI := [
 .j 77 (.iaddr 5 (.t 73) (.t 75)),
 .j 78 (.load 5 true (.t 77)),
 .j 7 (.box 270007 5 (.c (.agg [(.str []), (.int .i64 0), (.int .i64 0), (.int .i64 0), (.int .i64 0)]))),
 .e (.store 5 (.t 7) (.t 78))]
@[go_sem] def q27_15 : List AI := [
 .j 79 (.faddr 1 (.t 7)),
 .j 80 (.load 1 false (.t 79)),
 .j 81 (.bin .lss (.t 80) (.z 0)),
 .j 82 (.mov (.t 81)),
 .k 83 82 false (.faddr 1 (.t 7)),
 .k 84 82 false (.load 1 false (.t 83)),
 .k 85 82 false (.faddr 4 (.t 1)),
 .k 86 82 false (.load 1 false (.t 85)),
 .k 87 82 false (.bin .geq (.t 84) (.t 86)),
 .j 88 (.pick (.t 82) (.c (.bool true)) (.t 87)),
 .j 89 (.mov (.t 88)),
 .k 90 89 false (.faddr 4 (.t 7)),
 .k 91 89 false (.load 1 false (.t 90)),
 .k 92 89 false (.bin .lss (.t 91) (.z 0)),
 .j 93 (.pick (.t 89) (.c (.bool true)) (.t 92)),
 .j 94 (.mov (.t 93)),
 .k 95 94 false (.faddr 4 (.t 7)),
 .k 96 94 false (.load 1 false (.t 95)),
 .k 97 94 false (.bin .gtr (.t 96) (.z 2)),
 .j 98 (.pick (.t 94) (.c (.bool true)) (.t 97)),
 .j 99 (.mov (.t 98)),
 .k 100 99 false (.faddr 2 (.t 7)),
 .k 101 99 false (.load 1 false (.t 100)),
 .k 102 99 false (.bin .lss (.t 101) (.z 0)),
 .j 103 (.pick (.t 99) (.c (.bool true)) (.t 102)),
 .j 104 (.mov (.t 103)),
 .k 105 104 false (.faddr 3 (.t 7)),
 .k 106 104 false (.load 1 false (.t 105)),
 .k 107 104 false (.faddr 2 (.t 7)),
 .k 108 104 false (.load 1 false (.t 107)),
 .k 109 104 false (.bin .lss (.t 106) (.t 108)),
 .j 110 (.pick (.t 104) (.c (.bool true)) (.t 109)),
 .j 111 (.mov (.t 110)),
 .k 112 111 false (.faddr 3 (.t 7)),
 .k 113 111 false (.load 1 false (.t 112)),
 .k 114 111 false (.mov (.t 3)),
 .k 115 111 false (.bin .gtr (.t 113) (.t 114)),
 .j 116 (.pick (.t 111) (.c (.bool true)) (.t 115))]
@[go_sem] def q27_16 : List AI := [
 .j 2 (.mov (.z 4))]
@[go_sem] def q27_17 : List AI := [
 .j 117 (.bin .add (.t 75) (.z 1)),
 .j 75 (.mov (.t 117))]
@[go_sem] def proto_form_l1' : AC := .seq (.ops [q27_13]) (.seq (.cond (.t 76) (.skip) (.exit 2)) (.seq (.block 3 (.seq (.ops [q27_14]) (.seq (.ops [q27_15]) (.cond (.t 116) (.seq (.ops [q27_16]) (.ret)) (.skip))))) (.ops [q27_17])))
def proto_form_l1 : AC := proto_form_l1'
theorem proto_form_l1_eq : proto_form_l1 = proto_form_l1' := rfl
@[go_sem] def q27_18 : List AI := [
 .j 2 (.mov (.z 0))]
@[go_sem] def proto_form_c : AC := .seq (.ops [q27_0]) (.seq (.ops [q27_1]) (.seq (.seq (.ops [q27_2]) (.cond (.t 47) (.seq (.ops [q27_3]) (.ret)) (.skip))) (.seq (.seq (.ops [q27_4]) (.cond (.t 55) (.seq (.ops [q27_5]) (.ret)) (.skip))) (.seq (.seq (.ops [q27_6]) (.block 0 (.loop proto_form_l0))) (.seq (.seq (.ops [q27_12]) (.block 2 (.loop proto_form_l1))) (.seq (.ops [q27_18]) (.ret)))))))
theorem proto_form_ok : compF Tryd.prog 27 = some (118, proto_form_c, [.t 2]) := by kernel_rfl

@[go_sem] def q28_0 : List AI := [
 .j 2 (.box 280002 11 (.t 0)),
 .j 3 (.box 280003 5 (.t 1)),
 .j 4 (.mov (.z 0))]
@[go_sem] def q28_1 : List AI := [
 .j 12 (.load 5 true (.t 3)),
 .j 13 (.call 45 [(.t 12)]),
 .j 5 (.mov (.t 13))]
@[go_sem] def q28_2 : List AI := [
 .j 14 (.mov (.t 5)),
 .j 15 (.bin .neq (.t 14) (.z 0))]
@[go_sem] def q28_3 : List AI := [
 .j 16 (.mov (.t 5)),
 .j 4 (.mov (.t 16))]
@[go_sem] def q28_4 : List AI := [
 .j 18 (.load 5 true (.t 3)),
 .j 19 (.call 46 [(.t 18)]),
 .j 17 (.mov (.t 19)),
 .j 20 (.ext 0 (.t 17)),
 .j 21 (.ext 1 (.t 17)),
 .j 6 (.mov (.t 20)),
 .j 7 (.mov (.t 21))]
@[go_sem] def q28_5 : List AI := [
 .j 23 (.load 5 true (.t 3)),
 .j 24 (.call 47 [(.t 23)]),
 .j 22 (.mov (.t 24)),
 .j 25 (.ext 0 (.t 22)),
 .j 26 (.ext 1 (.t 22)),
 .j 8 (.mov (.t 25)),
 .j 9 (.mov (.t 26))]
@[go_sem] def q28_6 : List AI := [
 .j 27 (.load 11 true (.t 2)),
 .j 28 (.mov (.t 6)),
 .j 29 (.mov (.t 7)),
 .j 30 (.call 48 [(.t 27), (.t 28), (.t 29)]),
 .j 31 (.un .not (.t 30)),
 .j 32 (.mov (.t 31)),
 .k 33 32 false (.load 11 true (.t 2)),
 .k 34 32 false (.mov (.t 8)),
 .k 35 32 false (.mov (.t 9)),
 .k 36 32 false (.call 48 [(.t 33), (.t 34), (.t 35)]),
 .k 37 32 false (.un .not (.t 36)),
 .j 38 (.pick (.t 32) (.c (.bool true)) (.t 37))]
@[go_sem] def q28_7 : List AI := [
 .j 4 (.mov (.z 4))]
@[go_sem] def q28_8 : List AI := [
 .j 40 (.load 5 true (.t 3)),
 .j 41 (.call 49 [(.t 40)]),
 .j 39 (.mov (.t 41)),
 .j 42 (.ext 0 (.t 39)),
 .j 43 (.ext 1 (.t 39)),
 .j 10 (.mov (.t 42)),
 .j 11 (.mov (.t 43))]
@[go_sem] def q28_9 : List AI := [
 .j 44 (.mov (.t 11)),
 .j 45 (.mov (.t 44)),
 .k 46 45 true (.mov (.t 10)),
 .k 47 45 true (.bin .lss (.t 46) (.z 0)),
 .k 48 45 true (.mov (.t 47)),
 .k 49 48 false (.mov (.t 10)),
 .k 50 48 false (.faddr 5 (.t 2)),
 .k 51 48 false (.load 1 false (.t 50)),
 .k 52 48 false (.len 0 (.t 51)),
 .k 53 48 false (.bin .geq (.t 49) (.t 52)),
 .k 54 45 true (.pick (.t 48) (.c (.bool true)) (.t 53)),
 .j 55 (.pick (.t 45) (.t 54) (.c (.bool false)))]
@[go_sem] def q28_10 : List AI := [
 .j 4 (.mov (.z 4))]
@[go_sem] def q28_11 : List AI := [
 .j 56 (.load 11 true (.t 2)),
 .j 57 (.load 5 true (.t 3)),
 .j 58 (.call 50 [(.t 56), (.t 57)]),
 .j 59 (.un .not (.t 58))]
@[go_sem] def q28_12 : List AI := [
 .j 4 (.mov (.z 4))]
@[go_sem] def q28_13 : List AI := [
 .j 4 (.mov (.z 0))]
@[go_sem] def proto_instruction_c : AC := .seq (.ops [q28_0]) (.seq (.seq (.ops [q28_1]) (.seq (.ops [q28_2]) (.cond (.t 15) (.seq (.ops [q28_3]) (.ret)) (.skip)))) (.seq (.ops [q28_4]) (.seq (.ops [q28_5]) (.seq (.seq (.ops [q28_6]) (.cond (.t 38) (.seq (.ops [q28_7]) (.ret)) (.skip))) (.seq (.seq (.ops [q28_8]) (.seq (.ops [q28_9]) (.cond (.t 55) (.seq (.ops [q28_10]) (.ret)) (.skip)))) (.seq (.seq (.ops [q28_11]) (.cond (.t 59) (.seq (.ops [q28_12]) (.ret)) (.skip))) (.seq (.ops [q28_13]) (.ret))))))))
theorem proto_instruction_ok : compF Tryd.prog 28 = some (60, proto_instruction_c, [.t 4]) := by kernel_rfl

@[go_sem] def q31_0 : List AI := [
 .j 2 (.mov (.c .nils))]
@[go_sem] def q31_1 : List AI := [
 .j 3 (.mov (.t 0)),
 .j 4 (.eqn false false (.t 3))]
@[go_sem] def q31_2 : List AI := [
 .j 2 (.mov (.c .nils))]
@[go_sem] def q31_3 : List AI := [
 .j 5 (.mkrow 310005 5 []),
 .j 6 (.mov (.t 0)),
 .j 7 (.app 310007 5 (.t 5) (.t 6)),
 .j 2 (.mov (.t 7))]
@[go_sem] def slices_Clone_api_Instr_api_Instr_c : AC := .seq (.ops [q31_0]) (.seq (.seq (.ops [q31_1]) (.cond (.t 4) (.seq (.ops [q31_2]) (.ret)) (.skip))) (.seq (.ops [q31_3]) (.ret)))
theorem slices_Clone_api_Instr_api_Instr_ok : compF Tryd.prog 31 = some (8, slices_Clone_api_Instr_api_Instr_c, [.t 2]) := by kernel_rfl

@[go_sem] def q32_0 : List AI := [
 .j 2 (.mov (.c .nils))]
@[go_sem] def q32_1 : List AI := [
 .j 3 (.mov (.t 0)),
 .j 4 (.eqn false false (.t 3))]
@[go_sem] def q32_2 : List AI := [
 .j 2 (.mov (.c .nils))]
@[go_sem] def q32_3 : List AI := [
 .j 5 (.mkrow 320005 1 []),
 .j 6 (.mov (.t 0)),
 .j 7 (.app 320007 1 (.t 5) (.t 6)),
 .j 2 (.mov (.t 7))]
@[go_sem] def slices_Clone_int_int_c : AC := .seq (.ops [q32_0]) (.seq (.seq (.ops [q32_1]) (.cond (.t 4) (.seq (.ops [q32_2]) (.ret)) (.skip))) (.seq (.ops [q32_3]) (.ret)))
theorem slices_Clone_int_int_ok : compF Tryd.prog 32 = some (8, slices_Clone_int_int_c, [.t 2]) := by kernel_rfl

@[go_sem] def q33_0 : List AI := [
 .j 2 (.mov (.c .nils))]
@[go_sem] def q33_1 : List AI := [
 .j 3 (.mov (.t 0)),
 .j 4 (.eqn false false (.t 3))]
@[go_sem] def q33_2 : List AI := [
 .j 2 (.mov (.c .nils))]
@[go_sem] def q33_3 : List AI := [
 .j 5 (.mkrow 330005 5 []),
 .j 6 (.mov (.t 0)),
 .j 7 (.app 330007 5 (.t 5) (.t 6)),
 .j 2 (.mov (.t 7))]
@[go_sem] def slices_Clone_api_Value_api_Value_c : AC := .seq (.ops [q33_0]) (.seq (.seq (.ops [q33_1]) (.cond (.t 4) (.seq (.ops [q33_2]) (.ret)) (.skip))) (.seq (.ops [q33_3]) (.ret)))
theorem slices_Clone_api_Value_api_Value_ok : compF Tryd.prog 33 = some (8, slices_Clone_api_Value_api_Value_c, [.t 2]) := by kernel_rfl

@[go_sem] def q34_0 : List AI := [
 .j 2 (.mov (.c .nils))]
@[go_sem] def q34_1 : List AI := [
 .j 3 (.mov (.t 0)),
 .j 4 (.eqn false false (.t 3))]
@[go_sem] def q34_2 : List AI := [
 .j 2 (.mov (.c .nils))]
@[go_sem] def q34_3 : List AI := [
 .j 5 (.mkrow 340005 3 []),
 .j 6 (.mov (.t 0)),
 .j 7 (.app 340007 3 (.t 5) (.t 6)),
 .j 2 (.mov (.t 7))]
@[go_sem] def slices_Clone_api_Up_api_Up_c : AC := .seq (.ops [q34_0]) (.seq (.seq (.ops [q34_1]) (.cond (.t 4) (.seq (.ops [q34_2]) (.ret)) (.skip))) (.seq (.ops [q34_3]) (.ret)))
theorem slices_Clone_api_Up_api_Up_ok : compF Tryd.prog 34 = some (8, slices_Clone_api_Up_api_Up_c, [.t 2]) := by kernel_rfl

@[go_sem] def q35_0 : List AI := [
 .j 2 (.mov (.c .nils))]
@[go_sem] def q35_1 : List AI := [
 .j 3 (.mov (.t 0)),
 .j 4 (.eqn false false (.t 3))]
@[go_sem] def q35_2 : List AI := [
 .j 2 (.mov (.c .nils))]
@[go_sem] def q35_3 : List AI := [
 .j 5 (.mkrow 350005 5 []),
 .j 6 (.mov (.t 0)),
 .j 7 (.app 350007 5 (.t 5) (.t 6)),
 .j 2 (.mov (.t 7))]
@[go_sem] def slices_Clone_api_Var_api_Var_c : AC := .seq (.ops [q35_0]) (.seq (.seq (.ops [q35_1]) (.cond (.t 4) (.seq (.ops [q35_2]) (.ret)) (.skip))) (.seq (.ops [q35_3]) (.ret)))
theorem slices_Clone_api_Var_api_Var_ok : compF Tryd.prog 35 = some (8, slices_Clone_api_Var_api_Var_c, [.t 2]) := by kernel_rfl

@[go_sem] def q36_0 : List AI := [
 .j 2 (.mov (.c (.bool false)))]
@[go_sem] def q36_1 : List AI := [
 .j 3 (.mov (.t 0)),
 .j 4 (.len 1 (.t 3)),
 .j 5 (.bin .gtr (.t 4) (.z 40)),
 .j 2 (.mov (.t 5))]
@[go_sem] def proto_limits_1_c : AC := .seq (.ops [q36_0]) (.seq (.ops [q36_1]) (.ret))
theorem proto_limits_1_ok : compF Tryd.prog 36 = some (6, proto_limits_1_c, [.t 2]) := by kernel_rfl

@[go_sem] def q37_0 : List AI := [
 .j 4 (.mov (.c (.bool false)))]
@[go_sem] def q37_1 : List AI := [
 .j 5 (.mov (.t 0)),
 .j 6 (.mov (.t 1)),
 .j 7 (.call 51 [(.t 5), (.t 6)]),
 .j 8 (.bin .geq (.t 7) (.z 0)),
 .j 4 (.mov (.t 8))]
@[go_sem] def slices_ContainsFunc_api_Up_api_Up_c : AC := .seq (.ops [q37_0]) (.seq (.ops [q37_1]) (.ret))
theorem slices_ContainsFunc_api_Up_api_Up_ok : compF Tryd.prog 37 = some (9, slices_ContainsFunc_api_Up_api_Up_c, [.t 4]) := by kernel_rfl

@[go_sem] def q38_0 : List AI := [
 .j 2 (.box 380002 3 (.t 0)),
 .j 3 (.mov (.c (.bool false)))]
@[go_sem] def q38_1 : List AI := [
 .j 4 (.load 1 false (.t 1)),
 .j 5 (.faddr 0 (.t 2)),
 .j 6 (.load 1 false (.t 5)),
 .j 7 (.callv (.t 4) [(.t 6)]),
 .j 3 (.mov (.t 7))]
@[go_sem] def proto_limits_2_c : AC := .seq (.ops [q38_0]) (.seq (.ops [q38_1]) (.ret))
theorem proto_limits_2_ok : compF Tryd.prog 38 = some (8, proto_limits_2_c, [.t 3]) := by kernel_rfl

@[go_sem] def q39_0 : List AI := [
 .j 4 (.mov (.c (.bool false)))]
@[go_sem] def q39_1 : List AI := [
 .j 5 (.mov (.t 0)),
 .j 6 (.mov (.t 1)),
 .j 7 (.call 52 [(.t 5), (.t 6)]),
 .j 8 (.bin .geq (.t 7) (.z 0)),
 .j 4 (.mov (.t 8))]
@[go_sem] def slices_ContainsFunc_api_Var_api_Var_c : AC := .seq (.ops [q39_0]) (.seq (.ops [q39_1]) (.ret))
theorem slices_ContainsFunc_api_Var_api_Var_ok : compF Tryd.prog 39 = some (9, slices_ContainsFunc_api_Var_api_Var_c, [.t 4]) := by kernel_rfl

@[go_sem] def q40_0 : List AI := [
 .j 2 (.box 400002 5 (.t 0)),
 .j 3 (.mov (.c (.bool false)))]
@[go_sem] def q40_1 : List AI := [
 .j 4 (.load 1 false (.t 1)),
 .j 5 (.faddr 0 (.t 2)),
 .j 6 (.load 1 false (.t 5)),
 .j 7 (.callv (.t 4) [(.t 6)]),
 .j 3 (.mov (.t 7))]
@[go_sem] def proto_limits_3_c : AC := .seq (.ops [q40_0]) (.seq (.ops [q40_1]) (.ret))
theorem proto_limits_3_ok : compF Tryd.prog 40 = some (8, proto_limits_3_c, [.t 3]) := by kernel_rfl

@[go_sem] def q41_0 : List AI := [
 .j 4 (.mov (.c (.bool false)))]
@[go_sem] def q41_1 : List AI := [
 .j 5 (.mov (.t 0)),
 .j 6 (.mov (.t 1)),
 .j 7 (.call 53 [(.t 5), (.t 6)]),
 .j 8 (.bin .geq (.t 7) (.z 0)),
 .j 4 (.mov (.t 8))]
@[go_sem] def slices_ContainsFunc_int_int_c : AC := .seq (.ops [q41_0]) (.seq (.ops [q41_1]) (.ret))
theorem slices_ContainsFunc_int_int_ok : compF Tryd.prog 41 = some (9, slices_ContainsFunc_int_int_c, [.t 4]) := by kernel_rfl

@[go_sem] def q42_0 : List AI := [
 .j 2 (.mov (.c (.bool false)))]
@[go_sem] def q42_1 : List AI := [
 .j 3 (.mov (.t 0)),
 .j 4 (.bin .lss (.t 3) (.z 0)),
 .j 2 (.mov (.t 4))]
@[go_sem] def proto_form_1_c : AC := .seq (.ops [q42_0]) (.seq (.ops [q42_1]) (.ret))
theorem proto_form_1_ok : compF Tryd.prog 42 = some (5, proto_form_1_c, [.t 2]) := by kernel_rfl

@[go_sem] def q43_0 : List AI := [
 .j 1 (.box 430001 3 (.t 0)),
 .j 2 (.mov (.c (.bool false)))]
@[go_sem] def q43_1 : List AI := [
 .j 3 (.faddr 2 (.t 1)),
 .j 4 (.load 1 false (.t 3)),
 .j 5 (.bin .lss (.t 4) (.z 0)),
 .j 2 (.mov (.t 5))]
@[go_sem] def proto_form_2_c : AC := .seq (.ops [q43_0]) (.seq (.ops [q43_1]) (.ret))
theorem proto_form_2_ok : compF Tryd.prog 43 = some (6, proto_form_2_c, [.t 2]) := by kernel_rfl

@[go_sem] def q44_0 : List AI := [
 .j 1 (.box 440001 5 (.t 0)),
 .j 2 (.mov (.c (.bool false)))]
@[go_sem] def q44_1 : List AI := [
 .j 5 (.faddr 0 (.t 1)),
 .j 6 (.load 1 false (.t 5)),
 .j 7 (.build [(.int .i64 0), (.int .i64 0), (.int .i64 0), (.str []), (.int .i64 0)] [(0, 1, (.t 6))]),
 .j 3 (.box 440003 5 (.c (.agg [(.int .i64 0), (.int .i64 0), (.int .i64 0), (.str []), (.int .i64 0)]))),
 .e (.store 5 (.t 3) (.t 7))]
@[go_sem] def q44_2 : List AI := [
 .j 4 (.mov (.c (.bool true)))]
@[go_sem] def q44_3 : List AI := [
 .j 8 (.faddr 0 (.t 1)),
 .j 9 (.load 1 false (.t 8))]
@[go_sem] def q44_4 : List AI := [
 .j 11 (.bin .eql (.t 9) (.z 0)),
 .j 10 (.mov (.t 11))]
@[go_sem] def q44_5 : List AI := [
 .j 13 (.bin .eql (.t 9) (.z 1)),
 .j 12 (.mov (.t 13))]
@[go_sem] def q44_6 : List AI := [
 .j 14 (.faddr 4 (.t 1)),
 .j 15 (.load 1 false (.t 14)),
 .j 16 (.faddr 4 (.t 3)),
 .e (.store 1 (.t 16) (.t 15))]
@[go_sem] def q44_7 : List AI := [
 .j 17 (.faddr 4 (.t 1)),
 .j 18 (.load 1 false (.t 17)),
 .j 19 (.bin .eql (.t 18) (.z 0)),
 .j 20 (.mov (.t 19)),
 .k 21 20 false (.faddr 4 (.t 1)),
 .k 22 20 false (.load 1 false (.t 21)),
 .k 23 20 false (.bin .eql (.t 22) (.z 1)),
 .j 24 (.pick (.t 20) (.c (.bool true)) (.t 23)),
 .j 4 (.mov (.t 24))]
@[go_sem] def q44_8 : List AI := [
 .j 26 (.bin .eql (.t 9) (.z 2)),
 .j 25 (.mov (.t 26))]
@[go_sem] def q44_9 : List AI := [
 .j 27 (.faddr 1 (.t 1)),
 .j 28 (.load 2 true (.t 27)),
 .j 29 (.faddr 1 (.t 3)),
 .e (.store 2 (.t 29) (.t 28))]
@[go_sem] def q44_10 : List AI := [
 .j 30 (.faddr 1 (.t 1)),
 .j 31 (.load 2 true (.t 30)),
 .j 32 (.call 54 [(.t 31)]),
 .j 4 (.mov (.t 32))]
@[go_sem] def q44_11 : List AI := [
 .j 34 (.bin .eql (.t 9) (.z 3)),
 .j 33 (.mov (.t 34))]
@[go_sem] def q44_12 : List AI := [
 .j 35 (.faddr 3 (.t 1)),
 .j 36 (.load 1 false (.t 35)),
 .j 37 (.faddr 3 (.t 3)),
 .e (.store 1 (.t 37) (.t 36))]
@[go_sem] def q44_13 : List AI := [
 .j 38 (.faddr 3 (.t 1)),
 .j 39 (.load 1 false (.t 38)),
 .j 40 (.len 1 (.t 39)),
 .j 41 (.bin .leq (.t 40) (.z 4096)),
 .j 4 (.mov (.t 41))]
@[go_sem] def q44_14 : List AI := [
 .j 43 (.bin .eql (.t 9) (.z 4)),
 .j 42 (.mov (.t 43))]
@[go_sem] def q44_15 : List AI := [
 .j 44 (.bin .eql (.t 9) (.z 5)),
 .j 42 (.mov (.t 44))]
@[go_sem] def q44_16 : List AI := [
 .j 45 (.bin .eql (.t 9) (.z 7)),
 .j 42 (.mov (.t 45))]
@[go_sem] def q44_17 : List AI := [
 .j 46 (.bin .eql (.t 9) (.z 8)),
 .j 42 (.mov (.t 46))]
@[go_sem] def q44_18 : List AI := [
 .j 47 (.faddr 4 (.t 1)),
 .j 48 (.load 1 false (.t 47)),
 .j 49 (.faddr 4 (.t 3)),
 .e (.store 1 (.t 49) (.t 48))]
@[go_sem] def q44_19 : List AI := [
 .j 50 (.faddr 4 (.t 1)),
 .j 51 (.load 1 false (.t 50)),
 .j 52 (.bin .geq (.t 51) (.z 1)),
 .j 4 (.mov (.t 52))]
@[go_sem] def q44_20 : List AI := [
 .j 54 (.bin .eql (.t 9) (.z 6)),
 .j 53 (.mov (.t 54))]
@[go_sem] def q44_21 : List AI := [
 .j 55 (.faddr 3 (.t 1)),
 .j 56 (.load 1 false (.t 55)),
 .j 57 (.faddr 3 (.t 3)),
 .e (.store 1 (.t 57) (.t 56))]
@[go_sem] def q44_22 : List AI := [
 .j 58 (.faddr 3 (.t 1)),
 .j 59 (.load 1 false (.t 58)),
 .j 60 (.len 1 (.t 59)),
 .j 61 (.bin .geq (.t 60) (.z 1)),
 .j 62 (.mov (.t 61)),
 .k 63 62 true (.faddr 3 (.t 1)),
 .k 64 62 true (.load 1 false (.t 63)),
 .k 65 62 true (.len 1 (.t 64)),
 .k 66 62 true (.bin .leq (.t 65) (.z 4096)),
 .j 67 (.pick (.t 62) (.t 66) (.c (.bool false))),
 .j 4 (.mov (.t 67))]
@[go_sem] def q44_23 : List AI := [
 .j 4 (.mov (.c (.bool false)))]
@[go_sem] def q44_24 : List AI := [
 .j 68 (.mov (.t 4)),
 .j 69 (.mov (.t 68)),
 .k 70 69 true (.load 5 true (.t 1)),
 .k 71 69 true (.load 5 true (.t 3)),
 .k 72 69 true (.eqa false (.agg [(0, 1, (.leaf 1)), (1, 2, (.agg [(0, 1, (.leaf 1)), (1, 1, (.leaf 1))])), (3, 1, (.leaf 2)), (4, 1, (.leaf 1))]) (.t 70) (.t 71)),
 .j 73 (.pick (.t 69) (.t 72) (.c (.bool false))),
 .j 2 (.mov (.t 73))]
@[go_sem] def value_Valid_c : AC := .seq (.ops [q44_0]) (.seq (.ops [q44_1]) (.seq (.ops [q44_2]) (.seq (.seq (.ops [q44_3]) (.block 0 (.seq (.ops [q44_4]) (.cond (.t 10) (.skip) (.seq (.ops [q44_5]) (.cond (.t 12) (.seq (.ops [q44_6]) (.ops [q44_7])) (.seq (.ops [q44_8]) (.cond (.t 25) (.seq (.ops [q44_9]) (.ops [q44_10])) (.seq (.ops [q44_11]) (.cond (.t 33) (.seq (.ops [q44_12]) (.ops [q44_13])) (.seq (.seq (.ops [q44_14]) (.cond (.t 42) (.skip) (.seq (.ops [q44_15]) (.cond (.t 42) (.skip) (.seq (.ops [q44_16]) (.cond (.t 42) (.skip) (.ops [q44_17]))))))) (.cond (.t 42) (.seq (.ops [q44_18]) (.ops [q44_19])) (.seq (.ops [q44_20]) (.cond (.t 53) (.seq (.ops [q44_21]) (.ops [q44_22])) (.ops [q44_23]))))))))))))))) (.seq (.ops [q44_24]) (.ret)))))
theorem value_Valid_ok : compF Tryd.prog 44 = some (74, value_Valid_c, [.t 2]) := by kernel_rfl

@[go_sem] def q45_0 : List AI := [
 .j 1 (.box 450001 5 (.t 0)),
 .j 2 (.mov (.z 0))]
@[go_sem] def q45_1 : List AI := [
 .j 14 (.faddr 0 (.t 1)),
 .j 15 (.load 1 false (.t 14)),
 .j 16 (.call 55 [(.t 15)]),
 .j 13 (.mov (.t 16)),
 .j 17 (.ext 0 (.t 13)),
 .j 18 (.ext 1 (.t 13)),
 .j 3 (.box 450003 6 (.c (.agg [(.str []), (.int .i64 0), (.int .i64 0), (.int .i64 0), (.int .i64 0), (.int .i64 0)]))),
 .e (.store 6 (.t 3) (.t 17)),
 .j 4 (.mov (.t 18))]
@[go_sem] def q45_2 : List AI := [
 .j 19 (.mov (.t 4)),
 .j 20 (.un .not (.t 19))]
@[go_sem] def q45_3 : List AI := [
 .j 2 (.mov (.z 4))]
@[go_sem] def q45_4 : List AI := [
 .j 22 (.load 6 true (.t 3)),
 .j 23 (.load 5 true (.t 1)),
 .j 24 (.call 56 [(.t 22), (.t 23)]),
 .j 21 (.mov (.t 24)),
 .j 25 (.ext 0 (.t 21)),
 .j 26 (.ext 1 (.t 21)),
 .j 5 (.box 450005 4 (.c (.agg [(.int .i64 0), (.int .i64 0), (.int .i64 0), (.int .i64 0)]))),
 .j 6 (.box 450006 4 (.c (.agg [(.int .i64 0), (.int .i64 0), (.int .i64 0), (.int .i64 0)]))),
 .e (.store 4 (.t 5) (.t 25)),
 .e (.store 4 (.t 6) (.t 26))]
@[go_sem] def q45_5 : List AI := [
 .j 27 (.load 4 true (.t 5)),
 .j 28 (.mov (.z 0))]
@[go_sem] def q45_6 : List AI := [
 .j 29 (.bin .lss (.t 28) (.z 4))]
@[go_sem] def q45_7 : List AI := [
 .j 30 (.mov (.t 28)),
 .j 31 (.idxA 4 1 1 false (.t 27) (.t 28)),
 .j 7 (.mov (.t 30)),
 .j 8 (.mov (.t 31))]
@[go_sem] def q45_8 : List AI := [
 .j 32 (.mov (.t 8)),
 .j 33 (.bin .eql (.t 32) (.z 0)),
 .j 34 (.mov (.t 33)),
 .k 35 34 true (.mov (.t 7)),
 .k 36 34 true (.iaddrA 4 1 (.t 6) (.t 35)),
 .k 37 34 true (.load 1 false (.t 36)),
 .k 38 34 true (.bin .neq (.t 37) (.z 0)),
 .j 39 (.pick (.t 34) (.t 38) (.c (.bool false)))]
@[go_sem] def q45_9 : List AI := [
 .j 2 (.mov (.z 4))]
@[go_sem] def q45_10 : List AI := [
 .j 40 (.bin .add (.t 28) (.z 1)),
 .j 28 (.mov (.t 40))]
@[go_sem] def opcode_Check_l0' : AC := .seq (.ops [q45_6]) (.seq (.cond (.t 29) (.skip) (.exit 0)) (.seq (.block 1 (.seq (.ops [q45_7]) (.seq (.ops [q45_8]) (.cond (.t 39) (.seq (.ops [q45_9]) (.ret)) (.skip))))) (.ops [q45_10])))
def opcode_Check_l0 : AC := opcode_Check_l0'
theorem opcode_Check_l0_eq : opcode_Check_l0 = opcode_Check_l0' := rfl
@[go_sem] def q45_11 : List AI := [
 .j 41 (.load 4 true (.t 5)),
 .j 42 (.mov (.z 0))]
@[go_sem] def q45_12 : List AI := [
 .j 43 (.bin .lss (.t 42) (.z 4))]
@[go_sem] def q45_13 : List AI := [
 .j 44 (.mov (.t 42)),
 .j 45 (.idxA 4 1 1 false (.t 41) (.t 42)),
 .j 9 (.mov (.t 44)),
 .j 10 (.mov (.t 45))]
@[go_sem] def q45_14 : List AI := [
 .j 47 (.mov (.t 10)),
 .j 48 (.call 57 [(.t 47)]),
 .j 46 (.mov (.t 48)),
 .j 49 (.ext 0 (.t 46)),
 .j 50 (.ext 1 (.t 46)),
 .j 11 (.mov (.t 49)),
 .j 12 (.mov (.t 50))]
@[go_sem] def q45_15 : List AI := [
 .j 51 (.mov (.t 9)),
 .j 52 (.iaddrA 4 1 (.t 6) (.t 51)),
 .j 53 (.load 1 false (.t 52)),
 .j 54 (.mov (.t 11)),
 .j 55 (.bin .lss (.t 53) (.t 54)),
 .j 56 (.mov (.t 55)),
 .k 57 56 false (.mov (.t 9)),
 .k 58 56 false (.iaddrA 4 1 (.t 6) (.t 57)),
 .k 59 56 false (.load 1 false (.t 58)),
 .k 60 56 false (.mov (.t 12)),
 .k 61 56 false (.bin .gtr (.t 59) (.t 60)),
 .j 62 (.pick (.t 56) (.c (.bool true)) (.t 61))]
@[go_sem] def q45_16 : List AI := [
 .j 2 (.mov (.z 6))]
@[go_sem] def q45_17 : List AI := [
 .j 63 (.bin .add (.t 42) (.z 1)),
 .j 42 (.mov (.t 63))]
@[go_sem] def opcode_Check_l1' : AC := .seq (.ops [q45_12]) (.seq (.cond (.t 43) (.skip) (.exit 2)) (.seq (.block 3 (.seq (.ops [q45_13]) (.seq (.ops [q45_14]) (.seq (.ops [q45_15]) (.cond (.t 62) (.seq (.ops [q45_16]) (.ret)) (.skip)))))) (.ops [q45_17])))
def opcode_Check_l1 : AC := opcode_Check_l1'
theorem opcode_Check_l1_eq : opcode_Check_l1 = opcode_Check_l1' := rfl
@[go_sem] def q45_18 : List AI := [
 .j 64 (.faddr 1 (.t 3)),
 .j 65 (.load 1 false (.t 64)),
 .j 66 (.bin .eql (.t 65) (.z 1)),
 .j 67 (.mov (.t 66)),
 .k 68 67 true (.load 6 true (.t 3)),
 .k 69 67 true (.load 5 true (.t 1)),
 .k 70 67 true (.call 58 [(.t 68), (.t 69)]),
 .k 71 67 true (.bin .geq (.t 70) (.z 4096)),
 .j 72 (.pick (.t 67) (.t 71) (.c (.bool false))),
 .j 73 (.mov (.t 72)),
 .k 74 73 false (.faddr 0 (.t 1)),
 .k 75 73 false (.load 1 false (.t 74)),
 .k 76 73 false (.bin .eql (.t 75) (.z 3)),
 .k 77 73 false (.mov (.t 76)),
 .k 78 77 true (.faddr 2 (.t 1)),
 .k 79 77 true (.load 1 false (.t 78)),
 .k 80 77 true (.faddr 1 (.t 1)),
 .k 81 77 true (.load 1 false (.t 80)),
 .k 82 77 true (.bin .lss (.t 79) (.t 81)),
 .k 83 73 false (.pick (.t 77) (.t 82) (.c (.bool false))),
 .j 84 (.pick (.t 73) (.c (.bool true)) (.t 83))]
@[go_sem] def q45_19 : List AI := [
 .j 2 (.mov (.z 6))]
@[go_sem] def q45_20 : List AI := [
 .j 2 (.mov (.z 0))]
@[go_sem] def opcode_Check_c : AC := .seq (.ops [q45_0]) (.seq (.ops [q45_1]) (.seq (.seq (.ops [q45_2]) (.cond (.t 20) (.seq (.ops [q45_3]) (.ret)) (.skip))) (.seq (.ops [q45_4]) (.seq (.seq (.ops [q45_5]) (.block 0 (.loop opcode_Check_l0))) (.seq (.seq (.ops [q45_11]) (.block 2 (.loop opcode_Check_l1))) (.seq (.seq (.ops [q45_18]) (.cond (.t 84) (.seq (.ops [q45_19]) (.ret)) (.skip))) (.seq (.ops [q45_20]) (.ret))))))))
theorem opcode_Check_ok : compF Tryd.prog 45 = some (85, opcode_Check_c, [.t 2]) := by kernel_rfl

@[go_sem] def q46_0 : List AI := [
 .j 1 (.box 460001 5 (.t 0)),
 .j 2 (.mov (.c .nils)),
 .j 3 (.mov (.z 0))]
@[go_sem] def q46_1 : List AI := [
 .j 6 (.load 5 true (.t 1)),
 .j 7 (.call 45 [(.t 6)]),
 .j 8 (.bin .neq (.t 7) (.z 0))]
@[go_sem] def q46_2 : List AI := [
 .j 2 (.mov (.c .nils)),
 .j 3 (.mov (.z (-1)))]
@[go_sem] def q46_3 : List AI := [
 .j 9 (.faddr 0 (.t 1)),
 .j 10 (.load 1 false (.t 9))]
@[go_sem] def q46_4 : List AI := [
 .j 12 (.bin .eql (.t 10) (.z 1)),
 .j 11 (.mov (.t 12))]
@[go_sem] def q46_5 : List AI := [
 .j 13 (.bin .eql (.t 10) (.z 6)),
 .j 11 (.mov (.t 13))]
@[go_sem] def q46_6 : List AI := [
 .j 14 (.bin .eql (.t 10) (.z 8)),
 .j 11 (.mov (.t 14))]
@[go_sem] def q46_7 : List AI := [
 .j 15 (.bin .eql (.t 10) (.z 11)),
 .j 11 (.mov (.t 15))]
@[go_sem] def q46_8 : List AI := [
 .j 16 (.bin .eql (.t 10) (.z 12)),
 .j 11 (.mov (.t 16))]
@[go_sem] def q46_9 : List AI := [
 .j 17 (.faddr 2 (.t 1)),
 .j 18 (.load 1 false (.t 17)),
 .j 19 (.mkrow 460019 1 [(.t 18)]),
 .j 2 (.mov (.t 19)),
 .j 3 (.mov (.z (-1)))]
@[go_sem] def q46_10 : List AI := [
 .j 21 (.bin .eql (.t 10) (.z 9)),
 .j 20 (.mov (.t 21))]
@[go_sem] def q46_11 : List AI := [
 .j 22 (.bin .eql (.t 10) (.z 13)),
 .j 20 (.mov (.t 22))]
@[go_sem] def q46_12 : List AI := [
 .j 23 (.faddr 2 (.t 1)),
 .j 24 (.load 1 false (.t 23)),
 .j 25 (.faddr 3 (.t 1)),
 .j 26 (.load 1 false (.t 25)),
 .j 27 (.mkrow 460027 1 [(.t 24), (.t 26)]),
 .j 28 (.call 59 [(.t 27)]),
 .j 2 (.mov (.t 28)),
 .j 3 (.mov (.z (-1)))]
@[go_sem] def q46_13 : List AI := [
 .j 30 (.bin .eql (.t 10) (.z 10)),
 .j 29 (.mov (.t 30))]
@[go_sem] def q46_14 : List AI := [
 .j 31 (.faddr 1 (.t 1)),
 .j 32 (.load 1 false (.t 31)),
 .j 33 (.faddr 2 (.t 1)),
 .j 34 (.load 1 false (.t 33)),
 .j 35 (.faddr 3 (.t 1)),
 .j 36 (.load 1 false (.t 35)),
 .j 37 (.mkrow 460037 1 [(.t 32), (.t 34), (.t 36)]),
 .j 38 (.call 59 [(.t 37)]),
 .j 2 (.mov (.t 38)),
 .j 3 (.mov (.z (-1)))]
@[go_sem] def q46_15 : List AI := [
 .j 40 (.bin .eql (.t 10) (.z 15)),
 .j 39 (.mov (.t 40))]
@[go_sem] def q46_16 : List AI := [
 .j 41 (.bin .eql (.t 10) (.z 28)),
 .j 39 (.mov (.t 41))]
@[go_sem] def q46_17 : List AI := [
 .j 42 (.faddr 1 (.t 1)),
 .j 43 (.load 1 false (.t 42)),
 .j 44 (.mkrow 460044 1 [(.t 43)]),
 .j 2 (.mov (.t 44)),
 .j 3 (.mov (.z (-1)))]
@[go_sem] def q46_18 : List AI := [
 .j 46 (.bin .eql (.t 10) (.z 16)),
 .j 45 (.mov (.t 46))]
@[go_sem] def q46_19 : List AI := [
 .j 47 (.bin .eql (.t 10) (.z 17)),
 .j 45 (.mov (.t 47))]
@[go_sem] def q46_20 : List AI := [
 .j 48 (.bin .eql (.t 10) (.z 21)),
 .j 45 (.mov (.t 48))]
@[go_sem] def q46_21 : List AI := [
 .j 50 (.faddr 1 (.t 1)),
 .j 51 (.load 1 false (.t 50)),
 .j 52 (.bin .add (.t 51) (.z 1)),
 .j 53 (.faddr 2 (.t 1)),
 .j 54 (.load 1 false (.t 53)),
 .j 55 (.call 60 [(.t 52), (.t 54)]),
 .j 49 (.mov (.t 55)),
 .j 56 (.ext 0 (.t 49)),
 .j 57 (.ext 1 (.t 49)),
 .j 4 (.mov (.t 56)),
 .j 5 (.mov (.t 57))]
@[go_sem] def q46_22 : List AI := [
 .j 58 (.faddr 1 (.t 1)),
 .j 59 (.load 1 false (.t 58)),
 .j 60 (.mkrow 460060 1 [(.t 59)]),
 .j 61 (.mov (.t 4)),
 .j 62 (.app 460062 1 (.t 60) (.t 61)),
 .j 63 (.mov (.t 5)),
 .j 2 (.mov (.t 62)),
 .j 3 (.mov (.t 63))]
@[go_sem] def q46_23 : List AI := [
 .j 65 (.bin .eql (.t 10) (.z 18)),
 .j 64 (.mov (.t 65))]
@[go_sem] def q46_24 : List AI := [
 .j 66 (.faddr 1 (.t 1)),
 .j 67 (.load 1 false (.t 66)),
 .j 68 (.faddr 2 (.t 1)),
 .j 69 (.load 1 false (.t 68)),
 .j 70 (.call 60 [(.t 67), (.t 69)]),
 .j 71 (.ext 0 (.t 70)),
 .j 72 (.ext 1 (.t 70)),
 .j 2 (.mov (.t 71)),
 .j 3 (.mov (.t 72))]
@[go_sem] def q46_25 : List AI := [
 .j 74 (.bin .eql (.t 10) (.z 23)),
 .j 73 (.mov (.t 74))]
@[go_sem] def q46_26 : List AI := [
 .j 75 (.bin .eql (.t 10) (.z 24)),
 .j 73 (.mov (.t 75))]
@[go_sem] def q46_27 : List AI := [
 .j 76 (.bin .eql (.t 10) (.z 25)),
 .j 73 (.mov (.t 76))]
@[go_sem] def q46_28 : List AI := [
 .j 77 (.faddr 1 (.t 1)),
 .j 78 (.load 1 false (.t 77)),
 .j 79 (.call 60 [(.t 78), (.z 3)]),
 .j 80 (.ext 0 (.t 79)),
 .j 81 (.ext 1 (.t 79)),
 .j 2 (.mov (.t 80)),
 .j 3 (.mov (.t 81))]
@[go_sem] def q46_29 : List AI := [
 .j 83 (.bin .eql (.t 10) (.z 26)),
 .j 82 (.mov (.t 83))]
@[go_sem] def q46_30 : List AI := [
 .j 84 (.faddr 1 (.t 1)),
 .j 85 (.load 1 false (.t 84)),
 .j 86 (.bin .add (.t 85) (.z 3)),
 .j 87 (.mkrow 460087 1 [(.t 86)]),
 .j 2 (.mov (.t 87)),
 .j 3 (.mov (.z (-1)))]
@[go_sem] def q46_31 : List AI := [
 .j 2 (.mov (.c .nils)),
 .j 3 (.mov (.z (-1)))]
@[go_sem] def opcode_Reads_c : AC := .seq (.ops [q46_0]) (.seq (.seq (.ops [q46_1]) (.cond (.t 8) (.seq (.ops [q46_2]) (.ret)) (.skip))) (.seq (.seq (.ops [q46_3]) (.block 0 (.seq (.seq (.ops [q46_4]) (.cond (.t 11) (.skip) (.seq (.ops [q46_5]) (.cond (.t 11) (.skip) (.seq (.ops [q46_6]) (.cond (.t 11) (.skip) (.seq (.ops [q46_7]) (.cond (.t 11) (.skip) (.ops [q46_8]))))))))) (.cond (.t 11) (.seq (.ops [q46_9]) (.ret)) (.seq (.seq (.ops [q46_10]) (.cond (.t 20) (.skip) (.ops [q46_11]))) (.cond (.t 20) (.seq (.ops [q46_12]) (.ret)) (.seq (.ops [q46_13]) (.cond (.t 29) (.seq (.ops [q46_14]) (.ret)) (.seq (.seq (.ops [q46_15]) (.cond (.t 39) (.skip) (.ops [q46_16]))) (.cond (.t 39) (.seq (.ops [q46_17]) (.ret)) (.seq (.seq (.ops [q46_18]) (.cond (.t 45) (.skip) (.seq (.ops [q46_19]) (.cond (.t 45) (.skip) (.ops [q46_20]))))) (.cond (.t 45) (.seq (.ops [q46_21]) (.seq (.ops [q46_22]) (.ret))) (.seq (.ops [q46_23]) (.cond (.t 64) (.seq (.ops [q46_24]) (.ret)) (.seq (.seq (.ops [q46_25]) (.cond (.t 73) (.skip) (.seq (.ops [q46_26]) (.cond (.t 73) (.skip) (.ops [q46_27]))))) (.cond (.t 73) (.seq (.ops [q46_28]) (.ret)) (.seq (.ops [q46_29]) (.cond (.t 82) (.seq (.ops [q46_30]) (.ret)) (.skip))))))))))))))))))) (.seq (.ops [q46_31]) (.ret))))
theorem opcode_Reads_ok : compF Tryd.prog 46 = some (88, opcode_Reads_c, [.t 2, .t 3]) := by kernel_rfl

@[go_sem] def q47_0 : List AI := [
 .j 1 (.box 470001 5 (.t 0)),
 .j 2 (.mov (.c .nils)),
 .j 3 (.mov (.z 0))]
@[go_sem] def q47_1 : List AI := [
 .j 4 (.load 5 true (.t 1)),
 .j 5 (.call 45 [(.t 4)]),
 .j 6 (.bin .neq (.t 5) (.z 0))]
@[go_sem] def q47_2 : List AI := [
 .j 2 (.mov (.c .nils)),
 .j 3 (.mov (.z (-1)))]
@[go_sem] def q47_3 : List AI := [
 .j 7 (.faddr 0 (.t 1)),
 .j 8 (.load 1 false (.t 7))]
@[go_sem] def q47_4 : List AI := [
 .j 10 (.bin .eql (.t 8) (.z 1)),
 .j 9 (.mov (.t 10))]
@[go_sem] def q47_5 : List AI := [
 .j 11 (.bin .eql (.t 8) (.z 2)),
 .j 9 (.mov (.t 11))]
@[go_sem] def q47_6 : List AI := [
 .j 12 (.bin .eql (.t 8) (.z 4)),
 .j 9 (.mov (.t 12))]
@[go_sem] def q47_7 : List AI := [
 .j 13 (.bin .eql (.t 8) (.z 5)),
 .j 9 (.mov (.t 13))]
@[go_sem] def q47_8 : List AI := [
 .j 14 (.bin .eql (.t 8) (.z 7)),
 .j 9 (.mov (.t 14))]
@[go_sem] def q47_9 : List AI := [
 .j 15 (.bin .eql (.t 8) (.z 9)),
 .j 9 (.mov (.t 15))]
@[go_sem] def q47_10 : List AI := [
 .j 16 (.bin .eql (.t 8) (.z 12)),
 .j 9 (.mov (.t 16))]
@[go_sem] def q47_11 : List AI := [
 .j 17 (.bin .eql (.t 8) (.z 13)),
 .j 9 (.mov (.t 17))]
@[go_sem] def q47_12 : List AI := [
 .j 18 (.bin .eql (.t 8) (.z 20)),
 .j 9 (.mov (.t 18))]
@[go_sem] def q47_13 : List AI := [
 .j 19 (.bin .eql (.t 8) (.z 22)),
 .j 9 (.mov (.t 19))]
@[go_sem] def q47_14 : List AI := [
 .j 20 (.faddr 1 (.t 1)),
 .j 21 (.load 1 false (.t 20)),
 .j 22 (.mkrow 470022 1 [(.t 21)]),
 .j 2 (.mov (.t 22)),
 .j 3 (.mov (.z (-1)))]
@[go_sem] def q47_15 : List AI := [
 .j 24 (.bin .eql (.t 8) (.z 3)),
 .j 23 (.mov (.t 24))]
@[go_sem] def q47_16 : List AI := [
 .j 25 (.faddr 1 (.t 1)),
 .j 26 (.load 1 false (.t 25)),
 .j 27 (.faddr 2 (.t 1)),
 .j 28 (.load 1 false (.t 27)),
 .j 29 (.faddr 1 (.t 1)),
 .j 30 (.load 1 false (.t 29)),
 .j 31 (.bin .sub (.t 28) (.t 30)),
 .j 32 (.bin .add (.t 31) (.z 1)),
 .j 33 (.call 60 [(.t 26), (.t 32)]),
 .j 34 (.ext 0 (.t 33)),
 .j 35 (.ext 1 (.t 33)),
 .j 2 (.mov (.t 34)),
 .j 3 (.mov (.t 35))]
@[go_sem] def q47_17 : List AI := [
 .j 37 (.bin .eql (.t 8) (.z 11)),
 .j 36 (.mov (.t 37))]
@[go_sem] def q47_18 : List AI := [
 .j 38 (.faddr 1 (.t 1)),
 .j 39 (.load 1 false (.t 38)),
 .j 40 (.faddr 1 (.t 1)),
 .j 41 (.load 1 false (.t 40)),
 .j 42 (.bin .add (.t 41) (.z 1)),
 .j 43 (.mkrow 470043 1 [(.t 39), (.t 42)]),
 .j 2 (.mov (.t 43)),
 .j 3 (.mov (.z (-1)))]
@[go_sem] def q47_19 : List AI := [
 .j 45 (.bin .eql (.t 8) (.z 16)),
 .j 44 (.mov (.t 45))]
@[go_sem] def q47_20 : List AI := [
 .j 46 (.faddr 1 (.t 1)),
 .j 47 (.load 1 false (.t 46)),
 .j 48 (.faddr 3 (.t 1)),
 .j 49 (.load 1 false (.t 48)),
 .j 50 (.call 60 [(.t 47), (.t 49)]),
 .j 51 (.ext 0 (.t 50)),
 .j 52 (.ext 1 (.t 50)),
 .j 2 (.mov (.t 51)),
 .j 3 (.mov (.t 52))]
@[go_sem] def q47_21 : List AI := [
 .j 54 (.bin .eql (.t 8) (.z 19)),
 .j 53 (.mov (.t 54))]
@[go_sem] def q47_22 : List AI := [
 .j 55 (.faddr 1 (.t 1)),
 .j 56 (.load 1 false (.t 55)),
 .j 57 (.faddr 2 (.t 1)),
 .j 58 (.load 1 false (.t 57)),
 .j 59 (.call 60 [(.t 56), (.t 58)]),
 .j 60 (.ext 0 (.t 59)),
 .j 61 (.ext 1 (.t 59)),
 .j 2 (.mov (.t 60)),
 .j 3 (.mov (.t 61))]
@[go_sem] def q47_23 : List AI := [
 .j 63 (.bin .eql (.t 8) (.z 23)),
 .j 62 (.mov (.t 63))]
@[go_sem] def q47_24 : List AI := [
 .j 64 (.faddr 1 (.t 1)),
 .j 65 (.load 1 false (.t 64)),
 .j 66 (.bin .add (.t 65) (.z 3)),
 .j 67 (.mkrow 470067 1 [(.t 66)]),
 .j 2 (.mov (.t 67)),
 .j 3 (.mov (.z (-1)))]
@[go_sem] def q47_25 : List AI := [
 .j 69 (.bin .eql (.t 8) (.z 24)),
 .j 68 (.mov (.t 69))]
@[go_sem] def q47_26 : List AI := [
 .j 70 (.faddr 1 (.t 1)),
 .j 71 (.load 1 false (.t 70)),
 .j 72 (.faddr 1 (.t 1)),
 .j 73 (.load 1 false (.t 72)),
 .j 74 (.bin .add (.t 73) (.z 3)),
 .j 75 (.mkrow 470075 1 [(.t 71), (.t 74)]),
 .j 2 (.mov (.t 75)),
 .j 3 (.mov (.z (-1)))]
@[go_sem] def q47_27 : List AI := [
 .j 77 (.bin .eql (.t 8) (.z 25)),
 .j 76 (.mov (.t 77))]
@[go_sem] def q47_28 : List AI := [
 .j 78 (.faddr 1 (.t 1)),
 .j 79 (.load 1 false (.t 78)),
 .j 80 (.bin .add (.t 79) (.z 3)),
 .j 81 (.faddr 3 (.t 1)),
 .j 82 (.load 1 false (.t 81)),
 .j 83 (.call 60 [(.t 80), (.t 82)]),
 .j 84 (.ext 0 (.t 83)),
 .j 85 (.ext 1 (.t 83)),
 .j 2 (.mov (.t 84)),
 .j 3 (.mov (.t 85))]
@[go_sem] def q47_29 : List AI := [
 .j 87 (.bin .eql (.t 8) (.z 26)),
 .j 86 (.mov (.t 87))]
@[go_sem] def q47_30 : List AI := [
 .j 88 (.faddr 1 (.t 1)),
 .j 89 (.load 1 false (.t 88)),
 .j 90 (.bin .add (.t 89) (.z 2)),
 .j 91 (.mkrow 470091 1 [(.t 90)]),
 .j 2 (.mov (.t 91)),
 .j 3 (.mov (.z (-1)))]
@[go_sem] def q47_31 : List AI := [
 .j 2 (.mov (.c .nils)),
 .j 3 (.mov (.z (-1)))]
@[go_sem] def opcode_Writes_c : AC := .seq (.ops [q47_0]) (.seq (.seq (.ops [q47_1]) (.cond (.t 6) (.seq (.ops [q47_2]) (.ret)) (.skip))) (.seq (.seq (.ops [q47_3]) (.block 0 (.seq (.seq (.ops [q47_4]) (.cond (.t 9) (.skip) (.seq (.ops [q47_5]) (.cond (.t 9) (.skip) (.seq (.ops [q47_6]) (.cond (.t 9) (.skip) (.seq (.ops [q47_7]) (.cond (.t 9) (.skip) (.seq (.ops [q47_8]) (.cond (.t 9) (.skip) (.seq (.ops [q47_9]) (.cond (.t 9) (.skip) (.seq (.ops [q47_10]) (.cond (.t 9) (.skip) (.seq (.ops [q47_11]) (.cond (.t 9) (.skip) (.seq (.ops [q47_12]) (.cond (.t 9) (.skip) (.ops [q47_13]))))))))))))))))))) (.cond (.t 9) (.seq (.ops [q47_14]) (.ret)) (.seq (.ops [q47_15]) (.cond (.t 23) (.seq (.ops [q47_16]) (.ret)) (.seq (.ops [q47_17]) (.cond (.t 36) (.seq (.ops [q47_18]) (.ret)) (.seq (.ops [q47_19]) (.cond (.t 44) (.seq (.ops [q47_20]) (.ret)) (.seq (.ops [q47_21]) (.cond (.t 53) (.seq (.ops [q47_22]) (.ret)) (.seq (.ops [q47_23]) (.cond (.t 62) (.seq (.ops [q47_24]) (.ret)) (.seq (.ops [q47_25]) (.cond (.t 68) (.seq (.ops [q47_26]) (.ret)) (.seq (.ops [q47_27]) (.cond (.t 76) (.seq (.ops [q47_28]) (.ret)) (.seq (.ops [q47_29]) (.cond (.t 86) (.seq (.ops [q47_30]) (.ret)) (.skip))))))))))))))))))))) (.seq (.ops [q47_31]) (.ret))))
theorem opcode_Writes_ok : compF Tryd.prog 47 = some (92, opcode_Writes_c, [.t 2, .t 3]) := by kernel_rfl

@[go_sem] def q48_0 : List AI := [
 .j 3 (.box 480003 11 (.t 0)),
 .j 6 (.mov (.c (.bool false)))]
@[go_sem] def q48_1 : List AI := [
 .j 7 (.mov (.t 2)),
 .j 8 (.faddr 4 (.t 3)),
 .j 9 (.load 1 false (.t 8)),
 .j 10 (.bin .leq (.t 7) (.t 9)),
 .j 11 (.mov (.t 10)),
 .k 12 11 true (.mov (.t 1)),
 .k 13 11 true (.mkfn 61 [(.t 3)]),
 .k 14 11 true (.call 41 [(.t 12), (.t 13)]),
 .k 15 11 true (.un .not (.t 14)),
 .j 16 (.pick (.t 11) (.t 15) (.c (.bool false))),
 .j 6 (.mov (.t 16))]
@[go_sem] def proto_within_c : AC := .seq (.ops [q48_0]) (.seq (.ops [q48_1]) (.ret))
theorem proto_within_ok : compF Tryd.prog 48 = some (17, proto_within_c, [.t 6]) := by kernel_rfl

@[go_sem] def q49_0 : List AI := [
 .j 1 (.box 490001 5 (.t 0)),
 .j 2 (.mov (.z 0)),
 .j 3 (.mov (.c (.bool false)))]
@[go_sem] def q49_1 : List AI := [
 .j 4 (.faddr 0 (.t 1)),
 .j 5 (.load 1 false (.t 4))]
@[go_sem] def q49_2 : List AI := [
 .j 7 (.bin .eql (.t 5) (.z 14)),
 .j 6 (.mov (.t 7))]
@[go_sem] def q49_3 : List AI := [
 .j 8 (.bin .eql (.t 5) (.z 15)),
 .j 6 (.mov (.t 8))]
@[go_sem] def q49_4 : List AI := [
 .j 9 (.bin .eql (.t 5) (.z 23)),
 .j 6 (.mov (.t 9))]
@[go_sem] def q49_5 : List AI := [
 .j 10 (.bin .eql (.t 5) (.z 24)),
 .j 6 (.mov (.t 10))]
@[go_sem] def q49_6 : List AI := [
 .j 11 (.bin .eql (.t 5) (.z 26)),
 .j 6 (.mov (.t 11))]
@[go_sem] def q49_7 : List AI := [
 .j 12 (.faddr 2 (.t 1)),
 .j 13 (.load 1 false (.t 12)),
 .j 2 (.mov (.t 13)),
 .j 3 (.mov (.c (.bool true)))]
@[go_sem] def q49_8 : List AI := [
 .j 2 (.mov (.z 0)),
 .j 3 (.mov (.c (.bool false)))]
@[go_sem] def opcode_Target_c : AC := .seq (.ops [q49_0]) (.seq (.seq (.ops [q49_1]) (.block 0 (.seq (.seq (.ops [q49_2]) (.cond (.t 6) (.skip) (.seq (.ops [q49_3]) (.cond (.t 6) (.skip) (.seq (.ops [q49_4]) (.cond (.t 6) (.skip) (.seq (.ops [q49_5]) (.cond (.t 6) (.skip) (.ops [q49_6]))))))))) (.cond (.t 6) (.seq (.ops [q49_7]) (.ret)) (.skip))))) (.seq (.ops [q49_8]) (.ret)))
theorem opcode_Target_ok : compF Tryd.prog 49 = some (14, opcode_Target_c, [.t 2, .t 3]) := by kernel_rfl

@[go_sem] def q50_0 : List AI := [
 .j 2 (.box 500002 11 (.t 0)),
 .j 3 (.box 500003 5 (.t 1)),
 .j 4 (.mov (.c (.bool false)))]
@[go_sem] def q50_1 : List AI := [
 .j 8 (.load 5 true (.t 3)),
 .j 9 (.call 62 [(.t 8)]),
 .j 7 (.mov (.t 9)),
 .j 10 (.ext 0 (.t 7)),
 .j 11 (.ext 1 (.t 7)),
 .j 5 (.mov (.t 10)),
 .j 6 (.mov (.t 11))]
@[go_sem] def q50_2 : List AI := [
 .j 12 (.mov (.t 5)),
 .j 13 (.faddr 7 (.t 2)),
 .j 14 (.load 1 false (.t 13)),
 .j 15 (.len 0 (.t 14)),
 .j 16 (.bin .geq (.t 12) (.t 15)),
 .j 17 (.mov (.t 16)),
 .k 18 17 false (.mov (.t 5)),
 .k 19 17 false (.bin .geq (.t 18) (.z 0)),
 .k 20 17 false (.mov (.t 19)),
 .k 21 20 true (.mov (.t 6)),
 .k 22 17 false (.pick (.t 20) (.t 21) (.c (.bool false))),
 .k 23 17 false (.mov (.t 22)),
 .k 24 23 true (.faddr 7 (.t 2)),
 .k 25 23 true (.load 1 false (.t 24)),
 .k 26 23 true (.mov (.t 5)),
 .k 27 23 true (.iaddr 5 (.t 25) (.t 26)),
 .k 28 23 true (.faddr 0 (.t 27)),
 .k 29 23 true (.load 1 false (.t 28)),
 .k 30 23 true (.bin .neq (.t 29) (.z 3)),
 .k 31 17 false (.pick (.t 23) (.t 30) (.c (.bool false))),
 .j 32 (.pick (.t 17) (.c (.bool true)) (.t 31))]
@[go_sem] def q50_3 : List AI := [
 .j 4 (.mov (.c (.bool false)))]
@[go_sem] def q50_4 : List AI := [
 .j 33 (.faddr 0 (.t 3)),
 .j 34 (.load 1 false (.t 33))]
@[go_sem] def q50_5 : List AI := [
 .j 36 (.bin .eql (.t 34) (.z 5)),
 .j 35 (.mov (.t 36))]
@[go_sem] def q50_6 : List AI := [
 .j 37 (.faddr 2 (.t 3)),
 .j 38 (.load 1 false (.t 37)),
 .j 39 (.faddr 9 (.t 2)),
 .j 40 (.load 1 false (.t 39)),
 .j 41 (.len 0 (.t 40)),
 .j 42 (.bin .lss (.t 38) (.t 41)),
 .j 4 (.mov (.t 42))]
@[go_sem] def q50_7 : List AI := [
 .j 44 (.bin .eql (.t 34) (.z 6)),
 .j 43 (.mov (.t 44))]
@[go_sem] def q50_8 : List AI := [
 .j 45 (.faddr 1 (.t 3)),
 .j 46 (.load 1 false (.t 45)),
 .j 47 (.faddr 9 (.t 2)),
 .j 48 (.load 1 false (.t 47)),
 .j 49 (.len 0 (.t 48)),
 .j 50 (.bin .lss (.t 46) (.t 49)),
 .j 4 (.mov (.t 50))]
@[go_sem] def q50_9 : List AI := [
 .j 52 (.bin .eql (.t 34) (.z 22)),
 .j 51 (.mov (.t 52))]
@[go_sem] def q50_10 : List AI := [
 .j 53 (.faddr 2 (.t 3)),
 .j 54 (.load 1 false (.t 53)),
 .j 55 (.faddr 8 (.t 2)),
 .j 56 (.load 1 false (.t 55)),
 .j 57 (.len 0 (.t 56)),
 .j 58 (.bin .lss (.t 54) (.t 57)),
 .j 4 (.mov (.t 58))]
@[go_sem] def q50_11 : List AI := [
 .j 60 (.bin .eql (.t 34) (.z 19)),
 .j 59 (.mov (.t 60))]
@[go_sem] def q50_12 : List AI := [
 .j 61 (.faddr 3 (.t 2)),
 .j 62 (.load 1 false (.t 61)),
 .j 4 (.mov (.t 62))]
@[go_sem] def q50_13 : List AI := [
 .j 4 (.mov (.c (.bool true)))]
@[go_sem] def proto_refers_c : AC := .seq (.ops [q50_0]) (.seq (.seq (.ops [q50_1]) (.seq (.ops [q50_2]) (.cond (.t 32) (.seq (.ops [q50_3]) (.ret)) (.skip)))) (.seq (.seq (.ops [q50_4]) (.block 0 (.seq (.ops [q50_5]) (.cond (.t 35) (.seq (.ops [q50_6]) (.ret)) (.seq (.ops [q50_7]) (.cond (.t 43) (.seq (.ops [q50_8]) (.ret)) (.seq (.ops [q50_9]) (.cond (.t 51) (.seq (.ops [q50_10]) (.ret)) (.seq (.ops [q50_11]) (.cond (.t 59) (.seq (.ops [q50_12]) (.ret)) (.skip))))))))))) (.seq (.ops [q50_13]) (.ret))))
theorem proto_refers_ok : compF Tryd.prog 50 = some (63, proto_refers_c, [.t 4]) := by kernel_rfl

@[go_sem] def q51_0 : List AI := [
 .j 4 (.mov (.z 0))]
@[go_sem] def q51_1 : List AI := [
 .j 6 (.mov (.t 0)),
 .j 7 (.len 0 (.t 6)),
 .j 8 (.mov (.z 0))]
@[go_sem] def q51_2 : List AI := [
 .j 9 (.bin .lss (.t 8) (.t 7))]
@[go_sem] def q51_3 : List AI := [
 .j 10 (.mov (.t 8)),
 .j 5 (.mov (.t 10))]
@[go_sem] def q51_4 : List AI := [
 .j 11 (.mov (.t 1)),
 .j 12 (.mov (.t 0)),
 .j 13 (.mov (.t 5)),
 .j 14 (.iaddr 3 (.t 12) (.t 13)),
 .j 15 (.load 3 true (.t 14)),
 .j 16 (.callv (.t 11) [(.t 15)])]
@[go_sem] def q51_5 : List AI := [
 .j 17 (.mov (.t 5)),
 .j 4 (.mov (.t 17))]
@[go_sem] def q51_6 : List AI := [
 .j 18 (.bin .add (.t 8) (.z 1)),
 .j 8 (.mov (.t 18))]
@[go_sem] def slices_IndexFunc_api_Up_api_Up_l0' : AC := .seq (.ops [q51_2]) (.seq (.cond (.t 9) (.skip) (.exit 0)) (.seq (.block 1 (.seq (.ops [q51_3]) (.seq (.ops [q51_4]) (.cond (.t 16) (.seq (.ops [q51_5]) (.ret)) (.skip))))) (.ops [q51_6])))
def slices_IndexFunc_api_Up_api_Up_l0 : AC := slices_IndexFunc_api_Up_api_Up_l0'
theorem slices_IndexFunc_api_Up_api_Up_l0_eq : slices_IndexFunc_api_Up_api_Up_l0 = slices_IndexFunc_api_Up_api_Up_l0' := rfl
@[go_sem] def q51_7 : List AI := [
 .j 4 (.mov (.z (-1)))]
@[go_sem] def slices_IndexFunc_api_Up_api_Up_c : AC := .seq (.ops [q51_0]) (.seq (.seq (.ops [q51_1]) (.block 0 (.loop slices_IndexFunc_api_Up_api_Up_l0))) (.seq (.ops [q51_7]) (.ret)))
theorem slices_IndexFunc_api_Up_api_Up_ok : compF Tryd.prog 51 = some (19, slices_IndexFunc_api_Up_api_Up_c, [.t 4]) := by kernel_rfl

@[go_sem] def q52_0 : List AI := [
 .j 4 (.mov (.z 0))]
@[go_sem] def q52_1 : List AI := [
 .j 6 (.mov (.t 0)),
 .j 7 (.len 0 (.t 6)),
 .j 8 (.mov (.z 0))]
@[go_sem] def q52_2 : List AI := [
 .j 9 (.bin .lss (.t 8) (.t 7))]
@[go_sem] def q52_3 : List AI := [
 .j 10 (.mov (.t 8)),
 .j 5 (.mov (.t 10))]
@[go_sem] def q52_4 : List AI := [
 .j 11 (.mov (.t 1)),
 .j 12 (.mov (.t 0)),
 .j 13 (.mov (.t 5)),
 .j 14 (.iaddr 5 (.t 12) (.t 13)),
 .j 15 (.load 5 true (.t 14)),
 .j 16 (.callv (.t 11) [(.t 15)])]
@[go_sem] def q52_5 : List AI := [
 .j 17 (.mov (.t 5)),
 .j 4 (.mov (.t 17))]
@[go_sem] def q52_6 : List AI := [
 .j 18 (.bin .add (.t 8) (.z 1)),
 .j 8 (.mov (.t 18))]
@[go_sem] def slices_IndexFunc_api_Var_api_Var_l0' : AC := .seq (.ops [q52_2]) (.seq (.cond (.t 9) (.skip) (.exit 0)) (.seq (.block 1 (.seq (.ops [q52_3]) (.seq (.ops [q52_4]) (.cond (.t 16) (.seq (.ops [q52_5]) (.ret)) (.skip))))) (.ops [q52_6])))
def slices_IndexFunc_api_Var_api_Var_l0 : AC := slices_IndexFunc_api_Var_api_Var_l0'
theorem slices_IndexFunc_api_Var_api_Var_l0_eq : slices_IndexFunc_api_Var_api_Var_l0 = slices_IndexFunc_api_Var_api_Var_l0' := rfl
@[go_sem] def q52_7 : List AI := [
 .j 4 (.mov (.z (-1)))]
@[go_sem] def slices_IndexFunc_api_Var_api_Var_c : AC := .seq (.ops [q52_0]) (.seq (.seq (.ops [q52_1]) (.block 0 (.loop slices_IndexFunc_api_Var_api_Var_l0))) (.seq (.ops [q52_7]) (.ret)))
theorem slices_IndexFunc_api_Var_api_Var_ok : compF Tryd.prog 52 = some (19, slices_IndexFunc_api_Var_api_Var_c, [.t 4]) := by kernel_rfl

@[go_sem] def q53_0 : List AI := [
 .j 4 (.mov (.z 0))]
@[go_sem] def q53_1 : List AI := [
 .j 6 (.mov (.t 0)),
 .j 7 (.len 0 (.t 6)),
 .j 8 (.mov (.z 0))]
@[go_sem] def q53_2 : List AI := [
 .j 9 (.bin .lss (.t 8) (.t 7))]
@[go_sem] def q53_3 : List AI := [
 .j 10 (.mov (.t 8)),
 .j 5 (.mov (.t 10))]
@[go_sem] def q53_4 : List AI := [
 .j 11 (.mov (.t 1)),
 .j 12 (.mov (.t 0)),
 .j 13 (.mov (.t 5)),
 .j 14 (.iaddr 1 (.t 12) (.t 13)),
 .j 15 (.load 1 false (.t 14)),
 .j 16 (.callv (.t 11) [(.t 15)])]
@[go_sem] def q53_5 : List AI := [
 .j 17 (.mov (.t 5)),
 .j 4 (.mov (.t 17))]
@[go_sem] def q53_6 : List AI := [
 .j 18 (.bin .add (.t 8) (.z 1)),
 .j 8 (.mov (.t 18))]
@[go_sem] def slices_IndexFunc_int_int_l0' : AC := .seq (.ops [q53_2]) (.seq (.cond (.t 9) (.skip) (.exit 0)) (.seq (.block 1 (.seq (.ops [q53_3]) (.seq (.ops [q53_4]) (.cond (.t 16) (.seq (.ops [q53_5]) (.ret)) (.skip))))) (.ops [q53_6])))
def slices_IndexFunc_int_int_l0 : AC := slices_IndexFunc_int_int_l0'
theorem slices_IndexFunc_int_int_l0_eq : slices_IndexFunc_int_int_l0 = slices_IndexFunc_int_int_l0' := rfl
@[go_sem] def q53_7 : List AI := [
 .j 4 (.mov (.z (-1)))]
@[go_sem] def slices_IndexFunc_int_int_c : AC := .seq (.ops [q53_0]) (.seq (.seq (.ops [q53_1]) (.block 0 (.loop slices_IndexFunc_int_int_l0))) (.seq (.ops [q53_7]) (.ret)))
theorem slices_IndexFunc_int_int_ok : compF Tryd.prog 53 = some (19, slices_IndexFunc_int_int_c, [.t 4]) := by kernel_rfl

@[go_sem] def q54_0 : List AI := [
 .j 1 (.box 540001 2 (.t 0)),
 .j 2 (.mov (.c (.bool false)))]
@[go_sem] def q54_1 : List AI := [
 .j 3 (.faddr 1 (.t 1)),
 .j 4 (.load 1 false (.t 3)),
 .j 5 (.bin .geq (.t 4) (.z 1)),
 .j 6 (.mov (.t 5)),
 .k 7 6 true (.faddr 1 (.t 1)),
 .k 8 6 true (.load 1 false (.t 7)),
 .k 9 6 true (.bin .leq (.t 8) (.z 2147483647)),
 .j 10 (.pick (.t 6) (.t 9) (.c (.bool false))),
 .j 11 (.mov (.t 10)),
 .k 12 11 true (.faddr 0 (.t 1)),
 .k 13 11 true (.load 1 false (.t 12)),
 .k 14 11 true (.bin .geq (.t 13) (.z (-2147483647))),
 .j 15 (.pick (.t 11) (.t 14) (.c (.bool false))),
 .j 16 (.mov (.t 15)),
 .k 17 16 true (.faddr 0 (.t 1)),
 .k 18 16 true (.load 1 false (.t 17)),
 .k 19 16 true (.bin .leq (.t 18) (.z 2147483647)),
 .j 20 (.pick (.t 16) (.t 19) (.c (.bool false))),
 .j 21 (.mov (.t 20)),
 .k 22 21 true (.faddr 0 (.t 1)),
 .k 23 21 true (.load 1 false (.t 22)),
 .k 24 21 true (.faddr 0 (.t 1)),
 .k 25 21 true (.load 1 false (.t 24)),
 .k 26 21 true (.un .neg (.t 25)),
 .k 27 21 true (.mm true [(.t 23), (.t 26)]),
 .k 28 21 true (.faddr 1 (.t 1)),
 .k 29 21 true (.load 1 false (.t 28)),
 .k 30 21 true (.call 63 [(.t 27), (.t 29)]),
 .k 31 21 true (.bin .eql (.t 30) (.z 1)),
 .j 32 (.pick (.t 21) (.t 31) (.c (.bool false))),
 .j 2 (.mov (.t 32))]
@[go_sem] def rational_Valid_c : AC := .seq (.ops [q54_0]) (.seq (.ops [q54_1]) (.ret))
theorem rational_Valid_ok : compF Tryd.prog 54 = some (33, rational_Valid_c, [.t 2]) := by kernel_rfl

@[go_sem] def q55_0 : List AI := [
 .j 2 (.box 550002 6 (.c (.agg [(.str []), (.int .i64 0), (.int .i64 0), (.int .i64 0), (.int .i64 0), (.int .i64 0)]))),
 .j 3 (.mov (.c (.bool false)))]
@[go_sem] def q55_1 : List AI := [
 .j 6 (.call 64 [(.c (.str [109, 111, 118, 101, 32, 99, 111, 110, 115, 116, 32, 110, 105, 108, 32, 98, 111, 111, 108, 32, 117, 112, 103, 101, 116, 32, 117, 112, 115, 101, 116, 32, 103, 108, 111, 98, 97, 108, 32, 115, 101, 116, 103, 108, 111, 98, 32, 103, 101, 116, 32, 115, 101, 116, 32, 115, 101, 108, 102, 32, 117, 110, 97, 114, 121, 32, 98, 105, 110, 97, 114, 121, 32, 106, 117, 109, 112, 32, 116, 101, 115, 116, 32, 99, 97, 108, 108, 32, 116, 97, 105, 108, 32, 114, 101, 116, 117, 114, 110, 32, 118, 97, 114, 97, 114, 103, 32, 116, 97, 98, 108, 101, 32, 97, 112, 112, 101, 110, 100, 32, 99, 108, 111, 115, 117, 114, 101, 32, 112, 114, 101, 112, 32, 108, 111, 111, 112, 32, 105, 116, 101, 114, 32, 110, 101, 120, 116, 32, 99, 108, 111, 115, 101, 32, 109, 97, 114, 107, 32, 115, 116, 97, 116]))]),
 .j 4 (.mov (.t 6))]
@[go_sem] def q55_2 : List AI := [
 .j 7 (.mov (.t 0)),
 .j 8 (.bin .lss (.t 7) (.z 1)),
 .j 9 (.mov (.t 8)),
 .k 10 9 false (.mov (.t 0)),
 .k 11 9 false (.mov (.t 4)),
 .k 12 9 false (.len 0 (.t 11)),
 .k 13 9 false (.bin .gtr (.t 10) (.t 12)),
 .j 14 (.pick (.t 9) (.c (.bool true)) (.t 13))]
@[go_sem] def q55_3 : List AI := [
 .j 15 (.build [(.str []), (.int .i64 0), (.int .i64 0), (.int .i64 0), (.int .i64 0), (.int .i64 0)] []),
 .e (.store 6 (.t 2) (.t 15)),
 .j 3 (.mov (.c (.bool false)))]
@[go_sem] def q55_4 : List AI := [
 .j 16 (.mov (.t 0)),
 .j 17 (.call 65 [(.t 16)]),
 .j 5 (.box 550005 6 (.c (.agg [(.str []), (.int .i64 0), (.int .i64 0), (.int .i64 0), (.int .i64 0), (.int .i64 0)]))),
 .e (.store 6 (.t 5) (.t 17))]
@[go_sem] def q55_5 : List AI := [
 .j 18 (.mov (.t 4)),
 .j 19 (.mov (.t 0)),
 .j 20 (.bin .sub (.t 19) (.z 1)),
 .j 21 (.iaddr 1 (.t 18) (.t 20)),
 .j 22 (.load 1 false (.t 21)),
 .j 23 (.faddr 0 (.t 5)),
 .e (.store 1 (.t 23) (.t 22))]
@[go_sem] def q55_6 : List AI := [
 .j 24 (.load 6 true (.t 5)),
 .e (.store 6 (.t 2) (.t 24)),
 .j 3 (.mov (.c (.bool true)))]
@[go_sem] def opcode_of_c : AC := .seq (.ops [q55_0]) (.seq (.ops [q55_1]) (.seq (.seq (.ops [q55_2]) (.cond (.t 14) (.seq (.ops [q55_3]) (.ret)) (.skip))) (.seq (.ops [q55_4]) (.seq (.ops [q55_5]) (.seq (.ops [q55_6]) (.ret))))))
theorem opcode_of_ok : compF Tryd.prog 55 = some (25, opcode_of_c, [.c 2 6 true, .t 3]) := by kernel_rfl

@[go_sem] def q56_0 : List AI := [
 .j 2 (.box 560002 6 (.t 0)),
 .j 3 (.box 560003 5 (.t 1)),
 .j 4 (.box 560004 4 (.c (.agg [(.int .i64 0), (.int .i64 0), (.int .i64 0), (.int .i64 0)]))),
 .j 5 (.box 560005 4 (.c (.agg [(.int .i64 0), (.int .i64 0), (.int .i64 0), (.int .i64 0)])))]
@[go_sem] def q56_1_0 : List AI := [
 .j 6 (.faddr 1 (.t 2)),
 .j 7 (.load 1 false (.t 6)),
 .j 8 (.faddr 2 (.t 2)),
 .j 9 (.load 1 false (.t 8)),
 .j 10 (.faddr 3 (.t 2)),
 .j 11 (.load 1 false (.t 10)),
 .j 12 (.faddr 4 (.t 2)),
 .j 13 (.load 1 false (.t 12)),
 .j 14 (.build [(.int .i64 0), (.int .i64 0), (.int .i64 0), (.int .i64 0)] [(0, 1, (.t 7)), (1, 1, (.t 9)), (2, 1, (.t 11)), (3, 1, (.t 13))]),
 .j 15 (.faddr 1 (.t 3)),
 .j 16 (.load 1 false (.t 15)),
 .j 17 (.faddr 2 (.t 3)),
 .j 18 (.load 1 false (.t 17)),
 .j 19 (.faddr 3 (.t 3)),
 .j 20 (.load 1 false (.t 19)),
 .j 21 (.faddr 4 (.t 3)),
 .j 22 (.load 1 false (.t 21)),
 .j 23 (.build [(.int .i64 0), (.int .i64 0), (.int .i64 0), (.int .i64 0)] [(0, 1, (.t 16)), (1, 1, (.t 18)), (2, 1, (.t 20)), (3, 1, (.t 22))]),
 .e (.store 4 (.t 4) (.t 14)),
 .e (.store 4 (.t 5) (.t 23))]
@[go_sem] def q56_1_1 : List AI := [
 .j 6 (.faddr 1 (.t 2)),
 .j 7 (.load 1 false (.t 6)),
 .j 8 (.faddr 2 (.t 2)),
 .j 9 (.load 1 false (.t 8)),
 .j 10 (.faddr 3 (.t 2)),
 .j 11 (.load 1 false (.t 10)),
 .j 12 (.faddr 4 (.t 2)),
 .j 13 (.load 1 false (.t 12)),
 .j 14 (.build [(.int .i64 0), (.int .i64 0), (.int .i64 0), (.int .i64 0)] [(0, 1, (.t 7)), (1, 1, (.t 9)), (2, 1, (.t 11)), (3, 1, (.t 13))]),
 .j 15 (.faddr 1 (.t 3)),
 .j 16 (.load 1 false (.t 15)),
 .j 17 (.faddr 2 (.t 3)),
 .j 18 (.load 1 false (.t 17)),
 .j 19 (.faddr 3 (.t 3)),
 .j 20 (.load 1 false (.t 19)),
 .j 21 (.faddr 4 (.t 3)),
 .e (.store 4 (.t 4) (.t 14)),
 .j 22 (.load 1 false (.t 21)),
 .j 23 (.build [(.int .i64 0), (.int .i64 0), (.int .i64 0), (.int .i64 0)] [(0, 1, (.t 16)), (1, 1, (.t 18)), (2, 1, (.t 20)), (3, 1, (.t 22))]),
 .e (.store 4 (.t 5) (.t 23))]
@[go_sem] def q56_1_2 : List AI := [
 .j 6 (.faddr 1 (.t 2)),
 .j 7 (.load 1 false (.t 6)),
 .j 8 (.faddr 2 (.t 2)),
 .j 9 (.load 1 false (.t 8)),
 .j 10 (.faddr 3 (.t 2)),
 .j 11 (.load 1 false (.t 10)),
 .j 12 (.faddr 4 (.t 2)),
 .j 13 (.load 1 false (.t 12)),
 .j 14 (.build [(.int .i64 0), (.int .i64 0), (.int .i64 0), (.int .i64 0)] [(0, 1, (.t 7)), (1, 1, (.t 9)), (2, 1, (.t 11)), (3, 1, (.t 13))]),
 .j 15 (.faddr 1 (.t 3)),
 .j 16 (.load 1 false (.t 15)),
 .j 17 (.faddr 2 (.t 3)),
 .j 18 (.load 1 false (.t 17)),
 .j 19 (.faddr 3 (.t 3)),
 .j 21 (.faddr 4 (.t 3)),
 .j 22 (.load 1 false (.t 21)),
 .e (.store 4 (.t 4) (.t 14)),
 .j 20 (.load 1 false (.t 19)),
 .j 23 (.build [(.int .i64 0), (.int .i64 0), (.int .i64 0), (.int .i64 0)] [(0, 1, (.t 16)), (1, 1, (.t 18)), (2, 1, (.t 20)), (3, 1, (.t 22))]),
 .e (.store 4 (.t 5) (.t 23))]
@[go_sem] def q56_1_3 : List AI := [
 .j 6 (.faddr 1 (.t 2)),
 .j 7 (.load 1 false (.t 6)),
 .j 8 (.faddr 2 (.t 2)),
 .j 9 (.load 1 false (.t 8)),
 .j 10 (.faddr 3 (.t 2)),
 .j 11 (.load 1 false (.t 10)),
 .j 12 (.faddr 4 (.t 2)),
 .j 13 (.load 1 false (.t 12)),
 .j 14 (.build [(.int .i64 0), (.int .i64 0), (.int .i64 0), (.int .i64 0)] [(0, 1, (.t 7)), (1, 1, (.t 9)), (2, 1, (.t 11)), (3, 1, (.t 13))]),
 .j 15 (.faddr 1 (.t 3)),
 .j 16 (.load 1 false (.t 15)),
 .j 17 (.faddr 2 (.t 3)),
 .j 18 (.load 1 false (.t 17)),
 .j 19 (.faddr 3 (.t 3)),
 .j 21 (.faddr 4 (.t 3)),
 .e (.store 4 (.t 4) (.t 14)),
 .j 20 (.load 1 false (.t 19)),
 .j 22 (.load 1 false (.t 21)),
 .j 23 (.build [(.int .i64 0), (.int .i64 0), (.int .i64 0), (.int .i64 0)] [(0, 1, (.t 16)), (1, 1, (.t 18)), (2, 1, (.t 20)), (3, 1, (.t 22))]),
 .e (.store 4 (.t 5) (.t 23))]
@[go_sem] def q56_1_4 : List AI := [
 .j 6 (.faddr 1 (.t 2)),
 .j 7 (.load 1 false (.t 6)),
 .j 8 (.faddr 2 (.t 2)),
 .j 9 (.load 1 false (.t 8)),
 .j 10 (.faddr 3 (.t 2)),
 .j 11 (.load 1 false (.t 10)),
 .j 12 (.faddr 4 (.t 2)),
 .j 13 (.load 1 false (.t 12)),
 .j 14 (.build [(.int .i64 0), (.int .i64 0), (.int .i64 0), (.int .i64 0)] [(0, 1, (.t 7)), (1, 1, (.t 9)), (2, 1, (.t 11)), (3, 1, (.t 13))]),
 .j 15 (.faddr 1 (.t 3)),
 .j 16 (.load 1 false (.t 15)),
 .j 17 (.faddr 2 (.t 3)),
 .j 19 (.faddr 3 (.t 3)),
 .j 20 (.load 1 false (.t 19)),
 .j 21 (.faddr 4 (.t 3)),
 .j 22 (.load 1 false (.t 21)),
 .e (.store 4 (.t 4) (.t 14)),
 .j 18 (.load 1 false (.t 17)),
 .j 23 (.build [(.int .i64 0), (.int .i64 0), (.int .i64 0), (.int .i64 0)] [(0, 1, (.t 16)), (1, 1, (.t 18)), (2, 1, (.t 20)), (3, 1, (.t 22))]),
 .e (.store 4 (.t 5) (.t 23))]
@[go_sem] def q56_1_5 : List AI := [
 .j 6 (.faddr 1 (.t 2)),
 .j 7 (.load 1 false (.t 6)),
 .j 8 (.faddr 2 (.t 2)),
 .j 9 (.load 1 false (.t 8)),
 .j 10 (.faddr 3 (.t 2)),
 .j 11 (.load 1 false (.t 10)),
 .j 12 (.faddr 4 (.t 2)),
 .j 13 (.load 1 false (.t 12)),
 .j 14 (.build [(.int .i64 0), (.int .i64 0), (.int .i64 0), (.int .i64 0)] [(0, 1, (.t 7)), (1, 1, (.t 9)), (2, 1, (.t 11)), (3, 1, (.t 13))]),
 .j 15 (.faddr 1 (.t 3)),
 .j 16 (.load 1 false (.t 15)),
 .j 17 (.faddr 2 (.t 3)),
 .j 19 (.faddr 3 (.t 3)),
 .j 20 (.load 1 false (.t 19)),
 .j 21 (.faddr 4 (.t 3)),
 .e (.store 4 (.t 4) (.t 14)),
 .j 18 (.load 1 false (.t 17)),
 .j 22 (.load 1 false (.t 21)),
 .j 23 (.build [(.int .i64 0), (.int .i64 0), (.int .i64 0), (.int .i64 0)] [(0, 1, (.t 16)), (1, 1, (.t 18)), (2, 1, (.t 20)), (3, 1, (.t 22))]),
 .e (.store 4 (.t 5) (.t 23))]
@[go_sem] def q56_1_6 : List AI := [
 .j 6 (.faddr 1 (.t 2)),
 .j 7 (.load 1 false (.t 6)),
 .j 8 (.faddr 2 (.t 2)),
 .j 9 (.load 1 false (.t 8)),
 .j 10 (.faddr 3 (.t 2)),
 .j 11 (.load 1 false (.t 10)),
 .j 12 (.faddr 4 (.t 2)),
 .j 13 (.load 1 false (.t 12)),
 .j 14 (.build [(.int .i64 0), (.int .i64 0), (.int .i64 0), (.int .i64 0)] [(0, 1, (.t 7)), (1, 1, (.t 9)), (2, 1, (.t 11)), (3, 1, (.t 13))]),
 .j 15 (.faddr 1 (.t 3)),
 .j 16 (.load 1 false (.t 15)),
 .j 17 (.faddr 2 (.t 3)),
 .j 19 (.faddr 3 (.t 3)),
 .j 21 (.faddr 4 (.t 3)),
 .j 22 (.load 1 false (.t 21)),
 .e (.store 4 (.t 4) (.t 14)),
 .j 18 (.load 1 false (.t 17)),
 .j 20 (.load 1 false (.t 19)),
 .j 23 (.build [(.int .i64 0), (.int .i64 0), (.int .i64 0), (.int .i64 0)] [(0, 1, (.t 16)), (1, 1, (.t 18)), (2, 1, (.t 20)), (3, 1, (.t 22))]),
 .e (.store 4 (.t 5) (.t 23))]
@[go_sem] def q56_1_7 : List AI := [
 .j 6 (.faddr 1 (.t 2)),
 .j 7 (.load 1 false (.t 6)),
 .j 8 (.faddr 2 (.t 2)),
 .j 9 (.load 1 false (.t 8)),
 .j 10 (.faddr 3 (.t 2)),
 .j 11 (.load 1 false (.t 10)),
 .j 12 (.faddr 4 (.t 2)),
 .j 13 (.load 1 false (.t 12)),
 .j 14 (.build [(.int .i64 0), (.int .i64 0), (.int .i64 0), (.int .i64 0)] [(0, 1, (.t 7)), (1, 1, (.t 9)), (2, 1, (.t 11)), (3, 1, (.t 13))]),
 .j 15 (.faddr 1 (.t 3)),
 .j 16 (.load 1 false (.t 15)),
 .j 17 (.faddr 2 (.t 3)),
 .j 19 (.faddr 3 (.t 3)),
 .j 21 (.faddr 4 (.t 3)),
 .e (.store 4 (.t 4) (.t 14)),
 .j 18 (.load 1 false (.t 17)),
 .j 20 (.load 1 false (.t 19)),
 .j 22 (.load 1 false (.t 21)),
 .j 23 (.build [(.int .i64 0), (.int .i64 0), (.int .i64 0), (.int .i64 0)] [(0, 1, (.t 16)), (1, 1, (.t 18)), (2, 1, (.t 20)), (3, 1, (.t 22))]),
 .e (.store 4 (.t 5) (.t 23))]
@[go_sem] def q56_1_8 : List AI := [
 .j 6 (.faddr 1 (.t 2)),
 .j 7 (.load 1 false (.t 6)),
 .j 8 (.faddr 2 (.t 2)),
 .j 9 (.load 1 false (.t 8)),
 .j 10 (.faddr 3 (.t 2)),
 .j 11 (.load 1 false (.t 10)),
 .j 12 (.faddr 4 (.t 2)),
 .j 13 (.load 1 false (.t 12)),
 .j 14 (.build [(.int .i64 0), (.int .i64 0), (.int .i64 0), (.int .i64 0)] [(0, 1, (.t 7)), (1, 1, (.t 9)), (2, 1, (.t 11)), (3, 1, (.t 13))]),
 .j 15 (.faddr 1 (.t 3)),
 .j 17 (.faddr 2 (.t 3)),
 .j 18 (.load 1 false (.t 17)),
 .j 19 (.faddr 3 (.t 3)),
 .j 20 (.load 1 false (.t 19)),
 .j 21 (.faddr 4 (.t 3)),
 .j 22 (.load 1 false (.t 21)),
 .e (.store 4 (.t 4) (.t 14)),
 .j 16 (.load 1 false (.t 15)),
 .j 23 (.build [(.int .i64 0), (.int .i64 0), (.int .i64 0), (.int .i64 0)] [(0, 1, (.t 16)), (1, 1, (.t 18)), (2, 1, (.t 20)), (3, 1, (.t 22))]),
 .e (.store 4 (.t 5) (.t 23))]
@[go_sem] def q56_1_9 : List AI := [
 .j 6 (.faddr 1 (.t 2)),
 .j 7 (.load 1 false (.t 6)),
 .j 8 (.faddr 2 (.t 2)),
 .j 9 (.load 1 false (.t 8)),
 .j 10 (.faddr 3 (.t 2)),
 .j 11 (.load 1 false (.t 10)),
 .j 12 (.faddr 4 (.t 2)),
 .j 13 (.load 1 false (.t 12)),
 .j 14 (.build [(.int .i64 0), (.int .i64 0), (.int .i64 0), (.int .i64 0)] [(0, 1, (.t 7)), (1, 1, (.t 9)), (2, 1, (.t 11)), (3, 1, (.t 13))]),
 .j 15 (.faddr 1 (.t 3)),
 .j 17 (.faddr 2 (.t 3)),
 .j 18 (.load 1 false (.t 17)),
 .j 19 (.faddr 3 (.t 3)),
 .j 20 (.load 1 false (.t 19)),
 .j 21 (.faddr 4 (.t 3)),
 .e (.store 4 (.t 4) (.t 14)),
 .j 16 (.load 1 false (.t 15)),
 .j 22 (.load 1 false (.t 21)),
 .j 23 (.build [(.int .i64 0), (.int .i64 0), (.int .i64 0), (.int .i64 0)] [(0, 1, (.t 16)), (1, 1, (.t 18)), (2, 1, (.t 20)), (3, 1, (.t 22))]),
 .e (.store 4 (.t 5) (.t 23))]
@[go_sem] def q56_1_10 : List AI := [
 .j 6 (.faddr 1 (.t 2)),
 .j 7 (.load 1 false (.t 6)),
 .j 8 (.faddr 2 (.t 2)),
 .j 9 (.load 1 false (.t 8)),
 .j 10 (.faddr 3 (.t 2)),
 .j 11 (.load 1 false (.t 10)),
 .j 12 (.faddr 4 (.t 2)),
 .j 13 (.load 1 false (.t 12)),
 .j 14 (.build [(.int .i64 0), (.int .i64 0), (.int .i64 0), (.int .i64 0)] [(0, 1, (.t 7)), (1, 1, (.t 9)), (2, 1, (.t 11)), (3, 1, (.t 13))]),
 .j 15 (.faddr 1 (.t 3)),
 .j 17 (.faddr 2 (.t 3)),
 .j 18 (.load 1 false (.t 17)),
 .j 19 (.faddr 3 (.t 3)),
 .j 21 (.faddr 4 (.t 3)),
 .j 22 (.load 1 false (.t 21)),
 .e (.store 4 (.t 4) (.t 14)),
 .j 16 (.load 1 false (.t 15)),
 .j 20 (.load 1 false (.t 19)),
 .j 23 (.build [(.int .i64 0), (.int .i64 0), (.int .i64 0), (.int .i64 0)] [(0, 1, (.t 16)), (1, 1, (.t 18)), (2, 1, (.t 20)), (3, 1, (.t 22))]),
 .e (.store 4 (.t 5) (.t 23))]
@[go_sem] def q56_1_11 : List AI := [
 .j 6 (.faddr 1 (.t 2)),
 .j 7 (.load 1 false (.t 6)),
 .j 8 (.faddr 2 (.t 2)),
 .j 9 (.load 1 false (.t 8)),
 .j 10 (.faddr 3 (.t 2)),
 .j 11 (.load 1 false (.t 10)),
 .j 12 (.faddr 4 (.t 2)),
 .j 13 (.load 1 false (.t 12)),
 .j 14 (.build [(.int .i64 0), (.int .i64 0), (.int .i64 0), (.int .i64 0)] [(0, 1, (.t 7)), (1, 1, (.t 9)), (2, 1, (.t 11)), (3, 1, (.t 13))]),
 .j 15 (.faddr 1 (.t 3)),
 .j 17 (.faddr 2 (.t 3)),
 .j 18 (.load 1 false (.t 17)),
 .j 19 (.faddr 3 (.t 3)),
 .j 21 (.faddr 4 (.t 3)),
 .e (.store 4 (.t 4) (.t 14)),
 .j 16 (.load 1 false (.t 15)),
 .j 20 (.load 1 false (.t 19)),
 .j 22 (.load 1 false (.t 21)),
 .j 23 (.build [(.int .i64 0), (.int .i64 0), (.int .i64 0), (.int .i64 0)] [(0, 1, (.t 16)), (1, 1, (.t 18)), (2, 1, (.t 20)), (3, 1, (.t 22))]),
 .e (.store 4 (.t 5) (.t 23))]
@[go_sem] def q56_1_12 : List AI := [
 .j 6 (.faddr 1 (.t 2)),
 .j 7 (.load 1 false (.t 6)),
 .j 8 (.faddr 2 (.t 2)),
 .j 9 (.load 1 false (.t 8)),
 .j 10 (.faddr 3 (.t 2)),
 .j 11 (.load 1 false (.t 10)),
 .j 12 (.faddr 4 (.t 2)),
 .j 13 (.load 1 false (.t 12)),
 .j 14 (.build [(.int .i64 0), (.int .i64 0), (.int .i64 0), (.int .i64 0)] [(0, 1, (.t 7)), (1, 1, (.t 9)), (2, 1, (.t 11)), (3, 1, (.t 13))]),
 .j 15 (.faddr 1 (.t 3)),
 .j 17 (.faddr 2 (.t 3)),
 .j 19 (.faddr 3 (.t 3)),
 .j 20 (.load 1 false (.t 19)),
 .j 21 (.faddr 4 (.t 3)),
 .j 22 (.load 1 false (.t 21)),
 .e (.store 4 (.t 4) (.t 14)),
 .j 16 (.load 1 false (.t 15)),
 .j 18 (.load 1 false (.t 17)),
 .j 23 (.build [(.int .i64 0), (.int .i64 0), (.int .i64 0), (.int .i64 0)] [(0, 1, (.t 16)), (1, 1, (.t 18)), (2, 1, (.t 20)), (3, 1, (.t 22))]),
 .e (.store 4 (.t 5) (.t 23))]
@[go_sem] def q56_1_13 : List AI := [
 .j 6 (.faddr 1 (.t 2)),
 .j 7 (.load 1 false (.t 6)),
 .j 8 (.faddr 2 (.t 2)),
 .j 9 (.load 1 false (.t 8)),
 .j 10 (.faddr 3 (.t 2)),
 .j 11 (.load 1 false (.t 10)),
 .j 12 (.faddr 4 (.t 2)),
 .j 13 (.load 1 false (.t 12)),
 .j 14 (.build [(.int .i64 0), (.int .i64 0), (.int .i64 0), (.int .i64 0)] [(0, 1, (.t 7)), (1, 1, (.t 9)), (2, 1, (.t 11)), (3, 1, (.t 13))]),
 .j 15 (.faddr 1 (.t 3)),
 .j 17 (.faddr 2 (.t 3)),
 .j 19 (.faddr 3 (.t 3)),
 .j 20 (.load 1 false (.t 19)),
 .j 21 (.faddr 4 (.t 3)),
 .e (.store 4 (.t 4) (.t 14)),
 .j 16 (.load 1 false (.t 15)),
 .j 18 (.load 1 false (.t 17)),
 .j 22 (.load 1 false (.t 21)),
 .j 23 (.build [(.int .i64 0), (.int .i64 0), (.int .i64 0), (.int .i64 0)] [(0, 1, (.t 16)), (1, 1, (.t 18)), (2, 1, (.t 20)), (3, 1, (.t 22))]),
 .e (.store 4 (.t 5) (.t 23))]
@[go_sem] def q56_1_14 : List AI := [
 .j 6 (.faddr 1 (.t 2)),
 .j 7 (.load 1 false (.t 6)),
 .j 8 (.faddr 2 (.t 2)),
 .j 9 (.load 1 false (.t 8)),
 .j 10 (.faddr 3 (.t 2)),
 .j 11 (.load 1 false (.t 10)),
 .j 12 (.faddr 4 (.t 2)),
 .j 13 (.load 1 false (.t 12)),
 .j 14 (.build [(.int .i64 0), (.int .i64 0), (.int .i64 0), (.int .i64 0)] [(0, 1, (.t 7)), (1, 1, (.t 9)), (2, 1, (.t 11)), (3, 1, (.t 13))]),
 .j 15 (.faddr 1 (.t 3)),
 .j 17 (.faddr 2 (.t 3)),
 .j 19 (.faddr 3 (.t 3)),
 .j 21 (.faddr 4 (.t 3)),
 .j 22 (.load 1 false (.t 21)),
 .e (.store 4 (.t 4) (.t 14)),
 .j 16 (.load 1 false (.t 15)),
 .j 18 (.load 1 false (.t 17)),
 .j 20 (.load 1 false (.t 19)),
 .j 23 (.build [(.int .i64 0), (.int .i64 0), (.int .i64 0), (.int .i64 0)] [(0, 1, (.t 16)), (1, 1, (.t 18)), (2, 1, (.t 20)), (3, 1, (.t 22))]),
 .e (.store 4 (.t 5) (.t 23))]
@[go_sem] def q56_1_15 : List AI := [
 .j 6 (.faddr 1 (.t 2)),
 .j 7 (.load 1 false (.t 6)),
 .j 8 (.faddr 2 (.t 2)),
 .j 9 (.load 1 false (.t 8)),
 .j 10 (.faddr 3 (.t 2)),
 .j 11 (.load 1 false (.t 10)),
 .j 12 (.faddr 4 (.t 2)),
 .j 13 (.load 1 false (.t 12)),
 .j 14 (.build [(.int .i64 0), (.int .i64 0), (.int .i64 0), (.int .i64 0)] [(0, 1, (.t 7)), (1, 1, (.t 9)), (2, 1, (.t 11)), (3, 1, (.t 13))]),
 .j 15 (.faddr 1 (.t 3)),
 .j 17 (.faddr 2 (.t 3)),
 .j 19 (.faddr 3 (.t 3)),
 .j 21 (.faddr 4 (.t 3)),
 .e (.store 4 (.t 4) (.t 14)),
 .j 16 (.load 1 false (.t 15)),
 .j 18 (.load 1 false (.t 17)),
 .j 20 (.load 1 false (.t 19)),
 .j 22 (.load 1 false (.t 21)),
 .j 23 (.build [(.int .i64 0), (.int .i64 0), (.int .i64 0), (.int .i64 0)] [(0, 1, (.t 16)), (1, 1, (.t 18)), (2, 1, (.t 20)), (3, 1, (.t 22))]),
 .e (.store 4 (.t 5) (.t 23))]
@[go_sem] def opcode_fields_c : AC := .seq (.ops [q56_0]) (.seq (.ops [q56_1_0, q56_1_1, q56_1_2, q56_1_3, q56_1_4, q56_1_5, q56_1_6, q56_1_7, q56_1_8, q56_1_9, q56_1_10, q56_1_11, q56_1_12, q56_1_13, q56_1_14, q56_1_15]) (.ret))
theorem opcode_fields_ok : compF Tryd.prog 56 = some (24, opcode_fields_c, [.c 4 4 true, .c 5 4 true]) := by kernel_rfl

@[go_sem] def q57_0 : List AI := [
 .j 2 (.mov (.z 0)),
 .j 3 (.mov (.z 0))]
@[go_sem] def q57_1 : List AI := [
 .j 4 (.mov (.t 0))]
@[go_sem] def q57_2 : List AI := [
 .j 6 (.bin .eql (.t 4) (.z 1)),
 .j 5 (.mov (.t 6))]
@[go_sem] def q57_3 : List AI := [
 .j 2 (.mov (.z 0)),
 .j 3 (.mov (.z 4095))]
@[go_sem] def q57_4 : List AI := [
 .j 8 (.bin .eql (.t 4) (.z 2)),
 .j 7 (.mov (.t 8))]
@[go_sem] def q57_5 : List AI := [
 .j 2 (.mov (.z 0)),
 .j 3 (.mov (.z 4095))]
@[go_sem] def q57_6 : List AI := [
 .j 10 (.bin .eql (.t 4) (.z 3)),
 .j 9 (.mov (.t 10))]
@[go_sem] def q57_7 : List AI := [
 .j 2 (.mov (.z 0)),
 .j 3 (.mov (.z 59))]
@[go_sem] def q57_8 : List AI := [
 .j 12 (.bin .eql (.t 4) (.z 4)),
 .j 11 (.mov (.t 12))]
@[go_sem] def q57_9 : List AI := [
 .j 2 (.mov (.z 0)),
 .j 3 (.mov (.z 1023))]
@[go_sem] def q57_10 : List AI := [
 .j 14 (.bin .eql (.t 4) (.z 5)),
 .j 13 (.mov (.t 14))]
@[go_sem] def q57_11 : List AI := [
 .j 2 (.mov (.z 0)),
 .j 3 (.mov (.z 16383))]
@[go_sem] def q57_12 : List AI := [
 .j 16 (.bin .eql (.t 4) (.z 6)),
 .j 15 (.mov (.t 16))]
@[go_sem] def q57_13 : List AI := [
 .j 2 (.mov (.z (-1))),
 .j 3 (.mov (.z 200))]
@[go_sem] def q57_14 : List AI := [
 .j 18 (.bin .eql (.t 4) (.z 7)),
 .j 17 (.mov (.t 18))]
@[go_sem] def q57_15 : List AI := [
 .j 2 (.mov (.z (-1))),
 .j 3 (.mov (.z 4096))]
@[go_sem] def q57_16 : List AI := [
 .j 20 (.bin .eql (.t 4) (.z 8)),
 .j 19 (.mov (.t 20))]
@[go_sem] def q57_17 : List AI := [
 .j 2 (.mov (.z 0)),
 .j 3 (.mov (.z 1))]
@[go_sem] def q57_18 : List AI := [
 .j 22 (.bin .eql (.t 4) (.z 9)),
 .j 21 (.mov (.t 22))]
@[go_sem] def q57_19 : List AI := [
 .j 2 (.mov (.z 20)),
 .j 3 (.mov (.z 23))]
@[go_sem] def q57_20 : List AI := [
 .j 24 (.bin .eql (.t 4) (.z 10)),
 .j 23 (.mov (.t 24))]
@[go_sem] def q57_21 : List AI := [
 .j 2 (.mov (.z 1)),
 .j 3 (.mov (.z 19))]
@[go_sem] def q57_22 : List AI := [
 .j 26 (.bin .eql (.t 4) (.z 11)),
 .j 25 (.mov (.t 26))]
@[go_sem] def q57_23 : List AI := [
 .j 2 (.mov (.z 1)),
 .j 3 (.mov (.z 200))]
@[go_sem] def q57_24 : List AI := [
 .j 28 (.bin .eql (.t 4) (.z 12)),
 .j 27 (.mov (.t 28))]
@[go_sem] def q57_25 : List AI := [
 .j 2 (.mov (.z 1)),
 .j 3 (.mov (.z 32767))]
@[go_sem] def q57_26 : List AI := [
 .j 2 (.mov (.z 0)),
 .j 3 (.mov (.z 0))]
@[go_sem] def opcode_between_c : AC := .seq (.ops [q57_0]) (.seq (.seq (.ops [q57_1]) (.block 0 (.seq (.ops [q57_2]) (.cond (.t 5) (.seq (.ops [q57_3]) (.ret)) (.seq (.ops [q57_4]) (.cond (.t 7) (.seq (.ops [q57_5]) (.ret)) (.seq (.ops [q57_6]) (.cond (.t 9) (.seq (.ops [q57_7]) (.ret)) (.seq (.ops [q57_8]) (.cond (.t 11) (.seq (.ops [q57_9]) (.ret)) (.seq (.ops [q57_10]) (.cond (.t 13) (.seq (.ops [q57_11]) (.ret)) (.seq (.ops [q57_12]) (.cond (.t 15) (.seq (.ops [q57_13]) (.ret)) (.seq (.ops [q57_14]) (.cond (.t 17) (.seq (.ops [q57_15]) (.ret)) (.seq (.ops [q57_16]) (.cond (.t 19) (.seq (.ops [q57_17]) (.ret)) (.seq (.ops [q57_18]) (.cond (.t 21) (.seq (.ops [q57_19]) (.ret)) (.seq (.ops [q57_20]) (.cond (.t 23) (.seq (.ops [q57_21]) (.ret)) (.seq (.ops [q57_22]) (.cond (.t 25) (.seq (.ops [q57_23]) (.ret)) (.seq (.ops [q57_24]) (.cond (.t 27) (.seq (.ops [q57_25]) (.ret)) (.skip))))))))))))))))))))))))))) (.seq (.ops [q57_26]) (.ret)))
theorem opcode_between_ok : compF Tryd.prog 57 = some (29, opcode_between_c, [.t 2, .t 3]) := by kernel_rfl

@[go_sem] def q58_0 : List AI := [
 .j 2 (.box 580002 6 (.t 0)),
 .j 3 (.box 580003 5 (.t 1)),
 .j 4 (.mov (.z 0))]
@[go_sem] def q58_1 : List AI := [
 .j 6 (.faddr 1 (.t 3)),
 .j 7 (.load 1 false (.t 6)),
 .j 8 (.faddr 5 (.t 2)),
 .j 9 (.load 1 false (.t 8)),
 .j 10 (.bin .add (.t 7) (.t 9)),
 .j 5 (.mov (.t 10))]
@[go_sem] def q58_2 : List AI := [
 .j 11 (.faddr 0 (.t 3)),
 .j 12 (.load 1 false (.t 11))]
@[go_sem] def q58_3 : List AI := [
 .j 14 (.bin .eql (.t 12) (.z 16)),
 .j 13 (.mov (.t 14))]
@[go_sem] def q58_4 : List AI := [
 .j 15 (.faddr 1 (.t 3)),
 .j 16 (.load 1 false (.t 15)),
 .j 17 (.faddr 2 (.t 3)),
 .j 18 (.load 1 false (.t 17)),
 .j 19 (.bin .add (.t 16) (.t 18)),
 .j 20 (.faddr 1 (.t 3)),
 .j 21 (.load 1 false (.t 20)),
 .j 22 (.faddr 3 (.t 3)),
 .j 23 (.load 1 false (.t 22)),
 .j 24 (.bin .add (.t 21) (.t 23)),
 .j 25 (.bin .sub (.t 24) (.z 1)),
 .j 26 (.mm true [(.t 19), (.t 25)]),
 .j 5 (.mov (.t 26))]
@[go_sem] def q58_5 : List AI := [
 .j 28 (.bin .eql (.t 12) (.z 17)),
 .j 27 (.mov (.t 28))]
@[go_sem] def q58_6 : List AI := [
 .j 29 (.bin .eql (.t 12) (.z 21)),
 .j 27 (.mov (.t 29))]
@[go_sem] def q58_7 : List AI := [
 .j 30 (.faddr 1 (.t 3)),
 .j 31 (.load 1 false (.t 30)),
 .j 32 (.faddr 2 (.t 3)),
 .j 33 (.load 1 false (.t 32)),
 .j 34 (.bin .add (.t 31) (.t 33)),
 .j 5 (.mov (.t 34))]
@[go_sem] def q58_8 : List AI := [
 .j 36 (.bin .eql (.t 12) (.z 18)),
 .j 35 (.mov (.t 36))]
@[go_sem] def q58_9 : List AI := [
 .j 37 (.bin .eql (.t 12) (.z 19)),
 .j 35 (.mov (.t 37))]
@[go_sem] def q58_10 : List AI := [
 .j 38 (.faddr 1 (.t 3)),
 .j 39 (.load 1 false (.t 38)),
 .j 40 (.faddr 2 (.t 3)),
 .j 41 (.load 1 false (.t 40)),
 .j 42 (.bin .add (.t 39) (.t 41)),
 .j 43 (.bin .sub (.t 42) (.z 1)),
 .j 5 (.mov (.t 43))]
@[go_sem] def q58_11 : List AI := [
 .j 45 (.bin .eql (.t 12) (.z 25)),
 .j 44 (.mov (.t 45))]
@[go_sem] def q58_12 : List AI := [
 .j 46 (.faddr 1 (.t 3)),
 .j 47 (.load 1 false (.t 46)),
 .j 48 (.bin .add (.t 47) (.z 2)),
 .j 49 (.faddr 3 (.t 3)),
 .j 50 (.load 1 false (.t 49)),
 .j 51 (.bin .add (.t 48) (.t 50)),
 .j 5 (.mov (.t 51))]
@[go_sem] def q58_13 : List AI := [
 .j 52 (.mov (.t 5)),
 .j 4 (.mov (.t 52))]
@[go_sem] def opcode_last_c : AC := .seq (.ops [q58_0]) (.seq (.ops [q58_1]) (.seq (.seq (.ops [q58_2]) (.block 0 (.seq (.ops [q58_3]) (.cond (.t 13) (.ops [q58_4]) (.seq (.seq (.ops [q58_5]) (.cond (.t 27) (.skip) (.ops [q58_6]))) (.cond (.t 27) (.ops [q58_7]) (.seq (.seq (.ops [q58_8]) (.cond (.t 35) (.skip) (.ops [q58_9]))) (.cond (.t 35) (.ops [q58_10]) (.seq (.ops [q58_11]) (.cond (.t 44) (.ops [q58_12]) (.skip))))))))))) (.seq (.ops [q58_13]) (.ret))))
theorem opcode_last_ok : compF Tryd.prog 58 = some (53, opcode_last_c, [.t 4]) := by kernel_rfl

@[go_sem] def q59_0 : List AI := [
 .j 2 (.mov (.c .nils))]
@[go_sem] def q59_1 : List AI := [
 .j 3 (.mov (.t 0)),
 .j 4 (.call 66 [(.t 3)])]
@[go_sem] def q59_2 : List AI := [
 .j 5 (.mov (.t 0)),
 .j 6 (.call 67 [(.t 5)]),
 .j 2 (.mov (.t 6))]
@[go_sem] def opcode_sorted_c : AC := .seq (.ops [q59_0]) (.seq (.ops [q59_1]) (.seq (.ops [q59_2]) (.ret)))
theorem opcode_sorted_ok : compF Tryd.prog 59 = some (7, opcode_sorted_c, [.t 2]) := by kernel_rfl

@[go_sem] def q60_0 : List AI := [
 .j 4 (.mov (.c .nils)),
 .j 5 (.mov (.z 0))]
@[go_sem] def q60_1 : List AI := [
 .j 8 (.mov (.t 1)),
 .j 9 (.bin .lss (.t 8) (.z 0))]
@[go_sem] def q60_2 : List AI := [
 .j 10 (.mov (.t 0)),
 .j 4 (.mov (.c .nils)),
 .j 5 (.mov (.t 10))]
@[go_sem] def q60_3 : List AI := [
 .j 6 (.mov (.c .nils))]
@[go_sem] def q60_4 : List AI := [
 .j 11 (.mov (.t 1)),
 .j 12 (.mov (.z 0))]
@[go_sem] def q60_5 : List AI := [
 .j 13 (.bin .lss (.t 12) (.t 11))]
@[go_sem] def q60_6 : List AI := [
 .j 14 (.mov (.t 12)),
 .j 7 (.mov (.t 14))]
@[go_sem] def q60_7 : List AI := [
 .j 15 (.mov (.t 6)),
 .j 16 (.mov (.t 0)),
 .j 17 (.mov (.t 7)),
 .j 18 (.bin .add (.t 16) (.t 17)),
 .j 19 (.mkisl 1 [(.t 18)]),
 .j 20 (.app 600020 1 (.t 15) (.t 19)),
 .j 6 (.mov (.t 20))]
@[go_sem] def q60_8 : List AI := [
 .j 21 (.bin .add (.t 12) (.z 1)),
 .j 12 (.mov (.t 21))]
@[go_sem] def opcode_span_l0' : AC := .seq (.ops [q60_5]) (.seq (.cond (.t 13) (.skip) (.exit 0)) (.seq (.block 1 (.seq (.ops [q60_6]) (.ops [q60_7]))) (.ops [q60_8])))
def opcode_span_l0 : AC := opcode_span_l0'
theorem opcode_span_l0_eq : opcode_span_l0 = opcode_span_l0' := rfl
@[go_sem] def q60_9 : List AI := [
 .j 22 (.mov (.t 6)),
 .j 4 (.mov (.t 22)),
 .j 5 (.mov (.z (-1)))]
@[go_sem] def opcode_span_c : AC := .seq (.ops [q60_0]) (.seq (.seq (.ops [q60_1]) (.cond (.t 9) (.seq (.ops [q60_2]) (.ret)) (.skip))) (.seq (.ops [q60_3]) (.seq (.seq (.ops [q60_4]) (.block 0 (.loop opcode_span_l0))) (.seq (.ops [q60_9]) (.ret)))))
theorem opcode_span_ok : compF Tryd.prog 60 = some (23, opcode_span_c, [.t 4, .t 5]) := by kernel_rfl

@[go_sem] def q61_0 : List AI := [
 .j 3 (.mov (.c (.bool false)))]
@[go_sem] def q61_1 : List AI := [
 .j 4 (.mov (.t 0)),
 .j 5 (.faddr 4 (.t 1)),
 .j 6 (.load 1 false (.t 5)),
 .j 7 (.bin .geq (.t 4) (.t 6)),
 .j 3 (.mov (.t 7))]
@[go_sem] def proto_within_1_c : AC := .seq (.ops [q61_0]) (.seq (.ops [q61_1]) (.ret))
theorem proto_within_1_ok : compF Tryd.prog 61 = some (8, proto_within_1_c, [.t 3]) := by kernel_rfl

@[go_sem] def q62_0 : List AI := [
 .j 1 (.box 620001 5 (.t 0)),
 .j 2 (.mov (.z 0)),
 .j 3 (.mov (.c (.bool false)))]
@[go_sem] def q62_1 : List AI := [
 .j 4 (.faddr 0 (.t 1)),
 .j 5 (.load 1 false (.t 4))]
@[go_sem] def q62_2 : List AI := [
 .j 7 (.bin .eql (.t 5) (.z 2)),
 .j 6 (.mov (.t 7))]
@[go_sem] def q62_3 : List AI := [
 .j 8 (.faddr 2 (.t 1)),
 .j 9 (.load 1 false (.t 8)),
 .j 2 (.mov (.t 9)),
 .j 3 (.mov (.c (.bool false)))]
@[go_sem] def q62_4 : List AI := [
 .j 11 (.bin .eql (.t 5) (.z 7)),
 .j 10 (.mov (.t 11))]
@[go_sem] def q62_5 : List AI := [
 .j 12 (.faddr 2 (.t 1)),
 .j 13 (.load 1 false (.t 12)),
 .j 2 (.mov (.t 13)),
 .j 3 (.mov (.c (.bool true)))]
@[go_sem] def q62_6 : List AI := [
 .j 15 (.bin .eql (.t 5) (.z 8)),
 .j 14 (.mov (.t 15))]
@[go_sem] def q62_7 : List AI := [
 .j 16 (.faddr 1 (.t 1)),
 .j 17 (.load 1 false (.t 16)),
 .j 2 (.mov (.t 17)),
 .j 3 (.mov (.c (.bool true)))]
@[go_sem] def q62_8 : List AI := [
 .j 19 (.bin .eql (.t 5) (.z 11)),
 .j 18 (.mov (.t 19))]
@[go_sem] def q62_9 : List AI := [
 .j 20 (.faddr 3 (.t 1)),
 .j 21 (.load 1 false (.t 20)),
 .j 2 (.mov (.t 21)),
 .j 3 (.mov (.c (.bool true)))]
@[go_sem] def q62_10 : List AI := [
 .j 2 (.mov (.z (-1))),
 .j 3 (.mov (.c (.bool false)))]
@[go_sem] def proto_constant_c : AC := .seq (.ops [q62_0]) (.seq (.seq (.ops [q62_1]) (.block 0 (.seq (.ops [q62_2]) (.cond (.t 6) (.seq (.ops [q62_3]) (.ret)) (.seq (.ops [q62_4]) (.cond (.t 10) (.seq (.ops [q62_5]) (.ret)) (.seq (.ops [q62_6]) (.cond (.t 14) (.seq (.ops [q62_7]) (.ret)) (.seq (.ops [q62_8]) (.cond (.t 18) (.seq (.ops [q62_9]) (.ret)) (.skip))))))))))) (.seq (.ops [q62_10]) (.ret)))
theorem proto_constant_ok : compF Tryd.prog 62 = some (22, proto_constant_c, [.t 2, .t 3]) := by kernel_rfl

@[go_sem] def q63_0 : List AI := [
 .j 4 (.mov (.z 0))]
@[go_sem] def q63_1 : List AI := [
 .j 5 (.mov (.t 1)),
 .j 6 (.bin .neq (.t 5) (.z 0))]
@[go_sem] def q63_2 : List AI := [
 .j 7 (.mov (.t 1)),
 .j 8 (.mov (.t 0)),
 .j 9 (.mov (.t 1)),
 .j 10 (.bin .rem (.t 8) (.t 9)),
 .j 0 (.mov (.t 7)),
 .j 1 (.mov (.t 10))]
@[go_sem] def rational_gcd_l0' : AC := .seq (.seq (.ops [q63_1]) (.cond (.t 6) (.skip) (.exit 0))) (.block 1 (.ops [q63_2]))
def rational_gcd_l0 : AC := rational_gcd_l0'
theorem rational_gcd_l0_eq : rational_gcd_l0 = rational_gcd_l0' := rfl
@[go_sem] def q63_3 : List AI := [
 .j 11 (.mov (.t 0)),
 .j 4 (.mov (.t 11))]
@[go_sem] def rational_gcd_c : AC := .seq (.ops [q63_0]) (.seq (.block 0 (.loop rational_gcd_l0)) (.seq (.ops [q63_3]) (.ret)))
theorem rational_gcd_ok : compF Tryd.prog 63 = some (12, rational_gcd_c, [.t 4]) := by kernel_rfl

@[go_sem] def q64_0 : List AI := [
 .j 2 (.mov (.c .nils))]
@[go_sem] def q64_1 : List AI := [
 .j 3 (.mov (.z 0))]
@[go_sem] def q64_2 : List AI := [
 .j 4 (.mov (.z 1))]
@[go_sem] def q64_3 : List AI := [
 .j 5 (.mov (.c (.int .u8 0)))]
@[go_sem] def q64_4 : List AI := [
 .j 6 (.mov (.z 0))]
@[go_sem] def q64_5 : List AI := [
 .j 13 (.mov (.t 6)),
 .j 14 (.mov (.t 0)),
 .j 15 (.len 1 (.t 14)),
 .j 16 (.bin .lss (.t 13) (.t 15))]
@[go_sem] def q64_6 : List AI := [
 .j 19 (.mov (.t 0)),
 .j 20 (.mov (.t 6)),
 .j 21 (.idx (.t 19) (.t 20)),
 .j 7 (.mov (.t 21))]
@[go_sem] def q64_7 : List AI := [
 .j 22 (.mov (.t 5)),
 .j 23 (.mov (.t 7)),
 .j 24 (.bin .or (.t 22) (.t 23)),
 .j 5 (.mov (.t 24))]
@[go_sem] def q64_8 : List AI := [
 .j 25 (.mov (.t 7)),
 .j 26 (.iaddrA 256 1 (.g 1) (.t 25)),
 .j 27 (.load 1 false (.t 26)),
 .j 28 (.conv .i64 (.t 27)),
 .j 8 (.mov (.t 28))]
@[go_sem] def q64_9 : List AI := [
 .j 29 (.mov (.t 3)),
 .j 30 (.mov (.t 4)),
 .j 31 (.mov (.t 8)),
 .j 32 (.un .xor (.t 31)),
 .j 33 (.bin .and (.t 30) (.t 32)),
 .j 34 (.bin .add (.t 29) (.t 33)),
 .j 3 (.mov (.t 34))]
@[go_sem] def q64_10 : List AI := [
 .j 35 (.mov (.t 8)),
 .j 4 (.mov (.t 35))]
@[go_sem] def q64_11 : List AI := [
 .j 17 (.mov (.t 6)),
 .j 18 (.bin .add (.t 17) (.z 1)),
 .j 6 (.mov (.t 18))]
@[go_sem] def strings_Fields_l0' : AC := .seq (.seq (.ops [q64_5]) (.cond (.t 16) (.skip) (.exit 0))) (.seq (.block 1 (.seq (.ops [q64_6]) (.seq (.ops [q64_7]) (.seq (.ops [q64_8]) (.seq (.ops [q64_9]) (.ops [q64_10])))))) (.ops [q64_11]))
def strings_Fields_l0 : AC := strings_Fields_l0'
theorem strings_Fields_l0_eq : strings_Fields_l0 = strings_Fields_l0' := rfl
@[go_sem] def q64_12 : List AI := [
 .j 36 (.mov (.t 5)),
 .j 37 (.bin .geq (.t 36) (.c (.int .u8 128)))]
@[go_sem] def q64_13 : List AI := [
 .j 38 (.mov (.t 0)),
 .j 39 (.call 68 [(.t 38), (.f 69)]),
 .j 2 (.mov (.t 39))]
@[go_sem] def q64_14 : List AI := [
 .j 40 (.mov (.t 3)),
 .j 41 (.mksl 640041 [(.str [])] (.t 40)),
 .j 9 (.mov (.t 41))]
@[go_sem] def q64_15 : List AI := [
 .j 10 (.mov (.z 0))]
@[go_sem] def q64_16 : List AI := [
 .j 11 (.mov (.z 0))]
@[go_sem] def q64_17 : List AI := [
 .j 12 (.mov (.z 0))]
@[go_sem] def q64_18 : List AI := [
 .j 42 (.mov (.t 12)),
 .j 43 (.mov (.t 0)),
 .j 44 (.len 1 (.t 43)),
 .j 45 (.bin .lss (.t 42) (.t 44)),
 .j 46 (.mov (.t 45)),
 .k 47 46 true (.mov (.t 0)),
 .k 48 46 true (.mov (.t 12)),
 .k 49 46 true (.idx (.t 47) (.t 48)),
 .k 50 46 true (.iaddrA 256 1 (.g 1) (.t 49)),
 .k 51 46 true (.load 1 false (.t 50)),
 .k 52 46 true (.bin .neq (.t 51) (.c (.int .u8 0))),
 .j 53 (.pick (.t 46) (.t 52) (.c (.bool false)))]
@[go_sem] def q64_19 : List AI := [
 .j 54 (.mov (.t 12)),
 .j 55 (.bin .add (.t 54) (.z 1)),
 .j 12 (.mov (.t 55))]
@[go_sem] def strings_Fields_l1' : AC := .seq (.seq (.ops [q64_18]) (.cond (.t 53) (.skip) (.exit 2))) (.block 3 (.ops [q64_19]))
def strings_Fields_l1 : AC := strings_Fields_l1'
theorem strings_Fields_l1_eq : strings_Fields_l1 = strings_Fields_l1' := rfl
@[go_sem] def q64_20 : List AI := [
 .j 56 (.mov (.t 12)),
 .j 11 (.mov (.t 56))]
@[go_sem] def q64_21 : List AI := [
 .j 57 (.mov (.t 12)),
 .j 58 (.mov (.t 0)),
 .j 59 (.len 1 (.t 58)),
 .j 60 (.bin .lss (.t 57) (.t 59))]
@[go_sem] def q64_22 : List AI := [
 .j 61 (.mov (.t 0)),
 .j 62 (.mov (.t 12)),
 .j 63 (.idx (.t 61) (.t 62)),
 .j 64 (.iaddrA 256 1 (.g 1) (.t 63)),
 .j 65 (.load 1 false (.t 64)),
 .j 66 (.bin .eql (.t 65) (.c (.int .u8 0)))]
@[go_sem] def q64_23 : List AI := [
 .j 67 (.mov (.t 12)),
 .j 68 (.bin .add (.t 67) (.z 1)),
 .j 12 (.mov (.t 68))]
@[go_sem] def q64_24 : List AI := [
 .j 69 (.mov (.t 9)),
 .j 70 (.mov (.t 10)),
 .j 71 (.mov (.t 0)),
 .j 72 (.mov (.t 11)),
 .j 73 (.mov (.t 12)),
 .j 74 (.sls (.t 71) (some (.t 72)) (some (.t 73))),
 .j 75 (.iaddr 1 (.t 69) (.t 70)),
 .e (.store 1 (.t 75) (.t 74))]
@[go_sem] def q64_25 : List AI := [
 .j 76 (.mov (.t 10)),
 .j 77 (.bin .add (.t 76) (.z 1)),
 .j 10 (.mov (.t 77))]
@[go_sem] def q64_26 : List AI := [
 .j 78 (.mov (.t 12)),
 .j 79 (.bin .add (.t 78) (.z 1)),
 .j 12 (.mov (.t 79))]
@[go_sem] def q64_27 : List AI := [
 .j 80 (.mov (.t 12)),
 .j 81 (.mov (.t 0)),
 .j 82 (.len 1 (.t 81)),
 .j 83 (.bin .lss (.t 80) (.t 82)),
 .j 84 (.mov (.t 83)),
 .k 85 84 true (.mov (.t 0)),
 .k 86 84 true (.mov (.t 12)),
 .k 87 84 true (.idx (.t 85) (.t 86)),
 .k 88 84 true (.iaddrA 256 1 (.g 1) (.t 87)),
 .k 89 84 true (.load 1 false (.t 88)),
 .k 90 84 true (.bin .neq (.t 89) (.c (.int .u8 0))),
 .j 91 (.pick (.t 84) (.t 90) (.c (.bool false)))]
@[go_sem] def q64_28 : List AI := [
 .j 92 (.mov (.t 12)),
 .j 93 (.bin .add (.t 92) (.z 1)),
 .j 12 (.mov (.t 93))]
@[go_sem] def strings_Fields_l3' : AC := .seq (.seq (.ops [q64_27]) (.cond (.t 91) (.skip) (.exit 6))) (.block 7 (.ops [q64_28]))
def strings_Fields_l3 : AC := strings_Fields_l3'
theorem strings_Fields_l3_eq : strings_Fields_l3 = strings_Fields_l3' := rfl
@[go_sem] def q64_29 : List AI := [
 .j 94 (.mov (.t 12)),
 .j 11 (.mov (.t 94))]
@[go_sem] def strings_Fields_l2' : AC := .seq (.seq (.ops [q64_21]) (.cond (.t 60) (.skip) (.exit 4))) (.block 5 (.seq (.seq (.ops [q64_22]) (.cond (.t 66) (.seq (.ops [q64_23]) (.exit 5)) (.skip))) (.seq (.ops [q64_24]) (.seq (.ops [q64_25]) (.seq (.ops [q64_26]) (.seq (.block 6 (.loop strings_Fields_l3)) (.ops [q64_29])))))))
def strings_Fields_l2 : AC := strings_Fields_l2'
theorem strings_Fields_l2_eq : strings_Fields_l2 = strings_Fields_l2' := rfl
@[go_sem] def q64_30 : List AI := [
 .j 95 (.mov (.t 11)),
 .j 96 (.mov (.t 0)),
 .j 97 (.len 1 (.t 96)),
 .j 98 (.bin .lss (.t 95) (.t 97))]
@[go_sem] def q64_31 : List AI := [
 .j 99 (.mov (.t 9)),
 .j 100 (.mov (.t 10)),
 .j 101 (.mov (.t 0)),
 .j 102 (.mov (.t 11)),
 .j 103 (.sls (.t 101) (some (.t 102)) none),
 .j 104 (.iaddr 1 (.t 99) (.t 100)),
 .e (.store 1 (.t 104) (.t 103))]
@[go_sem] def q64_32 : List AI := [
 .j 105 (.mov (.t 9)),
 .j 2 (.mov (.t 105))]
@[go_sem] def strings_Fields_c : AC := .seq (.ops [q64_0]) (.seq (.ops [q64_1]) (.seq (.ops [q64_2]) (.seq (.ops [q64_3]) (.seq (.seq (.ops [q64_4]) (.block 0 (.loop strings_Fields_l0))) (.seq (.seq (.ops [q64_12]) (.cond (.t 37) (.seq (.ops [q64_13]) (.ret)) (.skip))) (.seq (.ops [q64_14]) (.seq (.ops [q64_15]) (.seq (.ops [q64_16]) (.seq (.ops [q64_17]) (.seq (.block 2 (.loop strings_Fields_l1)) (.seq (.ops [q64_20]) (.seq (.block 4 (.loop strings_Fields_l2)) (.seq (.seq (.ops [q64_30]) (.cond (.t 98) (.ops [q64_31]) (.skip))) (.seq (.ops [q64_32]) (.ret)))))))))))))))
theorem strings_Fields_ok : compF Tryd.prog 64 = some (106, strings_Fields_c, [.t 2]) := by kernel_rfl

@[go_sem] def q65_0 : List AI := [
 .j 2 (.box 650002 6 (.c (.agg [(.str []), (.int .i64 0), (.int .i64 0), (.int .i64 0), (.int .i64 0), (.int .i64 0)])))]
@[go_sem] def q65_1 : List AI := [
 .j 3 (.mov (.t 0))]
@[go_sem] def q65_2 : List AI := [
 .j 5 (.bin .eql (.t 3) (.z 1)),
 .j 4 (.mov (.t 5))]
@[go_sem] def q65_3 : List AI := [
 .j 6 (.build [(.str []), (.int .i64 0), (.int .i64 0), (.int .i64 0), (.int .i64 0), (.int .i64 0)] [(1, 1, (.z 1)), (2, 1, (.z 1))]),
 .e (.store 6 (.t 2) (.t 6))]
@[go_sem] def q65_4 : List AI := [
 .j 8 (.bin .eql (.t 3) (.z 2)),
 .j 7 (.mov (.t 8))]
@[go_sem] def q65_5 : List AI := [
 .j 9 (.bin .eql (.t 3) (.z 7)),
 .j 7 (.mov (.t 9))]
@[go_sem] def q65_6 : List AI := [
 .j 10 (.build [(.str []), (.int .i64 0), (.int .i64 0), (.int .i64 0), (.int .i64 0), (.int .i64 0)] [(1, 1, (.z 1)), (2, 1, (.z 2))]),
 .e (.store 6 (.t 2) (.t 10))]
@[go_sem] def q65_7 : List AI := [
 .j 12 (.bin .eql (.t 3) (.z 3)),
 .j 11 (.mov (.t 12))]
@[go_sem] def q65_8 : List AI := [
 .j 13 (.build [(.str []), (.int .i64 0), (.int .i64 0), (.int .i64 0), (.int .i64 0), (.int .i64 0)] [(1, 1, (.z 1)), (2, 1, (.z 1))]),
 .e (.store 6 (.t 2) (.t 13))]
@[go_sem] def q65_9 : List AI := [
 .j 15 (.bin .eql (.t 3) (.z 4)),
 .j 14 (.mov (.t 15))]
@[go_sem] def q65_10 : List AI := [
 .j 16 (.build [(.str []), (.int .i64 0), (.int .i64 0), (.int .i64 0), (.int .i64 0), (.int .i64 0)] [(1, 1, (.z 1)), (2, 1, (.z 8))]),
 .e (.store 6 (.t 2) (.t 16))]
@[go_sem] def q65_11 : List AI := [
 .j 18 (.bin .eql (.t 3) (.z 5)),
 .j 17 (.mov (.t 18))]
@[go_sem] def q65_12 : List AI := [
 .j 19 (.build [(.str []), (.int .i64 0), (.int .i64 0), (.int .i64 0), (.int .i64 0), (.int .i64 0)] [(1, 1, (.z 1)), (2, 1, (.z 3))]),
 .e (.store 6 (.t 2) (.t 19))]
@[go_sem] def q65_13 : List AI := [
 .j 21 (.bin .eql (.t 3) (.z 6)),
 .j 20 (.mov (.t 21))]
@[go_sem] def q65_14 : List AI := [
 .j 22 (.build [(.str []), (.int .i64 0), (.int .i64 0), (.int .i64 0), (.int .i64 0), (.int .i64 0)] [(1, 1, (.z 3)), (2, 1, (.z 1))]),
 .e (.store 6 (.t 2) (.t 22))]
@[go_sem] def q65_15 : List AI := [
 .j 24 (.bin .eql (.t 3) (.z 8)),
 .j 23 (.mov (.t 24))]
@[go_sem] def q65_16 : List AI := [
 .j 25 (.build [(.str []), (.int .i64 0), (.int .i64 0), (.int .i64 0), (.int .i64 0), (.int .i64 0)] [(1, 1, (.z 2)), (2, 1, (.z 1))]),
 .e (.store 6 (.t 2) (.t 25))]
@[go_sem] def q65_17 : List AI := [
 .j 27 (.bin .eql (.t 3) (.z 9)),
 .j 26 (.mov (.t 27))]
@[go_sem] def q65_18 : List AI := [
 .j 28 (.bin .eql (.t 3) (.z 10)),
 .j 26 (.mov (.t 28))]
@[go_sem] def q65_19 : List AI := [
 .j 29 (.build [(.str []), (.int .i64 0), (.int .i64 0), (.int .i64 0), (.int .i64 0), (.int .i64 0)] [(1, 1, (.z 1)), (2, 1, (.z 1)), (3, 1, (.z 1))]),
 .e (.store 6 (.t 2) (.t 29))]
@[go_sem] def q65_20 : List AI := [
 .j 31 (.bin .eql (.t 3) (.z 11)),
 .j 30 (.mov (.t 31))]
@[go_sem] def q65_21 : List AI := [
 .j 32 (.build [(.str []), (.int .i64 0), (.int .i64 0), (.int .i64 0), (.int .i64 0), (.int .i64 0)] [(1, 1, (.z 1)), (2, 1, (.z 1)), (3, 1, (.z 2)), (5, 1, (.z 1))]),
 .e (.store 6 (.t 2) (.t 32))]
@[go_sem] def q65_22 : List AI := [
 .j 34 (.bin .eql (.t 3) (.z 12)),
 .j 33 (.mov (.t 34))]
@[go_sem] def q65_23 : List AI := [
 .j 35 (.build [(.str []), (.int .i64 0), (.int .i64 0), (.int .i64 0), (.int .i64 0), (.int .i64 0)] [(1, 1, (.z 1)), (2, 1, (.z 1)), (3, 1, (.z 9))]),
 .e (.store 6 (.t 2) (.t 35))]
@[go_sem] def q65_24 : List AI := [
 .j 37 (.bin .eql (.t 3) (.z 13)),
 .j 36 (.mov (.t 37))]
@[go_sem] def q65_25 : List AI := [
 .j 38 (.build [(.str []), (.int .i64 0), (.int .i64 0), (.int .i64 0), (.int .i64 0), (.int .i64 0)] [(1, 1, (.z 1)), (2, 1, (.z 1)), (3, 1, (.z 1)), (4, 1, (.z 10))]),
 .e (.store 6 (.t 2) (.t 38))]
@[go_sem] def q65_26 : List AI := [
 .j 40 (.bin .eql (.t 3) (.z 14)),
 .j 39 (.mov (.t 40))]
@[go_sem] def q65_27 : List AI := [
 .j 41 (.build [(.str []), (.int .i64 0), (.int .i64 0), (.int .i64 0), (.int .i64 0), (.int .i64 0)] [(2, 1, (.z 5))]),
 .e (.store 6 (.t 2) (.t 41))]
@[go_sem] def q65_28 : List AI := [
 .j 43 (.bin .eql (.t 3) (.z 15)),
 .j 42 (.mov (.t 43))]
@[go_sem] def q65_29 : List AI := [
 .j 44 (.build [(.str []), (.int .i64 0), (.int .i64 0), (.int .i64 0), (.int .i64 0), (.int .i64 0)] [(1, 1, (.z 1)), (2, 1, (.z 5)), (3, 1, (.z 8))]),
 .e (.store 6 (.t 2) (.t 44))]
@[go_sem] def q65_30 : List AI := [
 .j 46 (.bin .eql (.t 3) (.z 16)),
 .j 45 (.mov (.t 46))]
@[go_sem] def q65_31 : List AI := [
 .j 47 (.build [(.str []), (.int .i64 0), (.int .i64 0), (.int .i64 0), (.int .i64 0), (.int .i64 0)] [(1, 1, (.z 1)), (2, 1, (.z 7)), (3, 1, (.z 6))]),
 .e (.store 6 (.t 2) (.t 47))]
@[go_sem] def q65_32 : List AI := [
 .j 49 (.bin .eql (.t 3) (.z 17)),
 .j 48 (.mov (.t 49))]
@[go_sem] def q65_33 : List AI := [
 .j 50 (.bin .eql (.t 3) (.z 18)),
 .j 48 (.mov (.t 50))]
@[go_sem] def q65_34 : List AI := [
 .j 51 (.build [(.str []), (.int .i64 0), (.int .i64 0), (.int .i64 0), (.int .i64 0), (.int .i64 0)] [(1, 1, (.z 1)), (2, 1, (.z 7))]),
 .e (.store 6 (.t 2) (.t 51))]
@[go_sem] def q65_35 : List AI := [
 .j 53 (.bin .eql (.t 3) (.z 19)),
 .j 52 (.mov (.t 53))]
@[go_sem] def q65_36 : List AI := [
 .j 54 (.build [(.str []), (.int .i64 0), (.int .i64 0), (.int .i64 0), (.int .i64 0), (.int .i64 0)] [(1, 1, (.z 1)), (2, 1, (.z 6))]),
 .e (.store 6 (.t 2) (.t 54))]
@[go_sem] def q65_37 : List AI := [
 .j 56 (.bin .eql (.t 3) (.z 21)),
 .j 55 (.mov (.t 56))]
@[go_sem] def q65_38 : List AI := [
 .j 57 (.build [(.str []), (.int .i64 0), (.int .i64 0), (.int .i64 0), (.int .i64 0), (.int .i64 0)] [(1, 1, (.z 1)), (2, 1, (.z 7)), (3, 1, (.z 12))]),
 .e (.store 6 (.t 2) (.t 57))]
@[go_sem] def q65_39 : List AI := [
 .j 59 (.bin .eql (.t 3) (.z 22)),
 .j 58 (.mov (.t 59))]
@[go_sem] def q65_40 : List AI := [
 .j 60 (.build [(.str []), (.int .i64 0), (.int .i64 0), (.int .i64 0), (.int .i64 0), (.int .i64 0)] [(1, 1, (.z 1)), (2, 1, (.z 4))]),
 .e (.store 6 (.t 2) (.t 60))]
@[go_sem] def q65_41 : List AI := [
 .j 62 (.bin .eql (.t 3) (.z 23)),
 .j 61 (.mov (.t 62))]
@[go_sem] def q65_42 : List AI := [
 .j 63 (.bin .eql (.t 3) (.z 24)),
 .j 61 (.mov (.t 63))]
@[go_sem] def q65_43 : List AI := [
 .j 64 (.bin .eql (.t 3) (.z 26)),
 .j 61 (.mov (.t 64))]
@[go_sem] def q65_44 : List AI := [
 .j 65 (.build [(.str []), (.int .i64 0), (.int .i64 0), (.int .i64 0), (.int .i64 0), (.int .i64 0)] [(1, 1, (.z 1)), (2, 1, (.z 5)), (5, 1, (.z 3))]),
 .e (.store 6 (.t 2) (.t 65))]
@[go_sem] def q65_45 : List AI := [
 .j 67 (.bin .eql (.t 3) (.z 25)),
 .j 66 (.mov (.t 67))]
@[go_sem] def q65_46 : List AI := [
 .j 68 (.build [(.str []), (.int .i64 0), (.int .i64 0), (.int .i64 0), (.int .i64 0), (.int .i64 0)] [(1, 1, (.z 1)), (3, 1, (.z 11)), (5, 1, (.z 3))]),
 .e (.store 6 (.t 2) (.t 68))]
@[go_sem] def q65_47 : List AI := [
 .j 70 (.bin .eql (.t 3) (.z 20)),
 .j 69 (.mov (.t 70))]
@[go_sem] def q65_48 : List AI := [
 .j 71 (.bin .eql (.t 3) (.z 27)),
 .j 69 (.mov (.t 71))]
@[go_sem] def q65_49 : List AI := [
 .j 72 (.bin .eql (.t 3) (.z 28)),
 .j 69 (.mov (.t 72))]
@[go_sem] def q65_50 : List AI := [
 .j 73 (.build [(.str []), (.int .i64 0), (.int .i64 0), (.int .i64 0), (.int .i64 0), (.int .i64 0)] [(1, 1, (.z 1))]),
 .e (.store 6 (.t 2) (.t 73))]
@[go_sem] def q65_51 : List AI := [
 .j 74 (.build [(.str []), (.int .i64 0), (.int .i64 0), (.int .i64 0), (.int .i64 0), (.int .i64 0)] [(1, 1, (.z 8))]),
 .e (.store 6 (.t 2) (.t 74))]
@[go_sem] def opcode_shape_c : AC := .seq (.ops [q65_0]) (.seq (.seq (.ops [q65_1]) (.block 0 (.seq (.ops [q65_2]) (.cond (.t 4) (.seq (.ops [q65_3]) (.ret)) (.seq (.seq (.ops [q65_4]) (.cond (.t 7) (.skip) (.ops [q65_5]))) (.cond (.t 7) (.seq (.ops [q65_6]) (.ret)) (.seq (.ops [q65_7]) (.cond (.t 11) (.seq (.ops [q65_8]) (.ret)) (.seq (.ops [q65_9]) (.cond (.t 14) (.seq (.ops [q65_10]) (.ret)) (.seq (.ops [q65_11]) (.cond (.t 17) (.seq (.ops [q65_12]) (.ret)) (.seq (.ops [q65_13]) (.cond (.t 20) (.seq (.ops [q65_14]) (.ret)) (.seq (.ops [q65_15]) (.cond (.t 23) (.seq (.ops [q65_16]) (.ret)) (.seq (.seq (.ops [q65_17]) (.cond (.t 26) (.skip) (.ops [q65_18]))) (.cond (.t 26) (.seq (.ops [q65_19]) (.ret)) (.seq (.ops [q65_20]) (.cond (.t 30) (.seq (.ops [q65_21]) (.ret)) (.seq (.ops [q65_22]) (.cond (.t 33) (.seq (.ops [q65_23]) (.ret)) (.seq (.ops [q65_24]) (.cond (.t 36) (.seq (.ops [q65_25]) (.ret)) (.seq (.ops [q65_26]) (.cond (.t 39) (.seq (.ops [q65_27]) (.ret)) (.seq (.ops [q65_28]) (.cond (.t 42) (.seq (.ops [q65_29]) (.ret)) (.seq (.ops [q65_30]) (.cond (.t 45) (.seq (.ops [q65_31]) (.ret)) (.seq (.seq (.ops [q65_32]) (.cond (.t 48) (.skip) (.ops [q65_33]))) (.cond (.t 48) (.seq (.ops [q65_34]) (.ret)) (.seq (.ops [q65_35]) (.cond (.t 52) (.seq (.ops [q65_36]) (.ret)) (.seq (.ops [q65_37]) (.cond (.t 55) (.seq (.ops [q65_38]) (.ret)) (.seq (.ops [q65_39]) (.cond (.t 58) (.seq (.ops [q65_40]) (.ret)) (.seq (.seq (.ops [q65_41]) (.cond (.t 61) (.skip) (.seq (.ops [q65_42]) (.cond (.t 61) (.skip) (.ops [q65_43]))))) (.cond (.t 61) (.seq (.ops [q65_44]) (.ret)) (.seq (.ops [q65_45]) (.cond (.t 66) (.seq (.ops [q65_46]) (.ret)) (.seq (.seq (.ops [q65_47]) (.cond (.t 69) (.skip) (.seq (.ops [q65_48]) (.cond (.t 69) (.skip) (.ops [q65_49]))))) (.cond (.t 69) (.seq (.ops [q65_50]) (.ret)) (.skip))))))))))))))))))))))))))))))))))))))))))))) (.seq (.ops [q65_51]) (.ret)))
theorem opcode_shape_ok : compF Tryd.prog 65 = some (75, opcode_shape_c, [.c 2 6 true]) := by kernel_rfl

@[go_sem] def q66_0 : List AI := [
 .j 3 (.mov (.t 0)),
 .j 4 (.len 0 (.t 3)),
 .j 2 (.mov (.t 4))]
@[go_sem] def q66_1 : List AI := [
 .j 5 (.mov (.t 0)),
 .j 6 (.mov (.t 2)),
 .j 7 (.mov (.t 2)),
 .j 8 (.conv .u64 (.t 7)),
 .j 9 (.call 71 [(.t 8)]),
 .j 10 (.call 70 [(.t 5), (.z 0), (.t 6), (.t 9)])]
@[go_sem] def slices_Sort_int_int_c : AC := .seq (.ops [q66_0]) (.ops [q66_1])
theorem slices_Sort_int_int_ok : compF Tryd.prog 66 = some (11, slices_Sort_int_int_c, []) := by kernel_rfl

@[go_sem] def q67_0 : List AI := [
 .j 2 (.mov (.c .nils))]
@[go_sem] def q67_1 : List AI := [
 .j 6 (.mov (.t 0)),
 .j 7 (.len 0 (.t 6)),
 .j 8 (.bin .lss (.t 7) (.z 2))]
@[go_sem] def q67_2 : List AI := [
 .j 9 (.mov (.t 0)),
 .j 2 (.mov (.t 9))]
@[go_sem] def q67_3 : List AI := [
 .j 3 (.mov (.z 1))]
@[go_sem] def q67_4 : List AI := [
 .j 10 (.mov (.t 3)),
 .j 11 (.mov (.t 0)),
 .j 12 (.len 0 (.t 11)),
 .j 13 (.bin .lss (.t 10) (.t 12))]
@[go_sem] def q67_5 : List AI := [
 .j 16 (.mov (.t 0)),
 .j 17 (.mov (.t 3)),
 .j 18 (.iaddr 1 (.t 16) (.t 17)),
 .j 19 (.load 1 false (.t 18)),
 .j 20 (.mov (.t 0)),
 .j 21 (.mov (.t 3)),
 .j 22 (.bin .sub (.t 21) (.z 1)),
 .j 23 (.iaddr 1 (.t 20) (.t 22)),
 .j 24 (.load 1 false (.t 23)),
 .j 25 (.bin .eql (.t 19) (.t 24))]
@[go_sem] def q67_6 : List AI := [
 .j 26 (.mov (.t 0)),
 .j 27 (.mov (.t 3)),
 .j 28 (.slc 1 (.t 26) (some (.t 27)) none),
 .j 4 (.mov (.t 28))]
@[go_sem] def q67_7 : List AI := [
 .j 5 (.mov (.z 1))]
@[go_sem] def q67_8 : List AI := [
 .j 29 (.mov (.t 5)),
 .j 30 (.mov (.t 4)),
 .j 31 (.len 0 (.t 30)),
 .j 32 (.bin .lss (.t 29) (.t 31))]
@[go_sem] def q67_9 : List AI := [
 .j 35 (.mov (.t 4)),
 .j 36 (.mov (.t 5)),
 .j 37 (.iaddr 1 (.t 35) (.t 36)),
 .j 38 (.load 1 false (.t 37)),
 .j 39 (.mov (.t 4)),
 .j 40 (.mov (.t 5)),
 .j 41 (.bin .sub (.t 40) (.z 1)),
 .j 42 (.iaddr 1 (.t 39) (.t 41)),
 .j 43 (.load 1 false (.t 42)),
 .j 44 (.bin .neq (.t 38) (.t 43))]
@[go_sem] def q67_10 : List AI := [
 .j 45 (.mov (.t 0)),
 .j 46 (.mov (.t 3)),
 .j 47 (.mov (.t 4)),
 .j 48 (.mov (.t 5)),
 .j 49 (.iaddr 1 (.t 47) (.t 48)),
 .j 50 (.load 1 false (.t 49)),
 .j 51 (.iaddr 1 (.t 45) (.t 46)),
 .e (.store 1 (.t 51) (.t 50))]
@[go_sem] def q67_11 : List AI := [
 .j 52 (.mov (.t 3)),
 .j 53 (.bin .add (.t 52) (.z 1)),
 .j 3 (.mov (.t 53))]
@[go_sem] def q67_12 : List AI := [
 .j 33 (.mov (.t 5)),
 .j 34 (.bin .add (.t 33) (.z 1)),
 .j 5 (.mov (.t 34))]
@[go_sem] def slices_Compact_int_int_l1' : AC := .seq (.seq (.ops [q67_8]) (.cond (.t 32) (.skip) (.exit 2))) (.seq (.block 3 (.seq (.ops [q67_9]) (.cond (.t 44) (.seq (.ops [q67_10]) (.ops [q67_11])) (.skip)))) (.ops [q67_12]))
def slices_Compact_int_int_l1 : AC := slices_Compact_int_int_l1'
theorem slices_Compact_int_int_l1_eq : slices_Compact_int_int_l1 = slices_Compact_int_int_l1' := rfl
@[go_sem] def q67_13 : List AI := [
 .j 54 (.mov (.t 0)),
 .j 55 (.mov (.t 3)),
 .j 56 (.slc 1 (.t 54) (some (.t 55)) none),
 .e (.clr [(.int .i64 0)] (.t 56))]
@[go_sem] def q67_14 : List AI := [
 .j 57 (.mov (.t 0)),
 .j 58 (.mov (.t 3)),
 .j 59 (.slc 1 (.t 57) none (some (.t 58))),
 .j 2 (.mov (.t 59))]
@[go_sem] def q67_15 : List AI := [
 .j 14 (.mov (.t 3)),
 .j 15 (.bin .add (.t 14) (.z 1)),
 .j 3 (.mov (.t 15))]
@[go_sem] def slices_Compact_int_int_l0' : AC := .seq (.seq (.ops [q67_4]) (.cond (.t 13) (.skip) (.exit 0))) (.seq (.block 1 (.seq (.ops [q67_5]) (.cond (.t 25) (.seq (.ops [q67_6]) (.seq (.seq (.ops [q67_7]) (.block 2 (.loop slices_Compact_int_int_l1))) (.seq (.ops [q67_13]) (.seq (.ops [q67_14]) (.ret))))) (.skip)))) (.ops [q67_15]))
def slices_Compact_int_int_l0 : AC := slices_Compact_int_int_l0'
theorem slices_Compact_int_int_l0_eq : slices_Compact_int_int_l0 = slices_Compact_int_int_l0' := rfl
@[go_sem] def q67_16 : List AI := [
 .j 60 (.mov (.t 0)),
 .j 2 (.mov (.t 60))]
@[go_sem] def slices_Compact_int_int_c : AC := .seq (.ops [q67_0]) (.seq (.seq (.ops [q67_1]) (.cond (.t 8) (.seq (.ops [q67_2]) (.ret)) (.skip))) (.seq (.seq (.ops [q67_3]) (.block 0 (.loop slices_Compact_int_int_l0))) (.seq (.ops [q67_16]) (.ret))))
theorem slices_Compact_int_int_ok : compF Tryd.prog 67 = some (61, slices_Compact_int_int_c, [.t 2]) := by kernel_rfl

/-- The functions by number. -/
def exT : List (FuncId × Nat × AC × List RV) := [
  (3, 59, scriptinglaw33_ProtoLimits_c, [.t 2]),
  (5, 16, proto_Check_c, [.c 2 1 false]),
  (6, 25, scriptinglaw33_lives_c, [.t 0]),
  (13, 20, proto_depth_c, [.t 2]),
  (14, 4, proto_Each_c, [.t 2]),
  (15, 74, proto_single_c, [.t 2]),
  (16, 10, proto_Count_c, [.t 2]),
  (17, 14, proto_Size_c, [.t 2]),
  (23, 7, proto_Each_1_c, []),
  (24, 23, proto_walk_c, [.t 4]),
  (25, 42, proto_copied_c, [.c 2 11 true]),
  (26, 53, proto_limits_c, [.t 2]),
  (27, 118, proto_form_c, [.t 2]),
  (28, 60, proto_instruction_c, [.t 4]),
  (31, 8, slices_Clone_api_Instr_api_Instr_c, [.t 2]),
  (32, 8, slices_Clone_int_int_c, [.t 2]),
  (33, 8, slices_Clone_api_Value_api_Value_c, [.t 2]),
  (34, 8, slices_Clone_api_Up_api_Up_c, [.t 2]),
  (35, 8, slices_Clone_api_Var_api_Var_c, [.t 2]),
  (36, 6, proto_limits_1_c, [.t 2]),
  (37, 9, slices_ContainsFunc_api_Up_api_Up_c, [.t 4]),
  (38, 8, proto_limits_2_c, [.t 3]),
  (39, 9, slices_ContainsFunc_api_Var_api_Var_c, [.t 4]),
  (40, 8, proto_limits_3_c, [.t 3]),
  (41, 9, slices_ContainsFunc_int_int_c, [.t 4]),
  (42, 5, proto_form_1_c, [.t 2]),
  (43, 6, proto_form_2_c, [.t 2]),
  (44, 74, value_Valid_c, [.t 2]),
  (45, 85, opcode_Check_c, [.t 2]),
  (46, 88, opcode_Reads_c, [.t 2, .t 3]),
  (47, 92, opcode_Writes_c, [.t 2, .t 3]),
  (48, 17, proto_within_c, [.t 6]),
  (49, 14, opcode_Target_c, [.t 2, .t 3]),
  (50, 63, proto_refers_c, [.t 4]),
  (51, 19, slices_IndexFunc_api_Up_api_Up_c, [.t 4]),
  (52, 19, slices_IndexFunc_api_Var_api_Var_c, [.t 4]),
  (53, 19, slices_IndexFunc_int_int_c, [.t 4]),
  (54, 33, rational_Valid_c, [.t 2]),
  (55, 25, opcode_of_c, [.c 2 6 true, .t 3]),
  (56, 24, opcode_fields_c, [.c 4 4 true, .c 5 4 true]),
  (57, 29, opcode_between_c, [.t 2, .t 3]),
  (58, 53, opcode_last_c, [.t 4]),
  (59, 7, opcode_sorted_c, [.t 2]),
  (60, 23, opcode_span_c, [.t 4, .t 5]),
  (61, 8, proto_within_1_c, [.t 3]),
  (62, 22, proto_constant_c, [.t 2, .t 3]),
  (63, 12, rational_gcd_c, [.t 4]),
  (64, 106, strings_Fields_c, [.t 2]),
  (65, 75, opcode_shape_c, [.c 2 6 true]),
  (66, 11, slices_Sort_int_int_c, []),
  (67, 61, slices_Compact_int_int_c, [.t 2])]
theorem exT_ok : TabOK Tryd.prog exT := 
  (TabOK.cons scriptinglaw33_ProtoLimits_ok 
  (TabOK.cons proto_Check_ok 
  (TabOK.cons scriptinglaw33_lives_ok 
  (TabOK.cons proto_depth_ok 
  (TabOK.cons proto_Each_ok 
  (TabOK.cons proto_single_ok 
  (TabOK.cons proto_Count_ok 
  (TabOK.cons proto_Size_ok 
  (TabOK.cons proto_Each_1_ok 
  (TabOK.cons proto_walk_ok 
  (TabOK.cons proto_copied_ok 
  (TabOK.cons proto_limits_ok 
  (TabOK.cons proto_form_ok 
  (TabOK.cons proto_instruction_ok 
  (TabOK.cons slices_Clone_api_Instr_api_Instr_ok 
  (TabOK.cons slices_Clone_int_int_ok 
  (TabOK.cons slices_Clone_api_Value_api_Value_ok 
  (TabOK.cons slices_Clone_api_Up_api_Up_ok 
  (TabOK.cons slices_Clone_api_Var_api_Var_ok 
  (TabOK.cons proto_limits_1_ok 
  (TabOK.cons slices_ContainsFunc_api_Up_api_Up_ok 
  (TabOK.cons proto_limits_2_ok 
  (TabOK.cons slices_ContainsFunc_api_Var_api_Var_ok 
  (TabOK.cons proto_limits_3_ok 
  (TabOK.cons slices_ContainsFunc_int_int_ok 
  (TabOK.cons proto_form_1_ok 
  (TabOK.cons proto_form_2_ok 
  (TabOK.cons value_Valid_ok 
  (TabOK.cons opcode_Check_ok 
  (TabOK.cons opcode_Reads_ok 
  (TabOK.cons opcode_Writes_ok 
  (TabOK.cons proto_within_ok 
  (TabOK.cons opcode_Target_ok 
  (TabOK.cons proto_refers_ok 
  (TabOK.cons slices_IndexFunc_api_Up_api_Up_ok 
  (TabOK.cons slices_IndexFunc_api_Var_api_Var_ok 
  (TabOK.cons slices_IndexFunc_int_int_ok 
  (TabOK.cons rational_Valid_ok 
  (TabOK.cons opcode_of_ok 
  (TabOK.cons opcode_fields_ok 
  (TabOK.cons opcode_between_ok 
  (TabOK.cons opcode_last_ok 
  (TabOK.cons opcode_sorted_ok 
  (TabOK.cons opcode_span_ok 
  (TabOK.cons proto_within_1_ok 
  (TabOK.cons proto_constant_ok 
  (TabOK.cons rational_gcd_ok 
  (TabOK.cons strings_Fields_ok 
  (TabOK.cons opcode_shape_ok 
  (TabOK.cons slices_Sort_int_int_ok 
  (TabOK.cons slices_Compact_int_int_ok TabOK.nil)))))))))))))))))))))))))))))))))))))))))))))))))))

end Go.Proofs.YtcleahokjbeapaaDoor
