/-
  The code of the functions that this seat reaches, translated into abstract code (printed by a program, each proved to be the translation). No condition.
-/
import Derived.Test.YtkcehagdbecolaaGreatDoorExe
import Derived.Test.YtkcehagdbecolaaGreatDoorChecked
set_option maxRecDepth 1000000
namespace Go.Proofs.YtkcehagdbecolaaGreatDoor
open Go.Abs

@[go_sem] def q3_0 : List AI := [
 .j 1 (.box 30001 11 (.t 0)),
 .j 2 (.mov (.c (.bool false)))]
@[go_sem] def q3_1 : List AI := [
 .j 8 (.load 11 true (.t 1)),
 .j 9 (.call 5 [(.t 8)]),
 .j 10 (.mov (.t 9)),
 .k 11 10 false (.load 11 true (.t 1)),
 .k 12 10 false (.call 6 [(.t 11)]),
 .k 13 10 false (.bin .neq (.t 12) (.z 0)),
 .j 14 (.pick (.t 10) (.c (.bool true)) (.t 13))]
@[go_sem] def q3_2 : List AI := [
 .j 15 (.call 7 []),
 .j 2 (.mov (.t 15))]
@[go_sem] def q3_3 : List AI := [
 .j 16 (.load 11 true (.t 1)),
 .j 17 (.call 8 [(.t 16)]),
 .j 3 (.mov (.t 17))]
@[go_sem] def q3_4 : List AI := [
 .j 4 (.mov (.z 0))]
@[go_sem] def q3_5 : List AI := [
 .j 18 (.mov (.t 4)),
 .j 19 (.faddr 5 (.t 1)),
 .j 20 (.load 1 false (.t 19)),
 .j 21 (.len 0 (.t 20)),
 .j 22 (.bin .lss (.t 18) (.t 21))]
@[go_sem] def q3_6 : List AI := [
 .j 25 (.mov (.t 3)),
 .j 26 (.mov (.t 4)),
 .j 27 (.iaddr 1 (.t 25) (.t 26)),
 .j 28 (.load 1 false (.t 27)),
 .j 29 (.un .not (.t 28))]
@[go_sem] def q3_7 : List AI := [
 .j 30 (.load 11 true (.t 1)),
 .j 31 (.mov (.t 4)),
 .j 32 (.call 9 [(.t 30), (.t 31)]),
 .j 5 (.mov (.t 32))]
@[go_sem] def q3_8 : List AI := [
 .j 33 (.faddr 5 (.t 1)),
 .j 34 (.load 1 false (.t 33)),
 .j 35 (.mov (.t 4)),
 .j 36 (.iaddr 5 (.t 34) (.t 35)),
 .j 37 (.faddr 0 (.t 36)),
 .j 38 (.load 1 false (.t 37)),
 .j 6 (.mov (.t 38))]
@[go_sem] def q3_9 : List AI := [
 .j 39 (.mov (.t 5)),
 .j 40 (.len 0 (.t 39)),
 .j 41 (.bin .eql (.t 40) (.z 0)),
 .j 42 (.mov (.t 41)),
 .k 43 42 true (.mov (.t 6)),
 .k 44 42 true (.bin .neq (.t 43) (.z 18)),
 .j 45 (.pick (.t 42) (.t 44) (.c (.bool false))),
 .j 46 (.mov (.t 45)),
 .k 47 46 true (.mov (.t 6)),
 .k 48 46 true (.bin .neq (.t 47) (.z 17)),
 .j 49 (.pick (.t 46) (.t 48) (.c (.bool false)))]
@[go_sem] def q3_10 : List AI := [
 .j 2 (.mov (.c (.bool false)))]
@[go_sem] def q3_11 : List AI := [
 .j 7 (.mov (.z 0))]
@[go_sem] def q3_12 : List AI := [
 .j 50 (.mov (.t 7)),
 .j 51 (.mov (.t 5)),
 .j 52 (.len 0 (.t 51)),
 .j 53 (.bin .lss (.t 50) (.t 52))]
@[go_sem] def q3_13 : List AI := [
 .j 56 (.mov (.t 5)),
 .j 57 (.mov (.t 7)),
 .j 58 (.iaddr 1 (.t 56) (.t 57)),
 .j 59 (.load 1 false (.t 58)),
 .j 60 (.mov (.t 4)),
 .j 61 (.bin .leq (.t 59) (.t 60)),
 .j 62 (.mov (.t 61)),
 .k 63 62 true (.faddr 5 (.t 1)),
 .k 64 62 true (.load 1 false (.t 63)),
 .k 65 62 true (.mov (.t 5)),
 .k 66 62 true (.mov (.t 7)),
 .k 67 62 true (.iaddr 1 (.t 65) (.t 66)),
 .k 68 62 true (.load 1 false (.t 67)),
 .k 69 62 true (.iaddr 5 (.t 64) (.t 68)),
 .k 70 62 true (.faddr 0 (.t 69)),
 .k 71 62 true (.load 1 false (.t 70)),
 .k 72 62 true (.bin .neq (.t 71) (.z 29)),
 .j 73 (.pick (.t 62) (.t 72) (.c (.bool false)))]
@[go_sem] def q3_14 : List AI := [
 .j 2 (.mov (.c (.bool false)))]
@[go_sem] def q3_15 : List AI := [
 .j 54 (.mov (.t 7)),
 .j 55 (.bin .add (.t 54) (.z 1)),
 .j 7 (.mov (.t 55))]
@[go_sem] def scriptinglaw36_VerifyJumps_l1' : AC := .seq (.seq (.ops [q3_12]) (.cond (.t 53) (.skip) (.exit 2))) (.seq (.block 3 (.seq (.ops [q3_13]) (.cond (.t 73) (.seq (.ops [q3_14]) (.ret)) (.skip)))) (.ops [q3_15]))
def scriptinglaw36_VerifyJumps_l1 : AC := scriptinglaw36_VerifyJumps_l1'
theorem scriptinglaw36_VerifyJumps_l1_eq : scriptinglaw36_VerifyJumps_l1 = scriptinglaw36_VerifyJumps_l1' := rfl
@[go_sem] def q3_16 : List AI := [
 .j 23 (.mov (.t 4)),
 .j 24 (.bin .add (.t 23) (.z 1)),
 .j 4 (.mov (.t 24))]
@[go_sem] def scriptinglaw36_VerifyJumps_l0' : AC := .seq (.seq (.ops [q3_5]) (.cond (.t 22) (.skip) (.exit 0))) (.seq (.block 1 (.seq (.seq (.ops [q3_6]) (.cond (.t 29) (.exit 1) (.skip))) (.seq (.ops [q3_7]) (.seq (.ops [q3_8]) (.seq (.seq (.ops [q3_9]) (.cond (.t 49) (.seq (.ops [q3_10]) (.ret)) (.skip))) (.seq (.ops [q3_11]) (.block 2 (.loop scriptinglaw36_VerifyJumps_l1)))))))) (.ops [q3_16]))
def scriptinglaw36_VerifyJumps_l0 : AC := scriptinglaw36_VerifyJumps_l0'
theorem scriptinglaw36_VerifyJumps_l0_eq : scriptinglaw36_VerifyJumps_l0 = scriptinglaw36_VerifyJumps_l0' := rfl
@[go_sem] def q3_17 : List AI := [
 .j 74 (.call 7 []),
 .j 2 (.mov (.t 74))]
@[go_sem] def scriptinglaw36_VerifyJumps_c : AC := .seq (.ops [q3_0]) (.seq (.seq (.ops [q3_1]) (.cond (.t 14) (.seq (.ops [q3_2]) (.ret)) (.skip))) (.seq (.ops [q3_3]) (.seq (.seq (.ops [q3_4]) (.block 0 (.loop scriptinglaw36_VerifyJumps_l0))) (.seq (.ops [q3_17]) (.ret)))))
theorem scriptinglaw36_VerifyJumps_ok : compF Tryz.prog 3 = some (75, scriptinglaw36_VerifyJumps_c, [.t 2]) := by kernel_rfl

@[go_sem] def q4_0 : List AI := [
 .j 1 (.box 40001 11 (.t 0)),
 .j 2 (.mov (.c (.bool false)))]
@[go_sem] def q4_1 : List AI := [
 .j 11 (.load 11 true (.t 1)),
 .j 12 (.call 5 [(.t 11)]),
 .j 13 (.mov (.t 12)),
 .k 14 13 false (.load 11 true (.t 1)),
 .k 15 13 false (.call 6 [(.t 14)]),
 .k 16 13 false (.bin .neq (.t 15) (.z 0)),
 .j 17 (.pick (.t 13) (.c (.bool true)) (.t 16))]
@[go_sem] def q4_2 : List AI := [
 .j 18 (.call 7 []),
 .j 2 (.mov (.t 18))]
@[go_sem] def q4_3 : List AI := [
 .j 20 (.load 11 true (.t 1)),
 .j 21 (.call 10 [(.t 20)]),
 .j 19 (.mov (.t 21)),
 .j 22 (.ext 0 (.t 19)),
 .j 23 (.ext 1 (.t 19)),
 .j 3 (.mov (.t 22)),
 .j 4 (.mov (.t 23))]
@[go_sem] def q4_4 : List AI := [
 .j 24 (.mov (.t 4)),
 .j 25 (.bin .neq (.t 24) (.z 0)),
 .j 26 (.mov (.t 25)),
 .k 27 26 false (.mov (.t 3)),
 .k 28 26 false (.len 0 (.t 27)),
 .k 29 26 false (.faddr 5 (.t 1)),
 .k 30 26 false (.load 1 false (.t 29)),
 .k 31 26 false (.len 0 (.t 30)),
 .k 32 26 false (.bin .neq (.t 28) (.t 31)),
 .j 33 (.pick (.t 26) (.c (.bool true)) (.t 32))]
@[go_sem] def q4_5 : List AI := [
 .j 2 (.mov (.c (.bool false)))]
@[go_sem] def q4_6 : List AI := [
 .j 5 (.mov (.z 0))]
@[go_sem] def q4_7 : List AI := [
 .j 34 (.mov (.t 5)),
 .j 35 (.mov (.t 3)),
 .j 36 (.len 0 (.t 35)),
 .j 37 (.bin .lss (.t 34) (.t 36))]
@[go_sem] def q4_8 : List AI := [
 .j 40 (.mov (.t 3)),
 .j 41 (.mov (.t 5)),
 .j 42 (.iaddr 3 (.t 40) (.t 41)),
 .j 43 (.load 3 true (.t 42)),
 .j 6 (.box 40006 3 (.c (.agg [.nils, (.int .i64 0), .nils]))),
 .e (.store 3 (.t 6) (.t 43))]
@[go_sem] def q4_9 : List AI := [
 .j 44 (.faddr 0 (.t 6)),
 .j 45 (.load 1 false (.t 44)),
 .j 46 (.len 0 (.t 45)),
 .j 47 (.faddr 4 (.t 1)),
 .j 48 (.load 1 false (.t 47)),
 .j 49 (.bin .neq (.t 46) (.t 48))]
@[go_sem] def q4_10 : List AI := [
 .j 50 (.faddr 0 (.t 6)),
 .j 51 (.load 1 false (.t 50)),
 .j 52 (.len 0 (.t 51)),
 .j 53 (.bin .neq (.t 52) (.z 0))]
@[go_sem] def q4_11 : List AI := [
 .j 2 (.mov (.c (.bool false)))]
@[go_sem] def q4_12 : List AI := [
 .j 55 (.faddr 5 (.t 1)),
 .j 56 (.load 1 false (.t 55)),
 .j 57 (.mov (.t 5)),
 .j 58 (.iaddr 5 (.t 56) (.t 57)),
 .j 59 (.load 5 true (.t 58)),
 .j 60 (.call 11 [(.t 59)]),
 .j 54 (.mov (.t 60)),
 .j 61 (.ext 0 (.t 54)),
 .j 62 (.ext 1 (.t 54)),
 .j 7 (.mov (.t 61)),
 .j 8 (.mov (.t 62))]
@[go_sem] def q4_13 : List AI := [
 .j 9 (.mov (.z 0))]
@[go_sem] def q4_14 : List AI := [
 .j 63 (.mov (.t 9)),
 .j 64 (.mov (.t 7)),
 .j 65 (.len 0 (.t 64)),
 .j 66 (.bin .lss (.t 63) (.t 65))]
@[go_sem] def q4_15 : List AI := [
 .j 69 (.mov (.t 7)),
 .j 70 (.mov (.t 9)),
 .j 71 (.iaddr 1 (.t 69) (.t 70)),
 .j 72 (.load 1 false (.t 71)),
 .j 73 (.faddr 0 (.t 6)),
 .j 74 (.load 1 false (.t 73)),
 .j 75 (.len 0 (.t 74)),
 .j 76 (.bin .geq (.t 72) (.t 75)),
 .j 77 (.mov (.t 76)),
 .k 78 77 false (.faddr 0 (.t 6)),
 .k 79 77 false (.load 1 false (.t 78)),
 .k 80 77 false (.mov (.t 7)),
 .k 81 77 false (.mov (.t 9)),
 .k 82 77 false (.iaddr 1 (.t 80) (.t 81)),
 .k 83 77 false (.load 1 false (.t 82)),
 .k 84 77 false (.iaddr 1 (.t 79) (.t 83)),
 .k 85 77 false (.load 1 false (.t 84)),
 .k 86 77 false (.un .not (.t 85)),
 .j 87 (.pick (.t 77) (.c (.bool true)) (.t 86))]
@[go_sem] def q4_16 : List AI := [
 .j 2 (.mov (.c (.bool false)))]
@[go_sem] def q4_17 : List AI := [
 .j 67 (.mov (.t 9)),
 .j 68 (.bin .add (.t 67) (.z 1)),
 .j 9 (.mov (.t 68))]
@[go_sem] def scriptinglaw36_VerifyReads_l1' : AC := .seq (.seq (.ops [q4_14]) (.cond (.t 66) (.skip) (.exit 2))) (.seq (.block 3 (.seq (.ops [q4_15]) (.cond (.t 87) (.seq (.ops [q4_16]) (.ret)) (.skip)))) (.ops [q4_17]))
def scriptinglaw36_VerifyReads_l1 : AC := scriptinglaw36_VerifyReads_l1'
theorem scriptinglaw36_VerifyReads_l1_eq : scriptinglaw36_VerifyReads_l1 = scriptinglaw36_VerifyReads_l1' := rfl
@[go_sem] def q4_18 : List AI := [
 .j 88 (.mov (.t 8)),
 .j 89 (.bin .geq (.t 88) (.z 0)),
 .j 90 (.faddr 1 (.t 6)),
 .j 91 (.load 1 false (.t 90)),
 .j 92 (.bin .geq (.t 91) (.z 0)),
 .j 93 (.eqp 2 true (.t 89) (.t 92)),
 .j 94 (.mov (.t 93)),
 .k 95 94 true (.faddr 4 (.t 1)),
 .k 96 94 true (.load 1 false (.t 95)),
 .k 97 94 true (.bin .gtr (.t 96) (.z 0)),
 .j 98 (.pick (.t 94) (.t 97) (.c (.bool false)))]
@[go_sem] def q4_19 : List AI := [
 .j 2 (.mov (.c (.bool false)))]
@[go_sem] def q4_20 : List AI := [
 .j 99 (.mov (.t 8)),
 .j 10 (.mov (.t 99))]
@[go_sem] def q4_21 : List AI := [
 .j 100 (.mov (.t 10)),
 .j 101 (.bin .geq (.t 100) (.z 0)),
 .j 102 (.mov (.t 101)),
 .k 103 102 true (.mov (.t 10)),
 .k 104 102 true (.faddr 1 (.t 6)),
 .k 105 102 true (.load 1 false (.t 104)),
 .k 106 102 true (.bin .lss (.t 103) (.t 105)),
 .j 107 (.pick (.t 102) (.t 106) (.c (.bool false)))]
@[go_sem] def q4_22 : List AI := [
 .j 110 (.mov (.t 10)),
 .j 111 (.faddr 0 (.t 6)),
 .j 112 (.load 1 false (.t 111)),
 .j 113 (.len 0 (.t 112)),
 .j 114 (.bin .geq (.t 110) (.t 113)),
 .j 115 (.mov (.t 114)),
 .k 116 115 false (.faddr 0 (.t 6)),
 .k 117 115 false (.load 1 false (.t 116)),
 .k 118 115 false (.mov (.t 10)),
 .k 119 115 false (.iaddr 1 (.t 117) (.t 118)),
 .k 120 115 false (.load 1 false (.t 119)),
 .k 121 115 false (.un .not (.t 120)),
 .j 122 (.pick (.t 115) (.c (.bool true)) (.t 121))]
@[go_sem] def q4_23 : List AI := [
 .j 2 (.mov (.c (.bool false)))]
@[go_sem] def q4_24 : List AI := [
 .j 108 (.mov (.t 10)),
 .j 109 (.bin .add (.t 108) (.z 1)),
 .j 10 (.mov (.t 109))]
@[go_sem] def scriptinglaw36_VerifyReads_l2' : AC := .seq (.seq (.ops [q4_21]) (.cond (.t 107) (.skip) (.exit 4))) (.seq (.block 5 (.seq (.ops [q4_22]) (.cond (.t 122) (.seq (.ops [q4_23]) (.ret)) (.skip)))) (.ops [q4_24]))
def scriptinglaw36_VerifyReads_l2 : AC := scriptinglaw36_VerifyReads_l2'
theorem scriptinglaw36_VerifyReads_l2_eq : scriptinglaw36_VerifyReads_l2 = scriptinglaw36_VerifyReads_l2' := rfl
@[go_sem] def q4_25 : List AI := [
 .j 38 (.mov (.t 5)),
 .j 39 (.bin .add (.t 38) (.z 1)),
 .j 5 (.mov (.t 39))]
@[go_sem] def scriptinglaw36_VerifyReads_l0' : AC := .seq (.seq (.ops [q4_7]) (.cond (.t 37) (.skip) (.exit 0))) (.seq (.block 1 (.seq (.ops [q4_8]) (.seq (.seq (.ops [q4_9]) (.cond (.t 49) (.seq (.seq (.ops [q4_10]) (.cond (.t 53) (.seq (.ops [q4_11]) (.ret)) (.skip))) (.exit 1)) (.skip))) (.seq (.ops [q4_12]) (.seq (.seq (.ops [q4_13]) (.block 2 (.loop scriptinglaw36_VerifyReads_l1))) (.seq (.seq (.ops [q4_18]) (.cond (.t 98) (.seq (.ops [q4_19]) (.ret)) (.skip))) (.seq (.ops [q4_20]) (.block 4 (.loop scriptinglaw36_VerifyReads_l2))))))))) (.ops [q4_25]))
def scriptinglaw36_VerifyReads_l0 : AC := scriptinglaw36_VerifyReads_l0'
theorem scriptinglaw36_VerifyReads_l0_eq : scriptinglaw36_VerifyReads_l0 = scriptinglaw36_VerifyReads_l0' := rfl
@[go_sem] def q4_26 : List AI := [
 .j 123 (.call 7 []),
 .j 2 (.mov (.t 123))]
@[go_sem] def scriptinglaw36_VerifyReads_c : AC := .seq (.ops [q4_0]) (.seq (.seq (.ops [q4_1]) (.cond (.t 17) (.seq (.ops [q4_2]) (.ret)) (.skip))) (.seq (.ops [q4_3]) (.seq (.seq (.ops [q4_4]) (.cond (.t 33) (.seq (.ops [q4_5]) (.ret)) (.skip))) (.seq (.seq (.ops [q4_6]) (.block 0 (.loop scriptinglaw36_VerifyReads_l0))) (.seq (.ops [q4_26]) (.ret))))))
theorem scriptinglaw36_VerifyReads_ok : compF Tryz.prog 4 = some (124, scriptinglaw36_VerifyReads_c, [.t 2]) := by kernel_rfl

@[go_sem] def q5_0 : List AI := [
 .j 1 (.box 50001 11 (.t 0)),
 .j 2 (.mov (.c (.bool false)))]
@[go_sem] def q5_1 : List AI := [
 .j 3 (.load 11 true (.t 1)),
 .j 4 (.call 12 [(.t 3)]),
 .j 5 (.mov (.t 4)),
 .k 6 5 false (.faddr 4 (.t 1)),
 .k 7 5 false (.load 1 false (.t 6)),
 .k 8 5 false (.bin .gtr (.t 7) (.z 60)),
 .j 9 (.pick (.t 5) (.c (.bool true)) (.t 8)),
 .j 2 (.mov (.t 9))]
@[go_sem] def scriptinglaw36_large_c : AC := .seq (.ops [q5_0]) (.seq (.ops [q5_1]) (.ret))
theorem scriptinglaw36_large_ok : compF Tryz.prog 5 = some (10, scriptinglaw36_large_c, [.t 2]) := by kernel_rfl

@[go_sem] def q6_0 : List AI := [
 .j 1 (.box 60001 11 (.t 0)),
 .j 2 (.mov (.z 0))]
@[go_sem] def q6_1 : List AI := [
 .j 7 (.load 11 true (.t 1)),
 .j 8 (.call 13 [(.t 7)]),
 .j 6 (.mov (.t 8)),
 .j 9 (.ext 0 (.t 6)),
 .j 10 (.ext 1 (.t 6)),
 .j 11 (.ext 2 (.t 6)),
 .j 3 (.mov (.t 9)),
 .j 4 (.mov (.t 10)),
 .j 5 (.mov (.t 11))]
@[go_sem] def q6_2 : List AI := [
 .j 12 (.mov (.t 5)),
 .j 2 (.mov (.t 12))]
@[go_sem] def verify_Check_c : AC := .seq (.ops [q6_0]) (.seq (.ops [q6_1]) (.seq (.ops [q6_2]) (.ret)))
theorem verify_Check_ok : compF Tryz.prog 6 = some (13, verify_Check_c, [.t 2]) := by kernel_rfl

@[go_sem] def q7_0 : List AI := [
 .j 0 (.mov (.c (.bool false)))]
@[go_sem] def q7_1 : List AI := [
 .j 3 (.build [(.int .i64 0), (.int .i64 0), (.int .i64 0), (.int .i64 0), (.int .i64 0)] [(0, 1, (.z 18)), (2, 1, (.z 1))]),
 .j 4 (.mkrow 70004 5 [(.t 3)]),
 .j 5 (.build [(.str []), (.int .i64 0), (.int .i64 0), (.bool false), (.int .i64 0), .nils, .nils, .nils, .nils, .nils, .nils] [(4, 1, (.z 1)), (5, 1, (.t 4))]),
 .j 1 (.box 70001 11 (.c (.agg [(.str []), (.int .i64 0), (.int .i64 0), (.bool false), (.int .i64 0), .nils, .nils, .nils, .nils, .nils, .nils]))),
 .e (.store 11 (.t 1) (.t 5))]
@[go_sem] def q7_2 : List AI := [
 .j 6 (.build [(.int .i64 0), (.int .i64 0), (.int .i64 0), (.int .i64 0), (.int .i64 0)] [(0, 1, (.z 3))]),
 .j 7 (.build [(.int .i64 0), (.int .i64 0), (.int .i64 0), (.int .i64 0), (.int .i64 0)] [(0, 1, (.z 18)), (2, 1, (.z 1))]),
 .j 8 (.mkrow 70008 5 [(.t 6), (.t 7)]),
 .j 9 (.build [(.str []), (.int .i64 0), (.int .i64 0), (.bool false), (.int .i64 0), .nils, .nils, .nils, .nils, .nils, .nils] [(4, 1, (.z 1)), (5, 1, (.t 8))]),
 .j 2 (.box 70002 11 (.c (.agg [(.str []), (.int .i64 0), (.int .i64 0), (.bool false), (.int .i64 0), .nils, .nils, .nils, .nils, .nils, .nils]))),
 .e (.store 11 (.t 2) (.t 9))]
@[go_sem] def q7_3 : List AI := [
 .j 10 (.load 11 true (.t 1)),
 .j 11 (.call 6 [(.t 10)]),
 .j 12 (.bin .eql (.t 11) (.z 21)),
 .j 13 (.mov (.t 12)),
 .k 14 13 true (.load 11 true (.t 2)),
 .k 15 13 true (.call 6 [(.t 14)]),
 .k 16 13 true (.bin .eql (.t 15) (.z 0)),
 .j 17 (.pick (.t 13) (.t 16) (.c (.bool false))),
 .j 0 (.mov (.t 17))]
@[go_sem] def scriptinglaw36_lives_c : AC := .seq (.ops [q7_0]) (.seq (.ops [q7_1]) (.seq (.ops [q7_2]) (.seq (.ops [q7_3]) (.ret))))
theorem scriptinglaw36_lives_ok : compF Tryz.prog 7 = some (18, scriptinglaw36_lives_c, [.t 0]) := by kernel_rfl

@[go_sem] def q8_0 : List AI := [
 .j 1 (.box 80001 11 (.t 0)),
 .j 2 (.mov (.c .nils))]
@[go_sem] def q8_1 : List AI := [
 .j 8 (.faddr 5 (.t 1)),
 .j 9 (.load 1 false (.t 8)),
 .j 10 (.len 0 (.t 9)),
 .j 11 (.mksl 80011 [(.bool false)] (.t 10)),
 .j 3 (.mov (.t 11))]
@[go_sem] def q8_2 : List AI := [
 .j 12 (.mkrow 80012 1 []),
 .j 4 (.mov (.t 12))]
@[go_sem] def q8_3 : List AI := [
 .j 13 (.mov (.t 3)),
 .j 14 (.len 0 (.t 13)),
 .j 15 (.bin .gtr (.t 14) (.z 0))]
@[go_sem] def q8_4 : List AI := [
 .j 16 (.mov (.t 3)),
 .j 17 (.iaddr 1 (.t 16) (.z 0)),
 .e (.store 1 (.t 17) (.c (.bool true)))]
@[go_sem] def q8_5 : List AI := [
 .j 18 (.mov (.t 4)),
 .j 19 (.mkisl 1 [(.z 0)]),
 .j 20 (.app 80020 1 (.t 18) (.t 19)),
 .j 4 (.mov (.t 20))]
@[go_sem] def q8_6 : List AI := [
 .j 21 (.mov (.t 4)),
 .j 22 (.len 0 (.t 21)),
 .j 23 (.bin .gtr (.t 22) (.z 0))]
@[go_sem] def q8_7 : List AI := [
 .j 24 (.mov (.t 4)),
 .j 25 (.mov (.t 4)),
 .j 26 (.len 0 (.t 25)),
 .j 27 (.bin .sub (.t 26) (.z 1)),
 .j 28 (.iaddr 1 (.t 24) (.t 27)),
 .j 29 (.load 1 false (.t 28)),
 .j 5 (.mov (.t 29))]
@[go_sem] def q8_8 : List AI := [
 .j 30 (.mov (.t 4)),
 .j 31 (.mov (.t 4)),
 .j 32 (.len 0 (.t 31)),
 .j 33 (.bin .sub (.t 32) (.z 1)),
 .j 34 (.slc 1 (.t 30) none (some (.t 33))),
 .j 4 (.mov (.t 34))]
@[go_sem] def q8_9 : List AI := [
 .j 35 (.load 11 true (.t 1)),
 .j 36 (.mov (.t 5)),
 .j 37 (.call 9 [(.t 35), (.t 36)]),
 .j 6 (.mov (.t 37))]
@[go_sem] def q8_10 : List AI := [
 .j 7 (.mov (.z 0))]
@[go_sem] def q8_11 : List AI := [
 .j 38 (.mov (.t 7)),
 .j 39 (.mov (.t 6)),
 .j 40 (.len 0 (.t 39)),
 .j 41 (.bin .lss (.t 38) (.t 40))]
@[go_sem] def q8_12 : List AI := [
 .j 44 (.mov (.t 3)),
 .j 45 (.mov (.t 6)),
 .j 46 (.mov (.t 7)),
 .j 47 (.iaddr 1 (.t 45) (.t 46)),
 .j 48 (.load 1 false (.t 47)),
 .j 49 (.iaddr 1 (.t 44) (.t 48)),
 .j 50 (.load 1 false (.t 49)),
 .j 51 (.un .not (.t 50))]
@[go_sem] def q8_13 : List AI := [
 .j 52 (.mov (.t 3)),
 .j 53 (.mov (.t 6)),
 .j 54 (.mov (.t 7)),
 .j 55 (.iaddr 1 (.t 53) (.t 54)),
 .j 56 (.load 1 false (.t 55)),
 .j 57 (.iaddr 1 (.t 52) (.t 56)),
 .e (.store 1 (.t 57) (.c (.bool true)))]
@[go_sem] def q8_14 : List AI := [
 .j 58 (.mov (.t 4)),
 .j 59 (.mov (.t 6)),
 .j 60 (.mov (.t 7)),
 .j 61 (.iaddr 1 (.t 59) (.t 60)),
 .j 62 (.load 1 false (.t 61)),
 .j 63 (.mkisl 1 [(.t 62)]),
 .j 64 (.app 80064 1 (.t 58) (.t 63)),
 .j 4 (.mov (.t 64))]
@[go_sem] def q8_15 : List AI := [
 .j 42 (.mov (.t 7)),
 .j 43 (.bin .add (.t 42) (.z 1)),
 .j 7 (.mov (.t 43))]
@[go_sem] def scriptingref35_Reach_l1' : AC := .seq (.seq (.ops [q8_11]) (.cond (.t 41) (.skip) (.exit 2))) (.seq (.block 3 (.seq (.ops [q8_12]) (.cond (.t 51) (.seq (.ops [q8_13]) (.ops [q8_14])) (.skip)))) (.ops [q8_15]))
def scriptingref35_Reach_l1 : AC := scriptingref35_Reach_l1'
theorem scriptingref35_Reach_l1_eq : scriptingref35_Reach_l1 = scriptingref35_Reach_l1' := rfl
@[go_sem] def scriptingref35_Reach_l0' : AC := .seq (.seq (.ops [q8_6]) (.cond (.t 23) (.skip) (.exit 0))) (.block 1 (.seq (.ops [q8_7]) (.seq (.ops [q8_8]) (.seq (.ops [q8_9]) (.seq (.ops [q8_10]) (.block 2 (.loop scriptingref35_Reach_l1)))))))
def scriptingref35_Reach_l0 : AC := scriptingref35_Reach_l0'
theorem scriptingref35_Reach_l0_eq : scriptingref35_Reach_l0 = scriptingref35_Reach_l0' := rfl
@[go_sem] def q8_16 : List AI := [
 .j 65 (.mov (.t 3)),
 .j 2 (.mov (.t 65))]
@[go_sem] def scriptingref35_Reach_c : AC := .seq (.ops [q8_0]) (.seq (.ops [q8_1]) (.seq (.ops [q8_2]) (.seq (.seq (.ops [q8_3]) (.cond (.t 15) (.seq (.ops [q8_4]) (.ops [q8_5])) (.skip))) (.seq (.block 0 (.loop scriptingref35_Reach_l0)) (.seq (.ops [q8_16]) (.ret))))))
theorem scriptingref35_Reach_ok : compF Tryz.prog 8 = some (66, scriptingref35_Reach_c, [.t 2]) := by kernel_rfl

@[go_sem] def q9_0 : List AI := [
 .j 2 (.box 90002 11 (.t 0)),
 .j 4 (.mov (.c .nils))]
@[go_sem] def q9_1 : List AI := [
 .j 8 (.mkrow 90008 1 []),
 .j 5 (.mov (.t 8))]
@[go_sem] def q9_2 : List AI := [
 .j 9 (.mov (.t 1)),
 .j 10 (.bin .lss (.t 9) (.z 0)),
 .j 11 (.mov (.t 10)),
 .k 12 11 false (.mov (.t 1)),
 .k 13 11 false (.faddr 5 (.t 2)),
 .k 14 11 false (.load 1 false (.t 13)),
 .k 15 11 false (.len 0 (.t 14)),
 .k 16 11 false (.bin .geq (.t 12) (.t 15)),
 .j 17 (.pick (.t 11) (.c (.bool true)) (.t 16))]
@[go_sem] def q9_3 : List AI := [
 .j 18 (.mov (.t 5)),
 .j 4 (.mov (.t 18))]
@[go_sem] def q9_4 : List AI := [
 .j 20 (.faddr 5 (.t 2)),
 .j 21 (.load 1 false (.t 20)),
 .j 22 (.mov (.t 1)),
 .j 23 (.iaddr 5 (.t 21) (.t 22)),
 .j 24 (.load 5 true (.t 23)),
 .j 25 (.call 14 [(.t 24)]),
 .j 19 (.mov (.t 25)),
 .j 26 (.ext 0 (.t 19)),
 .j 27 (.ext 1 (.t 19)),
 .j 6 (.mov (.t 26)),
 .j 7 (.mov (.t 27))]
@[go_sem] def q9_5 : List AI := [
 .j 28 (.mov (.t 7)),
 .j 29 (.mov (.t 28)),
 .k 30 29 true (.mov (.t 6)),
 .k 31 29 true (.bin .geq (.t 30) (.z 0)),
 .j 32 (.pick (.t 29) (.t 31) (.c (.bool false))),
 .j 33 (.mov (.t 32)),
 .k 34 33 true (.mov (.t 6)),
 .k 35 33 true (.faddr 5 (.t 2)),
 .k 36 33 true (.load 1 false (.t 35)),
 .k 37 33 true (.len 0 (.t 36)),
 .k 38 33 true (.bin .lss (.t 34) (.t 37)),
 .j 39 (.pick (.t 33) (.t 38) (.c (.bool false)))]
@[go_sem] def q9_6 : List AI := [
 .j 40 (.mov (.t 5)),
 .j 41 (.mov (.t 6)),
 .j 42 (.mkisl 1 [(.t 41)]),
 .j 43 (.app 90043 1 (.t 40) (.t 42)),
 .j 5 (.mov (.t 43))]
@[go_sem] def q9_7 : List AI := [
 .j 44 (.faddr 5 (.t 2)),
 .j 45 (.load 1 false (.t 44)),
 .j 46 (.mov (.t 1)),
 .j 47 (.iaddr 5 (.t 45) (.t 46)),
 .j 48 (.load 5 true (.t 47)),
 .j 49 (.call 15 [(.t 48)]),
 .j 50 (.mov (.t 49)),
 .k 51 50 true (.mov (.t 1)),
 .k 52 50 true (.bin .add (.t 51) (.z 1)),
 .k 53 50 true (.faddr 5 (.t 2)),
 .k 54 50 true (.load 1 false (.t 53)),
 .k 55 50 true (.len 0 (.t 54)),
 .k 56 50 true (.bin .lss (.t 52) (.t 55)),
 .j 57 (.pick (.t 50) (.t 56) (.c (.bool false)))]
@[go_sem] def q9_8 : List AI := [
 .j 58 (.mov (.t 5)),
 .j 59 (.mov (.t 1)),
 .j 60 (.bin .add (.t 59) (.z 1)),
 .j 61 (.call 16 [(.t 58), (.t 60)]),
 .j 5 (.mov (.t 61))]
@[go_sem] def q9_9 : List AI := [
 .j 62 (.mov (.t 5)),
 .j 4 (.mov (.t 62))]
@[go_sem] def scriptingref35_Next_c : AC := .seq (.ops [q9_0]) (.seq (.ops [q9_1]) (.seq (.seq (.ops [q9_2]) (.cond (.t 17) (.seq (.ops [q9_3]) (.ret)) (.skip))) (.seq (.ops [q9_4]) (.seq (.seq (.ops [q9_5]) (.cond (.t 39) (.ops [q9_6]) (.skip))) (.seq (.seq (.ops [q9_7]) (.cond (.t 57) (.ops [q9_8]) (.skip))) (.seq (.ops [q9_9]) (.ret)))))))
theorem scriptingref35_Next_ok : compF Tryz.prog 9 = some (63, scriptingref35_Next_c, [.t 4]) := by kernel_rfl

@[go_sem] def q10_0 : List AI := [
 .j 1 (.box 100001 11 (.t 0)),
 .j 2 (.mov (.c .nils)),
 .j 3 (.mov (.z 0))]
@[go_sem] def q10_1 : List AI := [
 .j 10 (.load 11 true (.t 1)),
 .j 11 (.call 17 [(.t 10)]),
 .j 4 (.mov (.t 11))]
@[go_sem] def q10_2 : List AI := [
 .j 12 (.mov (.t 4)),
 .j 13 (.bin .neq (.t 12) (.z 0))]
@[go_sem] def q10_3 : List AI := [
 .j 14 (.mov (.t 4)),
 .j 2 (.mov (.c .nils)),
 .j 3 (.mov (.t 14))]
@[go_sem] def q10_4_0 : List AI := [
 .j 15 (.load 11 true (.t 1)),
 .j 16 (.load 11 true (.t 1)),
 .j 17 (.call 19 [(.t 16)]),
 .j 18 (.call 18 [(.t 15), (.t 17)]),
 .j 5 (.mov (.t 18))]
@[go_sem] def q10_4_1 : List AI := [
 .j 16 (.load 11 true (.t 1)),
 .j 17 (.call 19 [(.t 16)]),
 .j 15 (.load 11 true (.t 1)),
 .j 18 (.call 18 [(.t 15), (.t 17)]),
 .j 5 (.mov (.t 18))]
@[go_sem] def q10_5 : List AI := [
 .j 19 (.faddr 5 (.t 1)),
 .j 20 (.load 1 false (.t 19)),
 .j 21 (.len 0 (.t 20)),
 .j 22 (.mksl 100022 [.nils, (.int .i64 0), .nils] (.t 21)),
 .j 6 (.mov (.t 22))]
@[go_sem] def q10_6 : List AI := [
 .j 23 (.mov (.t 6)),
 .j 24 (.len 0 (.t 23)),
 .j 25 (.mov (.z 0))]
@[go_sem] def q10_7 : List AI := [
 .j 26 (.bin .lss (.t 25) (.t 24))]
@[go_sem] def q10_8 : List AI := [
 .j 27 (.mov (.t 25)),
 .j 7 (.mov (.t 27))]
@[go_sem] def q10_9 : List AI := [
 .j 29 (.mov (.t 5)),
 .j 30 (.mov (.t 7)),
 .j 31 (.look 0 (.agg [.nils, (.int .i64 0), .nils]) true (.t 29) (.t 30)),
 .j 28 (.mov (.t 31)),
 .j 32 (.ext 0 (.t 28)),
 .j 33 (.ext 1 (.t 28)),
 .j 8 (.box 100008 3 (.c (.agg [.nils, (.int .i64 0), .nils]))),
 .e (.store 3 (.t 8) (.t 32)),
 .j 9 (.mov (.t 33))]
@[go_sem] def q10_10 : List AI := [
 .j 34 (.mov (.t 9))]
@[go_sem] def q10_11 : List AI := [
 .j 35 (.mov (.t 6)),
 .j 36 (.mov (.t 7)),
 .j 37 (.load 3 true (.t 8)),
 .j 38 (.iaddr 3 (.t 35) (.t 36)),
 .e (.store 3 (.t 38) (.t 37))]
@[go_sem] def q10_12 : List AI := [
 .j 39 (.bin .add (.t 25) (.z 1)),
 .j 25 (.mov (.t 39))]
@[go_sem] def verify_States_l0' : AC := .seq (.ops [q10_7]) (.seq (.cond (.t 26) (.skip) (.exit 0)) (.seq (.block 1 (.seq (.ops [q10_8]) (.seq (.ops [q10_9]) (.seq (.ops [q10_10]) (.cond (.t 34) (.ops [q10_11]) (.skip)))))) (.ops [q10_12])))
def verify_States_l0 : AC := verify_States_l0'
theorem verify_States_l0_eq : verify_States_l0 = verify_States_l0' := rfl
@[go_sem] def q10_13 : List AI := [
 .j 40 (.mov (.t 6)),
 .j 2 (.mov (.t 40)),
 .j 3 (.mov (.z 0))]
@[go_sem] def verify_States_c : AC := .seq (.ops [q10_0]) (.seq (.seq (.ops [q10_1]) (.seq (.ops [q10_2]) (.cond (.t 13) (.seq (.ops [q10_3]) (.ret)) (.skip)))) (.seq (.ops [q10_4_0, q10_4_1]) (.seq (.ops [q10_5]) (.seq (.seq (.ops [q10_6]) (.block 0 (.loop verify_States_l0))) (.seq (.ops [q10_13]) (.ret))))))
theorem verify_States_ok : compF Tryz.prog 10 = some (41, verify_States_c, [.t 2, .t 3]) := by kernel_rfl

@[go_sem] def q11_0 : List AI := [
 .j 1 (.box 110001 5 (.t 0)),
 .j 2 (.mov (.c .nils)),
 .j 3 (.mov (.z 0))]
@[go_sem] def q11_1 : List AI := [
 .j 4 (.load 5 true (.t 1)),
 .j 5 (.call 20 [(.t 4)]),
 .j 6 (.bin .neq (.t 5) (.z 0))]
@[go_sem] def q11_2 : List AI := [
 .j 2 (.mov (.c .nils)),
 .j 3 (.mov (.z (-1)))]
@[go_sem] def q11_3 : List AI := [
 .j 7 (.faddr 0 (.t 1)),
 .j 8 (.load 1 false (.t 7))]
@[go_sem] def q11_4 : List AI := [
 .j 10 (.bin .eql (.t 8) (.z 1)),
 .j 9 (.mov (.t 10))]
@[go_sem] def q11_5 : List AI := [
 .j 11 (.bin .eql (.t 8) (.z 6)),
 .j 9 (.mov (.t 11))]
@[go_sem] def q11_6 : List AI := [
 .j 12 (.bin .eql (.t 8) (.z 8)),
 .j 9 (.mov (.t 12))]
@[go_sem] def q11_7 : List AI := [
 .j 13 (.bin .eql (.t 8) (.z 11)),
 .j 9 (.mov (.t 13))]
@[go_sem] def q11_8 : List AI := [
 .j 14 (.bin .eql (.t 8) (.z 12)),
 .j 9 (.mov (.t 14))]
@[go_sem] def q11_9 : List AI := [
 .j 15 (.faddr 2 (.t 1)),
 .j 16 (.load 1 false (.t 15)),
 .j 17 (.mkrow 110017 1 [(.t 16)]),
 .j 18 (.call 21 [(.t 17)]),
 .j 2 (.mov (.t 18)),
 .j 3 (.mov (.z (-1)))]
@[go_sem] def q11_10 : List AI := [
 .j 20 (.bin .eql (.t 8) (.z 9)),
 .j 19 (.mov (.t 20))]
@[go_sem] def q11_11 : List AI := [
 .j 21 (.bin .eql (.t 8) (.z 13)),
 .j 19 (.mov (.t 21))]
@[go_sem] def q11_12 : List AI := [
 .j 22 (.faddr 2 (.t 1)),
 .j 23 (.load 1 false (.t 22)),
 .j 24 (.faddr 3 (.t 1)),
 .j 25 (.load 1 false (.t 24)),
 .j 26 (.mkrow 110026 1 [(.t 23), (.t 25)]),
 .j 27 (.call 21 [(.t 26)]),
 .j 2 (.mov (.t 27)),
 .j 3 (.mov (.z (-1)))]
@[go_sem] def q11_13 : List AI := [
 .j 29 (.bin .eql (.t 8) (.z 10)),
 .j 28 (.mov (.t 29))]
@[go_sem] def q11_14 : List AI := [
 .j 30 (.faddr 1 (.t 1)),
 .j 31 (.load 1 false (.t 30)),
 .j 32 (.faddr 2 (.t 1)),
 .j 33 (.load 1 false (.t 32)),
 .j 34 (.faddr 3 (.t 1)),
 .j 35 (.load 1 false (.t 34)),
 .j 36 (.mkrow 110036 1 [(.t 31), (.t 33), (.t 35)]),
 .j 37 (.call 21 [(.t 36)]),
 .j 2 (.mov (.t 37)),
 .j 3 (.mov (.z (-1)))]
@[go_sem] def q11_15 : List AI := [
 .j 39 (.bin .eql (.t 8) (.z 15)),
 .j 38 (.mov (.t 39))]
@[go_sem] def q11_16 : List AI := [
 .j 40 (.bin .eql (.t 8) (.z 28)),
 .j 38 (.mov (.t 40))]
@[go_sem] def q11_17 : List AI := [
 .j 41 (.faddr 1 (.t 1)),
 .j 42 (.load 1 false (.t 41)),
 .j 43 (.mkrow 110043 1 [(.t 42)]),
 .j 44 (.call 21 [(.t 43)]),
 .j 2 (.mov (.t 44)),
 .j 3 (.mov (.z (-1)))]
@[go_sem] def q11_18 : List AI := [
 .j 46 (.bin .eql (.t 8) (.z 16)),
 .j 45 (.mov (.t 46))]
@[go_sem] def q11_19 : List AI := [
 .j 47 (.bin .eql (.t 8) (.z 17)),
 .j 45 (.mov (.t 47))]
@[go_sem] def q11_20 : List AI := [
 .j 48 (.bin .eql (.t 8) (.z 21)),
 .j 45 (.mov (.t 48))]
@[go_sem] def q11_21 : List AI := [
 .j 49 (.faddr 1 (.t 1)),
 .j 50 (.load 1 false (.t 49)),
 .j 51 (.mkrow 110051 1 [(.t 50)]),
 .j 52 (.faddr 1 (.t 1)),
 .j 53 (.load 1 false (.t 52)),
 .j 54 (.bin .add (.t 53) (.z 1)),
 .j 55 (.faddr 2 (.t 1)),
 .j 56 (.load 1 false (.t 55)),
 .j 57 (.call 22 [(.t 51), (.t 54), (.t 56)]),
 .j 58 (.ext 0 (.t 57)),
 .j 59 (.ext 1 (.t 57)),
 .j 2 (.mov (.t 58)),
 .j 3 (.mov (.t 59))]
@[go_sem] def q11_22 : List AI := [
 .j 61 (.bin .eql (.t 8) (.z 18)),
 .j 60 (.mov (.t 61))]
@[go_sem] def q11_23 : List AI := [
 .j 62 (.faddr 1 (.t 1)),
 .j 63 (.load 1 false (.t 62)),
 .j 64 (.faddr 2 (.t 1)),
 .j 65 (.load 1 false (.t 64)),
 .j 66 (.call 22 [(.c .nils), (.t 63), (.t 65)]),
 .j 67 (.ext 0 (.t 66)),
 .j 68 (.ext 1 (.t 66)),
 .j 2 (.mov (.t 67)),
 .j 3 (.mov (.t 68))]
@[go_sem] def q11_24 : List AI := [
 .j 70 (.bin .eql (.t 8) (.z 23)),
 .j 69 (.mov (.t 70))]
@[go_sem] def q11_25 : List AI := [
 .j 71 (.bin .eql (.t 8) (.z 24)),
 .j 69 (.mov (.t 71))]
@[go_sem] def q11_26 : List AI := [
 .j 72 (.bin .eql (.t 8) (.z 25)),
 .j 69 (.mov (.t 72))]
@[go_sem] def q11_27 : List AI := [
 .j 73 (.faddr 1 (.t 1)),
 .j 74 (.load 1 false (.t 73)),
 .j 75 (.faddr 1 (.t 1)),
 .j 76 (.load 1 false (.t 75)),
 .j 77 (.bin .add (.t 76) (.z 1)),
 .j 78 (.faddr 1 (.t 1)),
 .j 79 (.load 1 false (.t 78)),
 .j 80 (.bin .add (.t 79) (.z 2)),
 .j 81 (.mkrow 110081 1 [(.t 74), (.t 77), (.t 80)]),
 .j 82 (.call 21 [(.t 81)]),
 .j 2 (.mov (.t 82)),
 .j 3 (.mov (.z (-1)))]
@[go_sem] def q11_28 : List AI := [
 .j 84 (.bin .eql (.t 8) (.z 26)),
 .j 83 (.mov (.t 84))]
@[go_sem] def q11_29 : List AI := [
 .j 85 (.faddr 1 (.t 1)),
 .j 86 (.load 1 false (.t 85)),
 .j 87 (.bin .add (.t 86) (.z 3)),
 .j 88 (.mkrow 110088 1 [(.t 87)]),
 .j 89 (.call 21 [(.t 88)]),
 .j 2 (.mov (.t 89)),
 .j 3 (.mov (.z (-1)))]
@[go_sem] def q11_30 : List AI := [
 .j 2 (.mov (.c .nils)),
 .j 3 (.mov (.z (-1)))]
@[go_sem] def scriptingref32_Reads_c : AC := .seq (.ops [q11_0]) (.seq (.seq (.ops [q11_1]) (.cond (.t 6) (.seq (.ops [q11_2]) (.ret)) (.skip))) (.seq (.seq (.ops [q11_3]) (.block 0 (.seq (.seq (.ops [q11_4]) (.cond (.t 9) (.skip) (.seq (.ops [q11_5]) (.cond (.t 9) (.skip) (.seq (.ops [q11_6]) (.cond (.t 9) (.skip) (.seq (.ops [q11_7]) (.cond (.t 9) (.skip) (.ops [q11_8]))))))))) (.cond (.t 9) (.seq (.ops [q11_9]) (.ret)) (.seq (.seq (.ops [q11_10]) (.cond (.t 19) (.skip) (.ops [q11_11]))) (.cond (.t 19) (.seq (.ops [q11_12]) (.ret)) (.seq (.ops [q11_13]) (.cond (.t 28) (.seq (.ops [q11_14]) (.ret)) (.seq (.seq (.ops [q11_15]) (.cond (.t 38) (.skip) (.ops [q11_16]))) (.cond (.t 38) (.seq (.ops [q11_17]) (.ret)) (.seq (.seq (.ops [q11_18]) (.cond (.t 45) (.skip) (.seq (.ops [q11_19]) (.cond (.t 45) (.skip) (.ops [q11_20]))))) (.cond (.t 45) (.seq (.ops [q11_21]) (.ret)) (.seq (.ops [q11_22]) (.cond (.t 60) (.seq (.ops [q11_23]) (.ret)) (.seq (.seq (.ops [q11_24]) (.cond (.t 69) (.skip) (.seq (.ops [q11_25]) (.cond (.t 69) (.skip) (.ops [q11_26]))))) (.cond (.t 69) (.seq (.ops [q11_27]) (.ret)) (.seq (.ops [q11_28]) (.cond (.t 83) (.seq (.ops [q11_29]) (.ret)) (.skip))))))))))))))))))) (.seq (.ops [q11_30]) (.ret))))
theorem scriptingref32_Reads_ok : compF Tryz.prog 11 = some (90, scriptingref32_Reads_c, [.t 2, .t 3]) := by kernel_rfl

@[go_sem] def q12_0 : List AI := [
 .j 1 (.box 120001 11 (.t 0)),
 .j 2 (.mov (.c (.bool false)))]
@[go_sem] def q12_1 : List AI := [
 .j 6 (.load 11 true (.t 1)),
 .j 7 (.mkrow 120007 11 [(.t 6)]),
 .j 3 (.mov (.t 7))]
@[go_sem] def q12_2 : List AI := [
 .j 4 (.mov (.z 0))]
@[go_sem] def q12_3 : List AI := [
 .j 8 (.mov (.t 4)),
 .j 9 (.mov (.t 3)),
 .j 10 (.len 0 (.t 9)),
 .j 11 (.bin .lss (.t 8) (.t 10))]
@[go_sem] def q12_4 : List AI := [
 .j 14 (.mov (.t 3)),
 .j 15 (.mov (.t 4)),
 .j 16 (.iaddr 11 (.t 14) (.t 15)),
 .j 17 (.load 11 true (.t 16)),
 .j 5 (.box 120005 11 (.c (.agg [(.str []), (.int .i64 0), (.int .i64 0), (.bool false), (.int .i64 0), .nils, .nils, .nils, .nils, .nils, .nils]))),
 .e (.store 11 (.t 5) (.t 17))]
@[go_sem] def q12_5 : List AI := [
 .j 18 (.faddr 5 (.t 5)),
 .j 19 (.load 1 false (.t 18)),
 .j 20 (.len 0 (.t 19)),
 .j 21 (.faddr 6 (.t 5)),
 .j 22 (.load 1 false (.t 21)),
 .j 23 (.len 0 (.t 22)),
 .j 24 (.bin .add (.t 20) (.t 23)),
 .j 25 (.faddr 7 (.t 5)),
 .j 26 (.load 1 false (.t 25)),
 .j 27 (.len 0 (.t 26)),
 .j 28 (.bin .add (.t 24) (.t 27)),
 .j 29 (.faddr 9 (.t 5)),
 .j 30 (.load 1 false (.t 29)),
 .j 31 (.len 0 (.t 30)),
 .j 32 (.bin .add (.t 28) (.t 31)),
 .j 33 (.faddr 10 (.t 5)),
 .j 34 (.load 1 false (.t 33)),
 .j 35 (.len 0 (.t 34)),
 .j 36 (.bin .add (.t 32) (.t 35)),
 .j 37 (.bin .gtr (.t 36) (.z 400)),
 .j 38 (.mov (.t 37)),
 .k 39 38 false (.faddr 8 (.t 5)),
 .k 40 38 false (.load 1 false (.t 39)),
 .k 41 38 false (.len 0 (.t 40)),
 .k 42 38 false (.bin .gtr (.t 41) (.z 40)),
 .j 43 (.pick (.t 38) (.c (.bool true)) (.t 42))]
@[go_sem] def q12_6 : List AI := [
 .j 2 (.mov (.c (.bool true)))]
@[go_sem] def q12_7 : List AI := [
 .j 44 (.mov (.t 3)),
 .j 45 (.faddr 8 (.t 5)),
 .j 46 (.load 1 false (.t 45)),
 .j 47 (.app 120047 11 (.t 44) (.t 46)),
 .j 3 (.mov (.t 47))]
@[go_sem] def q12_8 : List AI := [
 .j 48 (.mov (.t 3)),
 .j 49 (.len 0 (.t 48)),
 .j 50 (.bin .gtr (.t 49) (.z 40))]
@[go_sem] def q12_9 : List AI := [
 .j 2 (.mov (.c (.bool true)))]
@[go_sem] def q12_10 : List AI := [
 .j 12 (.mov (.t 4)),
 .j 13 (.bin .add (.t 12) (.z 1)),
 .j 4 (.mov (.t 13))]
@[go_sem] def scriptinglaw33_Large_l0' : AC := .seq (.seq (.ops [q12_3]) (.cond (.t 11) (.skip) (.exit 0))) (.seq (.block 1 (.seq (.ops [q12_4]) (.seq (.seq (.ops [q12_5]) (.cond (.t 43) (.seq (.ops [q12_6]) (.ret)) (.skip))) (.seq (.ops [q12_7]) (.seq (.ops [q12_8]) (.cond (.t 50) (.seq (.ops [q12_9]) (.ret)) (.skip))))))) (.ops [q12_10]))
def scriptinglaw33_Large_l0 : AC := scriptinglaw33_Large_l0'
theorem scriptinglaw33_Large_l0_eq : scriptinglaw33_Large_l0 = scriptinglaw33_Large_l0' := rfl
@[go_sem] def q12_11 : List AI := [
 .j 2 (.mov (.c (.bool false)))]
@[go_sem] def scriptinglaw33_Large_c : AC := .seq (.ops [q12_0]) (.seq (.ops [q12_1]) (.seq (.seq (.ops [q12_2]) (.block 0 (.loop scriptinglaw33_Large_l0))) (.seq (.ops [q12_11]) (.ret))))
theorem scriptinglaw33_Large_ok : compF Tryz.prog 12 = some (51, scriptinglaw33_Large_c, [.t 2]) := by kernel_rfl

@[go_sem] def q13_0 : List AI := [
 .j 1 (.box 130001 11 (.t 0)),
 .j 2 (.mov (.c .nils)),
 .j 3 (.mov (.z 0)),
 .j 4 (.mov (.z 0))]
@[go_sem] def q13_1 : List AI := [
 .j 9 (.load 11 true (.t 1)),
 .j 10 (.call 17 [(.t 9)]),
 .j 5 (.mov (.t 10))]
@[go_sem] def q13_2 : List AI := [
 .j 11 (.mov (.t 5)),
 .j 12 (.bin .neq (.t 11) (.z 0))]
@[go_sem] def q13_3 : List AI := [
 .j 13 (.mov (.t 5)),
 .j 2 (.mov (.c .nils)),
 .j 3 (.mov (.z 0)),
 .j 4 (.mov (.t 13))]
@[go_sem] def q13_4 : List AI := [
 .j 15 (.load 11 true (.t 1)),
 .j 16 (.call 23 [(.t 15), (.c .nils)]),
 .j 14 (.mov (.t 16)),
 .j 17 (.ext 0 (.t 14)),
 .j 18 (.ext 1 (.t 14)),
 .j 19 (.ext 2 (.t 14)),
 .j 6 (.mov (.t 17)),
 .j 7 (.mov (.t 18)),
 .j 8 (.mov (.t 19))]
@[go_sem] def q13_5 : List AI := [
 .j 20 (.mov (.t 8))]
@[go_sem] def q13_6 : List AI := [
 .j 21 (.mov (.t 6)),
 .j 22 (.mov (.t 7)),
 .j 2 (.mov (.t 21)),
 .j 3 (.mov (.t 22)),
 .j 4 (.mov (.z 21))]
@[go_sem] def q13_7 : List AI := [
 .j 2 (.mov (.c .nils)),
 .j 3 (.mov (.z 0)),
 .j 4 (.mov (.z 0))]
@[go_sem] def verify_Explain_c : AC := .seq (.ops [q13_0]) (.seq (.seq (.ops [q13_1]) (.seq (.ops [q13_2]) (.cond (.t 12) (.seq (.ops [q13_3]) (.ret)) (.skip)))) (.seq (.seq (.ops [q13_4]) (.seq (.ops [q13_5]) (.cond (.t 20) (.seq (.ops [q13_6]) (.ret)) (.skip)))) (.seq (.ops [q13_7]) (.ret))))
theorem verify_Explain_ok : compF Tryz.prog 13 = some (23, verify_Explain_c, [.t 2, .t 3, .t 4]) := by kernel_rfl

@[go_sem] def q14_0 : List AI := [
 .j 1 (.box 140001 5 (.t 0)),
 .j 2 (.mov (.z 0)),
 .j 3 (.mov (.c (.bool false)))]
@[go_sem] def q14_1 : List AI := [
 .j 4 (.faddr 0 (.t 1)),
 .j 5 (.load 1 false (.t 4))]
@[go_sem] def q14_2 : List AI := [
 .j 7 (.bin .eql (.t 5) (.z 14)),
 .j 6 (.mov (.t 7))]
@[go_sem] def q14_3 : List AI := [
 .j 8 (.bin .eql (.t 5) (.z 15)),
 .j 6 (.mov (.t 8))]
@[go_sem] def q14_4 : List AI := [
 .j 9 (.bin .eql (.t 5) (.z 23)),
 .j 6 (.mov (.t 9))]
@[go_sem] def q14_5 : List AI := [
 .j 10 (.bin .eql (.t 5) (.z 24)),
 .j 6 (.mov (.t 10))]
@[go_sem] def q14_6 : List AI := [
 .j 11 (.bin .eql (.t 5) (.z 26)),
 .j 6 (.mov (.t 11))]
@[go_sem] def q14_7 : List AI := [
 .j 12 (.faddr 2 (.t 1)),
 .j 13 (.load 1 false (.t 12)),
 .j 2 (.mov (.t 13)),
 .j 3 (.mov (.c (.bool true)))]
@[go_sem] def q14_8 : List AI := [
 .j 2 (.mov (.z 0)),
 .j 3 (.mov (.c (.bool false)))]
@[go_sem] def scriptingref32_Target_c : AC := .seq (.ops [q14_0]) (.seq (.seq (.ops [q14_1]) (.block 0 (.seq (.seq (.ops [q14_2]) (.cond (.t 6) (.skip) (.seq (.ops [q14_3]) (.cond (.t 6) (.skip) (.seq (.ops [q14_4]) (.cond (.t 6) (.skip) (.seq (.ops [q14_5]) (.cond (.t 6) (.skip) (.ops [q14_6]))))))))) (.cond (.t 6) (.seq (.ops [q14_7]) (.ret)) (.skip))))) (.seq (.ops [q14_8]) (.ret)))
theorem scriptingref32_Target_ok : compF Tryz.prog 14 = some (14, scriptingref32_Target_c, [.t 2, .t 3]) := by kernel_rfl

@[go_sem] def q15_0 : List AI := [
 .j 1 (.box 150001 5 (.t 0)),
 .j 2 (.mov (.c (.bool false)))]
@[go_sem] def q15_1 : List AI := [
 .j 3 (.faddr 0 (.t 1)),
 .j 4 (.load 1 false (.t 3)),
 .j 5 (.bin .neq (.t 4) (.z 14)),
 .j 6 (.mov (.t 5)),
 .k 7 6 true (.faddr 0 (.t 1)),
 .k 8 6 true (.load 1 false (.t 7)),
 .k 9 6 true (.bin .neq (.t 8) (.z 17)),
 .j 10 (.pick (.t 6) (.t 9) (.c (.bool false))),
 .j 11 (.mov (.t 10)),
 .k 12 11 true (.faddr 0 (.t 1)),
 .k 13 11 true (.load 1 false (.t 12)),
 .k 14 11 true (.bin .neq (.t 13) (.z 18)),
 .j 15 (.pick (.t 11) (.t 14) (.c (.bool false))),
 .j 2 (.mov (.t 15))]
@[go_sem] def scriptingref32_Falls_c : AC := .seq (.ops [q15_0]) (.seq (.ops [q15_1]) (.ret))
theorem scriptingref32_Falls_ok : compF Tryz.prog 15 = some (16, scriptingref32_Falls_c, [.t 2]) := by kernel_rfl

@[go_sem] def q16_0 : List AI := [
 .j 4 (.mov (.c .nils))]
@[go_sem] def q16_1 : List AI := [
 .j 8 (.mkrow 160008 1 []),
 .j 5 (.mov (.t 8))]
@[go_sem] def q16_2 : List AI := [
 .j 6 (.mov (.c (.bool false)))]
@[go_sem] def q16_3 : List AI := [
 .j 7 (.mov (.z 0))]
@[go_sem] def q16_4 : List AI := [
 .j 9 (.mov (.t 7)),
 .j 10 (.mov (.t 0)),
 .j 11 (.len 0 (.t 10)),
 .j 12 (.bin .lss (.t 9) (.t 11))]
@[go_sem] def q16_5 : List AI := [
 .j 15 (.mov (.t 6)),
 .j 16 (.un .not (.t 15)),
 .j 17 (.mov (.t 16)),
 .k 18 17 true (.mov (.t 0)),
 .k 19 17 true (.mov (.t 7)),
 .k 20 17 true (.iaddr 1 (.t 18) (.t 19)),
 .k 21 17 true (.load 1 false (.t 20)),
 .k 22 17 true (.mov (.t 1)),
 .k 23 17 true (.bin .geq (.t 21) (.t 22)),
 .j 24 (.pick (.t 17) (.t 23) (.c (.bool false)))]
@[go_sem] def q16_6 : List AI := [
 .j 25 (.mov (.t 5)),
 .j 26 (.mov (.t 1)),
 .j 27 (.mkisl 1 [(.t 26)]),
 .j 28 (.app 160028 1 (.t 25) (.t 27)),
 .j 5 (.mov (.t 28))]
@[go_sem] def q16_7 : List AI := [
 .j 6 (.mov (.c (.bool true)))]
@[go_sem] def q16_8 : List AI := [
 .j 29 (.mov (.t 0)),
 .j 30 (.mov (.t 7)),
 .j 31 (.iaddr 1 (.t 29) (.t 30)),
 .j 32 (.load 1 false (.t 31)),
 .j 33 (.mov (.t 1)),
 .j 34 (.bin .neq (.t 32) (.t 33))]
@[go_sem] def q16_9 : List AI := [
 .j 35 (.mov (.t 5)),
 .j 36 (.mov (.t 0)),
 .j 37 (.mov (.t 7)),
 .j 38 (.iaddr 1 (.t 36) (.t 37)),
 .j 39 (.load 1 false (.t 38)),
 .j 40 (.mkisl 1 [(.t 39)]),
 .j 41 (.app 160041 1 (.t 35) (.t 40)),
 .j 5 (.mov (.t 41))]
@[go_sem] def q16_10 : List AI := [
 .j 13 (.mov (.t 7)),
 .j 14 (.bin .add (.t 13) (.z 1)),
 .j 7 (.mov (.t 14))]
@[go_sem] def scriptingref35_Put_l0' : AC := .seq (.seq (.ops [q16_4]) (.cond (.t 12) (.skip) (.exit 0))) (.seq (.block 1 (.seq (.seq (.ops [q16_5]) (.cond (.t 24) (.seq (.ops [q16_6]) (.ops [q16_7])) (.skip))) (.seq (.ops [q16_8]) (.cond (.t 34) (.ops [q16_9]) (.skip))))) (.ops [q16_10]))
def scriptingref35_Put_l0 : AC := scriptingref35_Put_l0'
theorem scriptingref35_Put_l0_eq : scriptingref35_Put_l0 = scriptingref35_Put_l0' := rfl
@[go_sem] def q16_11 : List AI := [
 .j 42 (.mov (.t 6)),
 .j 43 (.un .not (.t 42))]
@[go_sem] def q16_12 : List AI := [
 .j 44 (.mov (.t 5)),
 .j 45 (.mov (.t 1)),
 .j 46 (.mkisl 1 [(.t 45)]),
 .j 47 (.app 160047 1 (.t 44) (.t 46)),
 .j 5 (.mov (.t 47))]
@[go_sem] def q16_13 : List AI := [
 .j 48 (.mov (.t 5)),
 .j 4 (.mov (.t 48))]
@[go_sem] def scriptingref35_Put_c : AC := .seq (.ops [q16_0]) (.seq (.ops [q16_1]) (.seq (.ops [q16_2]) (.seq (.seq (.ops [q16_3]) (.block 0 (.loop scriptingref35_Put_l0))) (.seq (.seq (.ops [q16_11]) (.cond (.t 43) (.ops [q16_12]) (.skip))) (.seq (.ops [q16_13]) (.ret))))))
theorem scriptingref35_Put_ok : compF Tryz.prog 16 = some (49, scriptingref35_Put_c, [.t 4]) := by kernel_rfl

@[go_sem] def q17_0 : List AI := [
 .j 1 (.box 170001 11 (.t 0)),
 .j 2 (.box 170002 1 (.z 0))]
@[go_sem] def q17_1 : List AI := [
 .j 5 (.load 11 true (.t 1)),
 .j 6 (.call 24 [(.t 5)]),
 .j 7 (.bin .gtr (.t 6) (.z 64))]
@[go_sem] def q17_2 : List AI := [
 .e (.store 1 (.t 2) (.z 3))]
@[go_sem] def q17_3 : List AI := [
 .j 8 (.load 11 true (.t 1)),
 .j 9 (.call 25 [(.t 8)])]
@[go_sem] def q17_4 : List AI := [
 .j 3 (.box 170003 11 (.c (.agg [(.str []), (.int .i64 0), (.int .i64 0), (.bool false), (.int .i64 0), .nils, .nils, .nils, .nils, .nils, .nils]))),
 .e (.store 11 (.t 3) (.t 10))]
@[go_sem] def q17_5 : List AI := [
 .j 11 (.load 11 true (.t 3)),
 .j 12 (.call 26 [(.t 11)]),
 .j 4 (.mov (.t 12))]
@[go_sem] def q17_6 : List AI := [
 .j 13 (.mov (.t 4)),
 .j 14 (.bin .neq (.t 13) (.z 0))]
@[go_sem] def q17_7 : List AI := [
 .j 15 (.mov (.t 4)),
 .e (.store 1 (.t 2) (.t 15))]
@[go_sem] def proto_Check_g0a' : AC := .ops [q17_4]
def proto_Check_g0a : AC := proto_Check_g0a'
theorem proto_Check_g0a_eq : proto_Check_g0a = proto_Check_g0a' := rfl
@[go_sem] def proto_Check_g0b' : AC := .block 1 (.seq (.ops [q17_5]) (.seq (.ops [q17_6]) (.cond (.t 14) (.seq (.ops [q17_7]) (.ret)) (.skip))))
def proto_Check_g0b : AC := proto_Check_g0b'
theorem proto_Check_g0b_eq : proto_Check_g0b = proto_Check_g0b' := rfl
@[go_sem] def q17_8 : List AI := [
 .e (.store 1 (.t 2) (.z 0))]
@[go_sem] def proto_Check_c : AC := .seq (.ops [q17_0]) (.seq (.seq (.ops [q17_1]) (.cond (.t 7) (.seq (.ops [q17_2]) (.ret)) (.skip))) (.seq (.seq (.ops [q17_3]) (.block 0 (.rng 179010 (.t 9) [10] proto_Check_g0a proto_Check_g0b))) (.seq (.ops [q17_8]) (.ret))))
theorem proto_Check_ok : compF Tryz.prog 17 = some (16, proto_Check_c, [.c 2 1 false]) := by kernel_rfl

@[go_sem] def q18_0 : List AI := [
 .j 2 (.box 180002 11 (.t 0)),
 .j 4 (.mov (.c .nilm))]
@[go_sem] def q18_1 : List AI := [
 .j 14 (.mkmap 180014),
 .j 15 (.load 11 true (.t 2)),
 .j 16 (.call 27 [(.t 15)]),
 .e (.mput 0 (.t 14) (.z 0) (.t 16)),
 .j 17 (.mov (.t 14)),
 .j 5 (.mov (.t 17))]
@[go_sem] def q18_2 : List AI := [
 .j 6 (.mov (.c (.bool true)))]
@[go_sem] def q18_3 : List AI := [
 .j 18 (.mov (.t 6))]
@[go_sem] def q18_4 : List AI := [
 .j 6 (.mov (.c (.bool false)))]
@[go_sem] def q18_5 : List AI := [
 .j 19 (.mov (.t 1)),
 .j 20 (.len 0 (.t 19)),
 .j 21 (.mov (.z 0))]
@[go_sem] def q18_6 : List AI := [
 .j 22 (.bin .lss (.t 21) (.t 20))]
@[go_sem] def q18_7 : List AI := [
 .j 23 (.iaddr 2 (.t 19) (.t 21)),
 .j 24 (.load 2 true (.t 23)),
 .j 8 (.box 180008 2 (.c (.agg [(.int .i64 0), (.int .i64 0)]))),
 .e (.store 2 (.t 8) (.t 24))]
@[go_sem] def q18_8 : List AI := [
 .j 26 (.mov (.t 5)),
 .j 27 (.iaddrA 2 1 (.t 8) (.z 0)),
 .j 28 (.load 1 false (.t 27)),
 .j 29 (.look 0 (.agg [.nils, (.int .i64 0), .nils]) true (.t 26) (.t 28)),
 .j 25 (.mov (.t 29)),
 .j 30 (.ext 0 (.t 25)),
 .j 31 (.ext 1 (.t 25)),
 .j 9 (.box 180009 3 (.c (.agg [.nils, (.int .i64 0), .nils]))),
 .e (.store 3 (.t 9) (.t 30)),
 .j 10 (.mov (.t 31))]
@[go_sem] def q18_9 : List AI := [
 .j 32 (.mov (.t 10)),
 .j 33 (.un .not (.t 32))]
@[go_sem] def q18_10 : List AI := [
 .j 34 (.load 11 true (.t 2)),
 .j 35 (.load 2 true (.t 8)),
 .j 36 (.load 3 true (.t 9)),
 .j 37 (.call 28 [(.t 34), (.t 35), (.t 36)]),
 .j 11 (.box 180011 3 (.c (.agg [.nils, (.int .i64 0), .nils]))),
 .e (.store 3 (.t 11) (.t 37))]
@[go_sem] def q18_11 : List AI := [
 .j 39 (.mov (.t 5)),
 .j 40 (.iaddrA 2 1 (.t 8) (.z 1)),
 .j 41 (.load 1 false (.t 40)),
 .j 42 (.look 0 (.agg [.nils, (.int .i64 0), .nils]) true (.t 39) (.t 41)),
 .j 38 (.mov (.t 42)),
 .j 43 (.ext 0 (.t 38)),
 .j 44 (.ext 1 (.t 38)),
 .j 12 (.box 180012 3 (.c (.agg [.nils, (.int .i64 0), .nils]))),
 .e (.store 3 (.t 12) (.t 43)),
 .j 13 (.mov (.t 44))]
@[go_sem] def q18_12 : List AI := [
 .j 45 (.mov (.t 13)),
 .j 46 (.un .not (.t 45))]
@[go_sem] def q18_13 : List AI := [
 .j 47 (.mov (.t 5)),
 .j 48 (.iaddrA 2 1 (.t 8) (.z 1)),
 .j 49 (.load 1 false (.t 48)),
 .j 50 (.load 3 true (.t 11)),
 .e (.mput 0 (.t 47) (.t 49) (.t 50))]
@[go_sem] def q18_14 : List AI := [
 .j 6 (.mov (.c (.bool true)))]
@[go_sem] def q18_15 : List AI := [
 .j 51 (.load 3 true (.t 12)),
 .j 52 (.load 3 true (.t 11)),
 .j 53 (.call 29 [(.t 51), (.t 52)])]
@[go_sem] def q18_16 : List AI := [
 .j 6 (.mov (.c (.bool true)))]
@[go_sem] def q18_17 : List AI := [
 .j 54 (.bin .add (.t 21) (.z 1)),
 .j 21 (.mov (.t 54))]
@[go_sem] def verify_states_l1' : AC := .seq (.ops [q18_6]) (.seq (.cond (.t 22) (.skip) (.exit 2)) (.seq (.block 3 (.seq (.ops [q18_7]) (.seq (.ops [q18_8]) (.seq (.seq (.ops [q18_9]) (.cond (.t 33) (.exit 3) (.skip))) (.seq (.ops [q18_10]) (.seq (.ops [q18_11]) (.seq (.ops [q18_12]) (.cond (.t 46) (.seq (.ops [q18_13]) (.ops [q18_14])) (.seq (.ops [q18_15]) (.cond (.t 53) (.ops [q18_16]) (.skip))))))))))) (.ops [q18_17])))
def verify_states_l1 : AC := verify_states_l1'
theorem verify_states_l1_eq : verify_states_l1 = verify_states_l1' := rfl
@[go_sem] def verify_states_l0' : AC := .seq (.seq (.ops [q18_3]) (.cond (.t 18) (.skip) (.exit 0))) (.block 1 (.seq (.ops [q18_4]) (.seq (.ops [q18_5]) (.block 2 (.loop verify_states_l1)))))
def verify_states_l0 : AC := verify_states_l0'
theorem verify_states_l0_eq : verify_states_l0 = verify_states_l0' := rfl
@[go_sem] def q18_18 : List AI := [
 .j 55 (.mov (.t 5)),
 .j 4 (.mov (.t 55))]
@[go_sem] def verify_states_c : AC := .seq (.ops [q18_0]) (.seq (.ops [q18_1]) (.seq (.seq (.ops [q18_2]) (.block 0 (.loop verify_states_l0))) (.seq (.ops [q18_18]) (.ret))))
theorem verify_states_ok : compF Tryz.prog 18 = some (56, verify_states_c, [.t 4]) := by kernel_rfl

@[go_sem] def q19_0 : List AI := [
 .j 1 (.box 190001 11 (.t 0)),
 .j 2 (.mov (.c .nils))]
@[go_sem] def q19_1 : List AI := [
 .j 3 (.mov (.c .nils))]
@[go_sem] def q19_2 : List AI := [
 .j 7 (.faddr 5 (.t 1)),
 .j 8 (.load 1 false (.t 7)),
 .j 9 (.len 0 (.t 8)),
 .j 10 (.mov (.z 0))]
@[go_sem] def q19_3 : List AI := [
 .j 11 (.bin .lss (.t 10) (.t 9))]
@[go_sem] def q19_4 : List AI := [
 .j 12 (.mov (.t 10)),
 .j 4 (.mov (.t 12))]
@[go_sem] def q19_5 : List AI := [
 .j 13 (.load 11 true (.t 1)),
 .j 14 (.mov (.t 4)),
 .j 15 (.call 30 [(.t 13), (.t 14)]),
 .j 16 (.len 0 (.t 15)),
 .j 17 (.mov (.z 0))]
@[go_sem] def q19_6 : List AI := [
 .j 18 (.bin .lss (.t 17) (.t 16))]
@[go_sem] def q19_7 : List AI := [
 .j 19 (.iaddr 1 (.t 15) (.t 17)),
 .j 20 (.load 1 false (.t 19)),
 .j 6 (.mov (.t 20))]
@[go_sem] def q19_8 : List AI := [
 .j 21 (.mov (.t 3)),
 .j 22 (.mov (.t 4)),
 .j 23 (.mov (.t 6)),
 .j 24 (.build [(.int .i64 0), (.int .i64 0)] [(0, 1, (.t 22)), (1, 1, (.t 23))]),
 .j 25 (.mkisl 2 [(.t 24)]),
 .j 26 (.app 190026 2 (.t 21) (.t 25)),
 .j 3 (.mov (.t 26))]
@[go_sem] def q19_9 : List AI := [
 .j 27 (.bin .add (.t 17) (.z 1)),
 .j 17 (.mov (.t 27))]
@[go_sem] def verify_edges_l1' : AC := .seq (.ops [q19_6]) (.seq (.cond (.t 18) (.skip) (.exit 2)) (.seq (.block 3 (.seq (.ops [q19_7]) (.ops [q19_8]))) (.ops [q19_9])))
def verify_edges_l1 : AC := verify_edges_l1'
theorem verify_edges_l1_eq : verify_edges_l1 = verify_edges_l1' := rfl
@[go_sem] def q19_10 : List AI := [
 .j 28 (.bin .add (.t 10) (.z 1)),
 .j 10 (.mov (.t 28))]
@[go_sem] def verify_edges_l0' : AC := .seq (.ops [q19_3]) (.seq (.cond (.t 11) (.skip) (.exit 0)) (.seq (.block 1 (.seq (.ops [q19_4]) (.seq (.ops [q19_5]) (.block 2 (.loop verify_edges_l1))))) (.ops [q19_10])))
def verify_edges_l0 : AC := verify_edges_l0'
theorem verify_edges_l0_eq : verify_edges_l0 = verify_edges_l0' := rfl
@[go_sem] def q19_11 : List AI := [
 .j 29 (.mov (.t 3)),
 .j 2 (.mov (.t 29))]
@[go_sem] def verify_edges_c : AC := .seq (.ops [q19_0]) (.seq (.ops [q19_1]) (.seq (.seq (.ops [q19_2]) (.block 0 (.loop verify_edges_l0))) (.seq (.ops [q19_11]) (.ret))))
theorem verify_edges_ok : compF Tryz.prog 19 = some (30, verify_edges_c, [.t 2]) := by kernel_rfl

@[go_sem] def q20_0 : List AI := [
 .j 1 (.box 200001 5 (.t 0)),
 .j 2 (.mov (.z 0))]
@[go_sem] def q20_1 : List AI := [
 .j 7 (.faddr 0 (.t 1)),
 .j 8 (.load 1 false (.t 7)),
 .j 9 (.call 31 [(.t 8)]),
 .j 3 (.box 200003 13 (.c (.agg [(.str []), (.bool false), (.bool false), (.bool false), (.bool false), (.int .i64 0), (.int .i64 0), (.int .i64 0), (.int .i64 0), (.int .i64 0), (.int .i64 0), (.int .i64 0), (.int .i64 0)]))),
 .e (.store 13 (.t 3) (.t 9))]
@[go_sem] def q20_2 : List AI := [
 .j 10 (.load 5 true (.t 1)),
 .j 11 (.call 32 [(.t 10)]),
 .j 4 (.box 200004 4 (.c (.agg [(.int .i64 0), (.int .i64 0), (.int .i64 0), (.int .i64 0)]))),
 .e (.store 4 (.t 4) (.t 11))]
@[go_sem] def q20_3 : List AI := [
 .j 12 (.faddr 0 (.t 3)),
 .j 13 (.load 1 false (.t 12)),
 .j 14 (.bin .eql (.t 13) (.c (.str [])))]
@[go_sem] def q20_4 : List AI := [
 .j 2 (.mov (.z 4))]
@[go_sem] def q20_5 : List AI := [
 .j 5 (.mov (.z 0))]
@[go_sem] def q20_6 : List AI := [
 .j 15 (.mov (.t 5)),
 .j 16 (.bin .lss (.t 15) (.z 4))]
@[go_sem] def q20_7 : List AI := [
 .j 19 (.mov (.t 5)),
 .j 20 (.faddr 1 (.t 3)),
 .j 21 (.iaddrA 4 1 (.t 20) (.t 19)),
 .j 22 (.load 1 false (.t 21)),
 .j 23 (.un .not (.t 22)),
 .j 24 (.mov (.t 23)),
 .k 25 24 true (.mov (.t 5)),
 .k 26 24 true (.iaddrA 4 1 (.t 4) (.t 25)),
 .k 27 24 true (.load 1 false (.t 26)),
 .k 28 24 true (.bin .neq (.t 27) (.z 0)),
 .j 29 (.pick (.t 24) (.t 28) (.c (.bool false)))]
@[go_sem] def q20_8 : List AI := [
 .j 2 (.mov (.z 4))]
@[go_sem] def q20_9 : List AI := [
 .j 17 (.mov (.t 5)),
 .j 18 (.bin .add (.t 17) (.z 1)),
 .j 5 (.mov (.t 18))]
@[go_sem] def scriptingref32_Check_l0' : AC := .seq (.seq (.ops [q20_6]) (.cond (.t 16) (.skip) (.exit 0))) (.seq (.block 1 (.seq (.ops [q20_7]) (.cond (.t 29) (.seq (.ops [q20_8]) (.ret)) (.skip)))) (.ops [q20_9]))
def scriptingref32_Check_l0 : AC := scriptingref32_Check_l0'
theorem scriptingref32_Check_l0_eq : scriptingref32_Check_l0 = scriptingref32_Check_l0' := rfl
@[go_sem] def q20_10 : List AI := [
 .j 6 (.mov (.z 0))]
@[go_sem] def q20_11 : List AI := [
 .j 30 (.mov (.t 6)),
 .j 31 (.bin .lss (.t 30) (.z 4))]
@[go_sem] def q20_12 : List AI := [
 .j 34 (.mov (.t 6)),
 .j 35 (.faddr 1 (.t 3)),
 .j 36 (.iaddrA 4 1 (.t 35) (.t 34)),
 .j 37 (.load 1 false (.t 36)),
 .j 38 (.mov (.t 37)),
 .k 39 38 true (.mov (.t 6)),
 .k 40 38 true (.iaddrA 4 1 (.t 4) (.t 39)),
 .k 41 38 true (.load 1 false (.t 40)),
 .k 42 38 true (.mov (.t 6)),
 .k 43 38 true (.faddr 5 (.t 3)),
 .k 44 38 true (.iaddrA 4 1 (.t 43) (.t 42)),
 .k 45 38 true (.load 1 false (.t 44)),
 .k 46 38 true (.bin .lss (.t 41) (.t 45)),
 .k 47 38 true (.mov (.t 46)),
 .k 48 47 false (.mov (.t 6)),
 .k 49 47 false (.iaddrA 4 1 (.t 4) (.t 48)),
 .k 50 47 false (.load 1 false (.t 49)),
 .k 51 47 false (.mov (.t 6)),
 .k 52 47 false (.faddr 9 (.t 3)),
 .k 53 47 false (.iaddrA 4 1 (.t 52) (.t 51)),
 .k 54 47 false (.load 1 false (.t 53)),
 .k 55 47 false (.bin .gtr (.t 50) (.t 54)),
 .k 56 38 true (.pick (.t 47) (.c (.bool true)) (.t 55)),
 .j 57 (.pick (.t 38) (.t 56) (.c (.bool false)))]
@[go_sem] def q20_13 : List AI := [
 .j 2 (.mov (.z 6))]
@[go_sem] def q20_14 : List AI := [
 .j 32 (.mov (.t 6)),
 .j 33 (.bin .add (.t 32) (.z 1)),
 .j 6 (.mov (.t 33))]
@[go_sem] def scriptingref32_Check_l1' : AC := .seq (.seq (.ops [q20_11]) (.cond (.t 31) (.skip) (.exit 2))) (.seq (.block 3 (.seq (.ops [q20_12]) (.cond (.t 57) (.seq (.ops [q20_13]) (.ret)) (.skip)))) (.ops [q20_14]))
def scriptingref32_Check_l1 : AC := scriptingref32_Check_l1'
theorem scriptingref32_Check_l1_eq : scriptingref32_Check_l1 = scriptingref32_Check_l1' := rfl
@[go_sem] def q20_15 : List AI := [
 .j 58 (.faddr 0 (.t 1)),
 .j 59 (.load 1 false (.t 58)),
 .j 60 (.bin .eql (.t 59) (.z 3)),
 .j 61 (.mov (.t 60)),
 .k 62 61 true (.faddr 2 (.t 1)),
 .k 63 61 true (.load 1 false (.t 62)),
 .k 64 61 true (.faddr 1 (.t 1)),
 .k 65 61 true (.load 1 false (.t 64)),
 .k 66 61 true (.bin .lss (.t 63) (.t 65)),
 .j 67 (.pick (.t 61) (.t 66) (.c (.bool false))),
 .j 68 (.mov (.t 67)),
 .k 69 68 false (.load 5 true (.t 1)),
 .k 70 68 false (.call 33 [(.t 69)]),
 .k 71 68 false (.bin .gtr (.t 70) (.z 4095)),
 .j 72 (.pick (.t 68) (.c (.bool true)) (.t 71))]
@[go_sem] def q20_16 : List AI := [
 .j 2 (.mov (.z 6))]
@[go_sem] def q20_17 : List AI := [
 .j 2 (.mov (.z 0))]
@[go_sem] def scriptingref32_Check_c : AC := .seq (.ops [q20_0]) (.seq (.ops [q20_1]) (.seq (.ops [q20_2]) (.seq (.seq (.ops [q20_3]) (.cond (.t 14) (.seq (.ops [q20_4]) (.ret)) (.skip))) (.seq (.seq (.ops [q20_5]) (.block 0 (.loop scriptingref32_Check_l0))) (.seq (.seq (.ops [q20_10]) (.block 2 (.loop scriptingref32_Check_l1))) (.seq (.seq (.ops [q20_15]) (.cond (.t 72) (.seq (.ops [q20_16]) (.ret)) (.skip))) (.seq (.ops [q20_17]) (.ret))))))))
theorem scriptingref32_Check_ok : compF Tryz.prog 20 = some (73, scriptingref32_Check_c, [.t 2]) := by kernel_rfl

@[go_sem] def q21_0 : List AI := [
 .j 2 (.mov (.c .nils))]
@[go_sem] def q21_1 : List AI := [
 .j 5 (.mkrow 210005 1 []),
 .j 3 (.mov (.t 5))]
@[go_sem] def q21_2 : List AI := [
 .j 4 (.mov (.z 0))]
@[go_sem] def q21_3 : List AI := [
 .j 6 (.mov (.t 4)),
 .j 7 (.mov (.t 0)),
 .j 8 (.len 0 (.t 7)),
 .j 9 (.bin .lss (.t 6) (.t 8))]
@[go_sem] def q21_4 : List AI := [
 .j 12 (.mov (.t 3)),
 .j 13 (.mov (.t 0)),
 .j 14 (.mov (.t 4)),
 .j 15 (.iaddr 1 (.t 13) (.t 14)),
 .j 16 (.load 1 false (.t 15)),
 .j 17 (.call 34 [(.t 12), (.t 16)]),
 .j 3 (.mov (.t 17))]
@[go_sem] def q21_5 : List AI := [
 .j 10 (.mov (.t 4)),
 .j 11 (.bin .add (.t 10) (.z 1)),
 .j 4 (.mov (.t 11))]
@[go_sem] def scriptingref32_set_l0' : AC := .seq (.seq (.ops [q21_3]) (.cond (.t 9) (.skip) (.exit 0))) (.seq (.block 1 (.ops [q21_4])) (.ops [q21_5]))
def scriptingref32_set_l0 : AC := scriptingref32_set_l0'
theorem scriptingref32_set_l0_eq : scriptingref32_set_l0 = scriptingref32_set_l0' := rfl
@[go_sem] def q21_6 : List AI := [
 .j 18 (.mov (.t 3)),
 .j 2 (.mov (.t 18))]
@[go_sem] def scriptingref32_set_c : AC := .seq (.ops [q21_0]) (.seq (.ops [q21_1]) (.seq (.seq (.ops [q21_2]) (.block 0 (.loop scriptingref32_set_l0))) (.seq (.ops [q21_6]) (.ret))))
theorem scriptingref32_set_ok : compF Tryz.prog 21 = some (19, scriptingref32_set_c, [.t 2]) := by kernel_rfl

@[go_sem] def q22_0 : List AI := [
 .j 6 (.mov (.c .nils)),
 .j 7 (.mov (.z 0))]
@[go_sem] def q22_1 : List AI := [
 .j 8 (.mov (.t 2)),
 .j 9 (.bin .lss (.t 8) (.z 0))]
@[go_sem] def q22_2 : List AI := [
 .j 10 (.mov (.t 0)),
 .j 11 (.mov (.t 1)),
 .j 6 (.mov (.t 10)),
 .j 7 (.mov (.t 11))]
@[go_sem] def q22_3 : List AI := [
 .j 12 (.mov (.t 0)),
 .j 13 (.mov (.t 1)),
 .j 14 (.mov (.t 2)),
 .j 15 (.call 35 [(.t 12), (.t 13), (.t 14)]),
 .j 6 (.mov (.t 15)),
 .j 7 (.mov (.z (-1)))]
@[go_sem] def scriptingref32_open_c : AC := .seq (.ops [q22_0]) (.seq (.seq (.ops [q22_1]) (.cond (.t 9) (.seq (.ops [q22_2]) (.ret)) (.skip))) (.seq (.ops [q22_3]) (.ret)))
theorem scriptingref32_open_ok : compF Tryz.prog 22 = some (16, scriptingref32_open_c, [.t 6, .t 7]) := by kernel_rfl

@[go_sem] def q23_0 : List AI := [
 .j 2 (.box 230002 11 (.t 0)),
 .j 4 (.mov (.c .nils)),
 .j 5 (.mov (.z 0)),
 .j 6 (.mov (.c (.bool false)))]
@[go_sem] def q23_1 : List AI := [
 .j 13 (.load 11 true (.t 2)),
 .j 14 (.call 36 [(.t 13)]),
 .j 7 (.mov (.t 14))]
@[go_sem] def q23_2 : List AI := [
 .j 15 (.mov (.t 7)),
 .j 16 (.bin .geq (.t 15) (.z 0))]
@[go_sem] def q23_3 : List AI := [
 .j 17 (.mov (.t 1)),
 .j 18 (.mov (.t 7)),
 .j 4 (.mov (.t 17)),
 .j 5 (.mov (.t 18)),
 .j 6 (.mov (.c (.bool true)))]
@[go_sem] def q23_4 : List AI := [
 .j 19 (.faddr 8 (.t 2)),
 .j 20 (.load 1 false (.t 19)),
 .j 21 (.len 0 (.t 20)),
 .j 22 (.mov (.z 0))]
@[go_sem] def q23_5 : List AI := [
 .j 23 (.bin .lss (.t 22) (.t 21))]
@[go_sem] def q23_6 : List AI := [
 .j 24 (.mov (.t 22)),
 .j 25 (.iaddr 11 (.t 20) (.t 22)),
 .j 26 (.load 11 true (.t 25)),
 .j 9 (.box 230009 11 (.c (.agg [(.str []), (.int .i64 0), (.int .i64 0), (.bool false), (.int .i64 0), .nils, .nils, .nils, .nils, .nils, .nils]))),
 .j 8 (.mov (.t 24)),
 .e (.store 11 (.t 9) (.t 26))]
@[go_sem] def q23_7_0 : List AI := [
 .j 28 (.load 11 true (.t 9)),
 .j 29 (.mov (.t 1)),
 .j 31 (.mov (.t 8)),
 .j 32 (.mkisl 1 [(.t 31)]),
 .j 30 (.call 37 [(.t 29)]),
 .j 33 (.app 230033 1 (.t 30) (.t 32)),
 .j 34 (.call 23 [(.t 28), (.t 33)]),
 .j 27 (.mov (.t 34)),
 .j 35 (.ext 0 (.t 27)),
 .j 36 (.ext 1 (.t 27)),
 .j 37 (.ext 2 (.t 27)),
 .j 10 (.mov (.t 35)),
 .j 11 (.mov (.t 36)),
 .j 12 (.mov (.t 37))]
@[go_sem] def q23_7_1 : List AI := [
 .j 29 (.mov (.t 1)),
 .j 31 (.mov (.t 8)),
 .j 32 (.mkisl 1 [(.t 31)]),
 .j 30 (.call 37 [(.t 29)]),
 .j 28 (.load 11 true (.t 9)),
 .j 33 (.app 230033 1 (.t 30) (.t 32)),
 .j 34 (.call 23 [(.t 28), (.t 33)]),
 .j 27 (.mov (.t 34)),
 .j 35 (.ext 0 (.t 27)),
 .j 36 (.ext 1 (.t 27)),
 .j 37 (.ext 2 (.t 27)),
 .j 10 (.mov (.t 35)),
 .j 11 (.mov (.t 36)),
 .j 12 (.mov (.t 37))]
@[go_sem] def q23_7_2 : List AI := [
 .j 29 (.mov (.t 1)),
 .j 31 (.mov (.t 8)),
 .j 32 (.mkisl 1 [(.t 31)]),
 .j 30 (.call 37 [(.t 29)]),
 .j 33 (.app 230033 1 (.t 30) (.t 32)),
 .j 28 (.load 11 true (.t 9)),
 .j 34 (.call 23 [(.t 28), (.t 33)]),
 .j 27 (.mov (.t 34)),
 .j 35 (.ext 0 (.t 27)),
 .j 36 (.ext 1 (.t 27)),
 .j 37 (.ext 2 (.t 27)),
 .j 10 (.mov (.t 35)),
 .j 11 (.mov (.t 36)),
 .j 12 (.mov (.t 37))]
@[go_sem] def q23_8 : List AI := [
 .j 38 (.mov (.t 12))]
@[go_sem] def q23_9 : List AI := [
 .j 39 (.mov (.t 10)),
 .j 40 (.mov (.t 11)),
 .j 4 (.mov (.t 39)),
 .j 5 (.mov (.t 40)),
 .j 6 (.mov (.c (.bool true)))]
@[go_sem] def q23_10 : List AI := [
 .j 41 (.bin .add (.t 22) (.z 1)),
 .j 22 (.mov (.t 41))]
@[go_sem] def verify_search_l0' : AC := .seq (.ops [q23_5]) (.seq (.cond (.t 23) (.skip) (.exit 0)) (.seq (.block 1 (.seq (.ops [q23_6]) (.seq (.ops [q23_7_0, q23_7_1, q23_7_2]) (.seq (.ops [q23_8]) (.cond (.t 38) (.seq (.ops [q23_9]) (.ret)) (.skip)))))) (.ops [q23_10])))
def verify_search_l0 : AC := verify_search_l0'
theorem verify_search_l0_eq : verify_search_l0 = verify_search_l0' := rfl
@[go_sem] def q23_11 : List AI := [
 .j 4 (.mov (.c .nils)),
 .j 5 (.mov (.z 0)),
 .j 6 (.mov (.c (.bool false)))]
@[go_sem] def verify_search_c : AC := .seq (.ops [q23_0]) (.seq (.seq (.ops [q23_1]) (.seq (.ops [q23_2]) (.cond (.t 16) (.seq (.ops [q23_3]) (.ret)) (.skip)))) (.seq (.seq (.ops [q23_4]) (.block 0 (.loop verify_search_l0))) (.seq (.ops [q23_11]) (.ret))))
theorem verify_search_ok : compF Tryz.prog 23 = some (42, verify_search_c, [.t 4, .t 5, .t 6]) := by kernel_rfl

@[go_sem] def q24_0 : List AI := [
 .j 1 (.box 240001 11 (.t 0)),
 .j 2 (.mov (.z 0))]
@[go_sem] def q24_1 : List AI := [
 .j 3 (.mov (.z 0))]
@[go_sem] def q24_2 : List AI := [
 .j 6 (.faddr 8 (.t 1)),
 .j 7 (.load 1 false (.t 6)),
 .j 8 (.len 0 (.t 7)),
 .j 9 (.mov (.z 0))]
@[go_sem] def q24_3 : List AI := [
 .j 10 (.bin .lss (.t 9) (.t 8))]
@[go_sem] def q24_4 : List AI := [
 .j 11 (.iaddr 11 (.t 7) (.t 9)),
 .j 12 (.load 11 true (.t 11)),
 .j 5 (.box 240005 11 (.c (.agg [(.str []), (.int .i64 0), (.int .i64 0), (.bool false), (.int .i64 0), .nils, .nils, .nils, .nils, .nils, .nils]))),
 .e (.store 11 (.t 5) (.t 12))]
@[go_sem] def q24_5 : List AI := [
 .j 13 (.mov (.t 3)),
 .j 14 (.load 11 true (.t 5)),
 .j 15 (.call 24 [(.t 14)]),
 .j 16 (.mm true [(.t 13), (.t 15)]),
 .j 3 (.mov (.t 16))]
@[go_sem] def q24_6 : List AI := [
 .j 17 (.bin .add (.t 9) (.z 1)),
 .j 9 (.mov (.t 17))]
@[go_sem] def proto_depth_l0' : AC := .seq (.ops [q24_3]) (.seq (.cond (.t 10) (.skip) (.exit 0)) (.seq (.block 1 (.seq (.ops [q24_4]) (.ops [q24_5]))) (.ops [q24_6])))
def proto_depth_l0 : AC := proto_depth_l0'
theorem proto_depth_l0_eq : proto_depth_l0 = proto_depth_l0' := rfl
@[go_sem] def q24_7 : List AI := [
 .j 18 (.mov (.t 3)),
 .j 19 (.bin .add (.t 18) (.z 1)),
 .j 2 (.mov (.t 19))]
@[go_sem] def proto_depth_c : AC := .seq (.ops [q24_0]) (.seq (.ops [q24_1]) (.seq (.seq (.ops [q24_2]) (.block 0 (.loop proto_depth_l0))) (.seq (.ops [q24_7]) (.ret))))
theorem proto_depth_ok : compF Tryz.prog 24 = some (20, proto_depth_c, [.t 2]) := by kernel_rfl

@[go_sem] def q25_0 : List AI := [
 .j 1 (.box 250001 11 (.t 0)),
 .j 2 (.mov (.c (.cst .nilFunc)))]
@[go_sem] def q25_1 : List AI := [
 .j 3 (.mkfn 38 [(.t 1)]),
 .j 2 (.mov (.t 3))]
@[go_sem] def proto_Each_c : AC := .seq (.ops [q25_0]) (.seq (.ops [q25_1]) (.ret))
theorem proto_Each_ok : compF Tryz.prog 25 = some (4, proto_Each_c, [.t 2]) := by kernel_rfl

@[go_sem] def q26_0 : List AI := [
 .j 1 (.box 260001 11 (.t 0)),
 .j 2 (.mov (.z 0))]
@[go_sem] def q26_1 : List AI := [
 .j 12 (.load 11 true (.t 1)),
 .j 13 (.call 41 [(.t 12)]),
 .j 3 (.mov (.t 13))]
@[go_sem] def q26_2 : List AI := [
 .j 14 (.mov (.t 3)),
 .j 15 (.bin .neq (.t 14) (.z 0))]
@[go_sem] def q26_3 : List AI := [
 .j 16 (.mov (.t 3)),
 .j 2 (.mov (.t 16))]
@[go_sem] def q26_4 : List AI := [
 .j 17 (.load 11 true (.t 1)),
 .j 18 (.call 42 [(.t 17)]),
 .j 4 (.mov (.t 18))]
@[go_sem] def q26_5 : List AI := [
 .j 19 (.mov (.t 4)),
 .j 20 (.bin .neq (.t 19) (.z 0))]
@[go_sem] def q26_6 : List AI := [
 .j 21 (.mov (.t 4)),
 .j 2 (.mov (.t 21))]
@[go_sem] def q26_7 : List AI := [
 .j 22 (.faddr 5 (.t 1)),
 .j 23 (.load 1 false (.t 22)),
 .j 24 (.len 0 (.t 23)),
 .j 25 (.mov (.z 0))]
@[go_sem] def q26_8 : List AI := [
 .j 26 (.bin .lss (.t 25) (.t 24))]
@[go_sem] def q26_9 : List AI := [
 .j 27 (.iaddr 5 (.t 23) (.t 25)),
 .j 28 (.load 5 true (.t 27)),
 .j 6 (.box 260006 5 (.c (.agg [(.int .i64 0), (.int .i64 0), (.int .i64 0), (.int .i64 0), (.int .i64 0)]))),
 .e (.store 5 (.t 6) (.t 28))]
@[go_sem] def q26_10 : List AI := [
 .j 29 (.load 11 true (.t 1)),
 .j 30 (.load 5 true (.t 6)),
 .j 31 (.call 43 [(.t 29), (.t 30)]),
 .j 7 (.mov (.t 31))]
@[go_sem] def q26_11 : List AI := [
 .j 32 (.mov (.t 7)),
 .j 33 (.bin .neq (.t 32) (.z 0))]
@[go_sem] def q26_12 : List AI := [
 .j 34 (.mov (.t 7)),
 .j 2 (.mov (.t 34))]
@[go_sem] def q26_13 : List AI := [
 .j 35 (.bin .add (.t 25) (.z 1)),
 .j 25 (.mov (.t 35))]
@[go_sem] def proto_single_l0' : AC := .seq (.ops [q26_8]) (.seq (.cond (.t 26) (.skip) (.exit 0)) (.seq (.block 1 (.seq (.ops [q26_9]) (.seq (.ops [q26_10]) (.seq (.ops [q26_11]) (.cond (.t 33) (.seq (.ops [q26_12]) (.ret)) (.skip)))))) (.ops [q26_13])))
def proto_single_l0 : AC := proto_single_l0'
theorem proto_single_l0_eq : proto_single_l0 = proto_single_l0' := rfl
@[go_sem] def q26_14 : List AI := [
 .j 36 (.faddr 8 (.t 1)),
 .j 37 (.load 1 false (.t 36)),
 .j 38 (.len 0 (.t 37)),
 .j 39 (.mov (.z 0))]
@[go_sem] def q26_15 : List AI := [
 .j 40 (.bin .lss (.t 39) (.t 38))]
@[go_sem] def q26_16 : List AI := [
 .j 41 (.iaddr 11 (.t 37) (.t 39)),
 .j 42 (.load 11 true (.t 41)),
 .j 9 (.box 260009 11 (.c (.agg [(.str []), (.int .i64 0), (.int .i64 0), (.bool false), (.int .i64 0), .nils, .nils, .nils, .nils, .nils, .nils]))),
 .e (.store 11 (.t 9) (.t 42))]
@[go_sem] def q26_17 : List AI := [
 .j 43 (.faddr 9 (.t 9)),
 .j 44 (.load 1 false (.t 43)),
 .j 45 (.len 0 (.t 44)),
 .j 46 (.mov (.z 0))]
@[go_sem] def q26_18 : List AI := [
 .j 47 (.bin .lss (.t 46) (.t 45))]
@[go_sem] def q26_19 : List AI := [
 .j 48 (.iaddr 3 (.t 44) (.t 46)),
 .j 49 (.load 3 true (.t 48)),
 .j 11 (.box 260011 3 (.c (.agg [(.str []), (.bool false), (.int .i64 0)]))),
 .e (.store 3 (.t 11) (.t 49))]
@[go_sem] def q26_20 : List AI := [
 .j 50 (.faddr 1 (.t 11)),
 .j 51 (.load 1 false (.t 50)),
 .j 52 (.mov (.t 51)),
 .k 53 52 true (.faddr 2 (.t 11)),
 .k 54 52 true (.load 1 false (.t 53)),
 .k 55 52 true (.faddr 4 (.t 1)),
 .k 56 52 true (.load 1 false (.t 55)),
 .k 57 52 true (.bin .geq (.t 54) (.t 56)),
 .j 58 (.pick (.t 52) (.t 57) (.c (.bool false))),
 .j 59 (.mov (.t 58)),
 .k 60 59 false (.faddr 1 (.t 11)),
 .k 61 59 false (.load 1 false (.t 60)),
 .k 62 59 false (.un .not (.t 61)),
 .k 63 59 false (.mov (.t 62)),
 .k 64 63 true (.faddr 2 (.t 11)),
 .k 65 63 true (.load 1 false (.t 64)),
 .k 66 63 true (.faddr 9 (.t 1)),
 .k 67 63 true (.load 1 false (.t 66)),
 .k 68 63 true (.len 0 (.t 67)),
 .k 69 63 true (.bin .geq (.t 65) (.t 68)),
 .k 70 59 false (.pick (.t 63) (.t 69) (.c (.bool false))),
 .j 71 (.pick (.t 59) (.c (.bool true)) (.t 70))]
@[go_sem] def q26_21 : List AI := [
 .j 2 (.mov (.z 4))]
@[go_sem] def q26_22 : List AI := [
 .j 72 (.bin .add (.t 46) (.z 1)),
 .j 46 (.mov (.t 72))]
@[go_sem] def proto_single_l2' : AC := .seq (.ops [q26_18]) (.seq (.cond (.t 47) (.skip) (.exit 4)) (.seq (.block 5 (.seq (.ops [q26_19]) (.seq (.ops [q26_20]) (.cond (.t 71) (.seq (.ops [q26_21]) (.ret)) (.skip))))) (.ops [q26_22])))
def proto_single_l2 : AC := proto_single_l2'
theorem proto_single_l2_eq : proto_single_l2 = proto_single_l2' := rfl
@[go_sem] def q26_23 : List AI := [
 .j 73 (.bin .add (.t 39) (.z 1)),
 .j 39 (.mov (.t 73))]
@[go_sem] def proto_single_l1' : AC := .seq (.ops [q26_15]) (.seq (.cond (.t 40) (.skip) (.exit 2)) (.seq (.block 3 (.seq (.ops [q26_16]) (.seq (.ops [q26_17]) (.block 4 (.loop proto_single_l2))))) (.ops [q26_23])))
def proto_single_l1 : AC := proto_single_l1'
theorem proto_single_l1_eq : proto_single_l1 = proto_single_l1' := rfl
@[go_sem] def q26_24 : List AI := [
 .j 2 (.mov (.z 0))]
@[go_sem] def proto_single_c : AC := .seq (.ops [q26_0]) (.seq (.seq (.ops [q26_1]) (.seq (.ops [q26_2]) (.cond (.t 15) (.seq (.ops [q26_3]) (.ret)) (.skip)))) (.seq (.seq (.ops [q26_4]) (.seq (.ops [q26_5]) (.cond (.t 20) (.seq (.ops [q26_6]) (.ret)) (.skip)))) (.seq (.seq (.ops [q26_7]) (.block 0 (.loop proto_single_l0))) (.seq (.seq (.ops [q26_14]) (.block 2 (.loop proto_single_l1))) (.seq (.ops [q26_24]) (.ret))))))
theorem proto_single_ok : compF Tryz.prog 26 = some (74, proto_single_c, [.t 2]) := by kernel_rfl

@[go_sem] def q27_0 : List AI := [
 .j 1 (.box 270001 11 (.t 0)),
 .j 2 (.box 270002 3 (.c (.agg [.nils, (.int .i64 0), .nils])))]
@[go_sem] def q27_1 : List AI := [
 .j 5 (.faddr 4 (.t 1)),
 .j 6 (.load 1 false (.t 5)),
 .j 7 (.mksl 270007 [(.bool false)] (.t 6)),
 .j 8 (.build [.nils, (.int .i64 0), .nils] [(0, 1, (.t 7)), (1, 1, (.z (-1)))]),
 .j 3 (.box 270003 3 (.c (.agg [.nils, (.int .i64 0), .nils]))),
 .e (.store 3 (.t 3) (.t 8))]
@[go_sem] def q27_2 : List AI := [
 .j 9 (.faddr 2 (.t 1)),
 .j 10 (.load 1 false (.t 9)),
 .j 11 (.mov (.z 0))]
@[go_sem] def q27_3 : List AI := [
 .j 12 (.bin .lss (.t 11) (.t 10))]
@[go_sem] def q27_4 : List AI := [
 .j 13 (.mov (.t 11)),
 .j 4 (.mov (.t 13))]
@[go_sem] def q27_5 : List AI := [
 .j 14 (.faddr 0 (.t 3)),
 .j 15 (.load 1 false (.t 14)),
 .j 16 (.mov (.t 4)),
 .j 17 (.iaddr 1 (.t 15) (.t 16)),
 .e (.store 1 (.t 17) (.c (.bool true)))]
@[go_sem] def q27_6 : List AI := [
 .j 18 (.bin .add (.t 11) (.z 1)),
 .j 11 (.mov (.t 18))]
@[go_sem] def verify_entry_l0' : AC := .seq (.ops [q27_3]) (.seq (.cond (.t 12) (.skip) (.exit 0)) (.seq (.block 1 (.seq (.ops [q27_4]) (.ops [q27_5]))) (.ops [q27_6])))
def verify_entry_l0 : AC := verify_entry_l0'
theorem verify_entry_l0_eq : verify_entry_l0 = verify_entry_l0' := rfl
@[go_sem] def q27_7 : List AI := [
 .j 19 (.load 3 true (.t 3)),
 .e (.store 3 (.t 2) (.t 19))]
@[go_sem] def verify_entry_c : AC := .seq (.ops [q27_0]) (.seq (.ops [q27_1]) (.seq (.seq (.ops [q27_2]) (.block 0 (.loop verify_entry_l0))) (.seq (.ops [q27_7]) (.ret))))
theorem verify_entry_ok : compF Tryz.prog 27 = some (20, verify_entry_c, [.c 2 3 true]) := by kernel_rfl

@[go_sem] def q28_0 : List AI := [
 .j 3 (.box 280003 11 (.t 0)),
 .j 4 (.box 280004 2 (.t 1)),
 .j 5 (.box 280005 3 (.t 2)),
 .j 6 (.box 280006 3 (.c (.agg [.nils, (.int .i64 0), .nils])))]
@[go_sem] def q28_1 : List AI := [
 .j 10 (.faddr 5 (.t 3)),
 .j 11 (.load 1 false (.t 10)),
 .j 12 (.iaddrA 2 1 (.t 4) (.z 0)),
 .j 13 (.load 1 false (.t 12)),
 .j 14 (.iaddr 5 (.t 11) (.t 13)),
 .j 15 (.load 5 true (.t 14)),
 .j 7 (.box 280007 5 (.c (.agg [(.int .i64 0), (.int .i64 0), (.int .i64 0), (.int .i64 0), (.int .i64 0)]))),
 .e (.store 5 (.t 7) (.t 15))]
@[go_sem] def q28_2 : List AI := [
 .j 16 (.load 5 true (.t 7)),
 .j 17 (.load 3 true (.t 5)),
 .j 18 (.call 44 [(.t 16), (.t 17)]),
 .j 8 (.box 280008 3 (.c (.agg [.nils, (.int .i64 0), .nils]))),
 .e (.store 3 (.t 8) (.t 18))]
@[go_sem] def q28_3 : List AI := [
 .j 19 (.faddr 0 (.t 7)),
 .j 20 (.load 1 false (.t 19)),
 .j 21 (.bin .eql (.t 20) (.z 23)),
 .j 22 (.mov (.t 21)),
 .k 23 22 true (.iaddrA 2 1 (.t 4) (.z 1)),
 .k 24 22 true (.load 1 false (.t 23)),
 .k 25 22 true (.faddr 2 (.t 7)),
 .k 26 22 true (.load 1 false (.t 25)),
 .k 27 22 true (.bin .eql (.t 24) (.t 26)),
 .j 28 (.pick (.t 22) (.t 27) (.c (.bool false))),
 .j 29 (.mov (.t 28)),
 .k 30 29 false (.faddr 0 (.t 7)),
 .k 31 29 false (.load 1 false (.t 30)),
 .k 32 29 false (.bin .eql (.t 31) (.z 24)),
 .k 33 29 false (.mov (.t 32)),
 .k 34 33 true (.iaddrA 2 1 (.t 4) (.z 1)),
 .k 35 33 true (.load 1 false (.t 34)),
 .k 36 33 true (.faddr 2 (.t 7)),
 .k 37 33 true (.load 1 false (.t 36)),
 .k 38 33 true (.bin .neq (.t 35) (.t 37)),
 .k 39 33 true (.mov (.t 38)),
 .k 40 39 false (.faddr 2 (.t 7)),
 .k 41 39 false (.load 1 false (.t 40)),
 .k 42 39 false (.iaddrA 2 1 (.t 4) (.z 0)),
 .k 43 39 false (.load 1 false (.t 42)),
 .k 44 39 false (.bin .add (.t 43) (.z 1)),
 .k 45 39 false (.bin .eql (.t 41) (.t 44)),
 .k 46 33 true (.pick (.t 39) (.c (.bool true)) (.t 45)),
 .k 47 29 false (.pick (.t 33) (.t 46) (.c (.bool false))),
 .j 48 (.pick (.t 29) (.c (.bool true)) (.t 47)),
 .j 9 (.mov (.t 48))]
@[go_sem] def q28_4 : List AI := [
 .j 49 (.mov (.t 9)),
 .j 50 (.mov (.t 49)),
 .k 51 50 true (.faddr 0 (.t 5)),
 .k 52 50 true (.load 1 false (.t 51)),
 .k 53 50 true (.faddr 1 (.t 7)),
 .k 54 50 true (.load 1 false (.t 53)),
 .k 55 50 true (.bin .add (.t 54) (.z 3)),
 .k 56 50 true (.iaddr 1 (.t 52) (.t 55)),
 .k 57 50 true (.load 1 false (.t 56)),
 .k 58 50 true (.un .not (.t 57)),
 .j 59 (.pick (.t 50) (.t 58) (.c (.bool false)))]
@[go_sem] def q28_5 : List AI := [
 .j 60 (.faddr 0 (.t 8)),
 .j 61 (.load 1 false (.t 60)),
 .j 62 (.faddr 1 (.t 7)),
 .j 63 (.load 1 false (.t 62)),
 .j 64 (.bin .add (.t 63) (.z 3)),
 .j 65 (.iaddr 1 (.t 61) (.t 64)),
 .e (.store 1 (.t 65) (.c (.bool false)))]
@[go_sem] def q28_6 : List AI := [
 .j 66 (.load 3 true (.t 8)),
 .e (.store 3 (.t 6) (.t 66))]
@[go_sem] def verify_passed_c : AC := .seq (.ops [q28_0]) (.seq (.ops [q28_1]) (.seq (.ops [q28_2]) (.seq (.ops [q28_3]) (.seq (.seq (.ops [q28_4]) (.cond (.t 59) (.ops [q28_5]) (.skip))) (.seq (.ops [q28_6]) (.ret))))))
theorem verify_passed_ok : compF Tryz.prog 28 = some (67, verify_passed_c, [.c 6 3 true]) := by kernel_rfl

@[go_sem] def q29_0 : List AI := [
 .j 2 (.box 290002 3 (.t 0)),
 .j 3 (.box 290003 3 (.t 1)),
 .j 4 (.mov (.c (.bool false)))]
@[go_sem] def q29_1 : List AI := [
 .j 5 (.mov (.c (.bool false)))]
@[go_sem] def q29_2 : List AI := [
 .j 7 (.faddr 0 (.t 2)),
 .j 8 (.load 1 false (.t 7)),
 .j 9 (.len 0 (.t 8)),
 .j 10 (.mov (.z 0))]
@[go_sem] def q29_3 : List AI := [
 .j 11 (.bin .lss (.t 10) (.t 9))]
@[go_sem] def q29_4 : List AI := [
 .j 12 (.mov (.t 10)),
 .j 6 (.mov (.t 12))]
@[go_sem] def q29_5 : List AI := [
 .j 13 (.faddr 0 (.t 2)),
 .j 14 (.load 1 false (.t 13)),
 .j 15 (.mov (.t 6)),
 .j 16 (.iaddr 1 (.t 14) (.t 15)),
 .j 17 (.load 1 false (.t 16)),
 .j 18 (.mov (.t 17)),
 .k 19 18 true (.faddr 0 (.t 3)),
 .k 20 18 true (.load 1 false (.t 19)),
 .k 21 18 true (.mov (.t 6)),
 .k 22 18 true (.iaddr 1 (.t 20) (.t 21)),
 .k 23 18 true (.load 1 false (.t 22)),
 .k 24 18 true (.un .not (.t 23)),
 .j 25 (.pick (.t 18) (.t 24) (.c (.bool false)))]
@[go_sem] def q29_6 : List AI := [
 .j 26 (.faddr 0 (.t 2)),
 .j 27 (.load 1 false (.t 26)),
 .j 28 (.mov (.t 6)),
 .j 29 (.iaddr 1 (.t 27) (.t 28)),
 .e (.store 1 (.t 29) (.c (.bool false)))]
@[go_sem] def q29_7 : List AI := [
 .j 5 (.mov (.c (.bool true)))]
@[go_sem] def q29_8 : List AI := [
 .j 30 (.bin .add (.t 10) (.z 1)),
 .j 10 (.mov (.t 30))]
@[go_sem] def verify_join_l0' : AC := .seq (.ops [q29_3]) (.seq (.cond (.t 11) (.skip) (.exit 0)) (.seq (.block 1 (.seq (.ops [q29_4]) (.seq (.ops [q29_5]) (.cond (.t 25) (.seq (.ops [q29_6]) (.ops [q29_7])) (.skip))))) (.ops [q29_8])))
def verify_join_l0 : AC := verify_join_l0'
theorem verify_join_l0_eq : verify_join_l0 = verify_join_l0' := rfl
@[go_sem] def q29_9 : List AI := [
 .j 31 (.mov (.t 5)),
 .j 4 (.mov (.t 31))]
@[go_sem] def verify_join_c : AC := .seq (.ops [q29_0]) (.seq (.ops [q29_1]) (.seq (.seq (.ops [q29_2]) (.block 0 (.loop verify_join_l0))) (.seq (.ops [q29_9]) (.ret))))
theorem verify_join_ok : compF Tryz.prog 29 = some (32, verify_join_c, [.t 4]) := by kernel_rfl

@[go_sem] def q30_0 : List AI := [
 .j 2 (.box 300002 11 (.t 0)),
 .j 4 (.mov (.c .nils))]
@[go_sem] def q30_1 : List AI := [
 .j 8 (.mov (.t 1)),
 .j 9 (.bin .lss (.t 8) (.z 0)),
 .j 10 (.mov (.t 9)),
 .k 11 10 false (.mov (.t 1)),
 .k 12 10 false (.faddr 5 (.t 2)),
 .k 13 10 false (.load 1 false (.t 12)),
 .k 14 10 false (.len 0 (.t 13)),
 .k 15 10 false (.bin .geq (.t 11) (.t 14)),
 .j 16 (.pick (.t 10) (.c (.bool true)) (.t 15))]
@[go_sem] def q30_2 : List AI := [
 .j 4 (.mov (.c .nils))]
@[go_sem] def q30_3 : List AI := [
 .j 5 (.mov (.c .nils))]
@[go_sem] def q30_4 : List AI := [
 .j 18 (.faddr 5 (.t 2)),
 .j 19 (.load 1 false (.t 18)),
 .j 20 (.mov (.t 1)),
 .j 21 (.iaddr 5 (.t 19) (.t 20)),
 .j 22 (.load 5 true (.t 21)),
 .j 23 (.call 45 [(.t 22)]),
 .j 17 (.mov (.t 23)),
 .j 24 (.ext 0 (.t 17)),
 .j 25 (.ext 1 (.t 17)),
 .j 6 (.mov (.t 24)),
 .j 7 (.mov (.t 25))]
@[go_sem] def q30_5 : List AI := [
 .j 26 (.mov (.t 7)),
 .j 27 (.mov (.t 26)),
 .k 28 27 true (.mov (.t 6)),
 .k 29 27 true (.bin .geq (.t 28) (.z 0)),
 .j 30 (.pick (.t 27) (.t 29) (.c (.bool false))),
 .j 31 (.mov (.t 30)),
 .k 32 31 true (.mov (.t 6)),
 .k 33 31 true (.faddr 5 (.t 2)),
 .k 34 31 true (.load 1 false (.t 33)),
 .k 35 31 true (.len 0 (.t 34)),
 .k 36 31 true (.bin .lss (.t 32) (.t 35)),
 .j 37 (.pick (.t 31) (.t 36) (.c (.bool false)))]
@[go_sem] def q30_6 : List AI := [
 .j 38 (.mov (.t 5)),
 .j 39 (.mov (.t 6)),
 .j 40 (.mkisl 1 [(.t 39)]),
 .j 41 (.app 300041 1 (.t 38) (.t 40)),
 .j 5 (.mov (.t 41))]
@[go_sem] def q30_7 : List AI := [
 .j 42 (.faddr 5 (.t 2)),
 .j 43 (.load 1 false (.t 42)),
 .j 44 (.mov (.t 1)),
 .j 45 (.iaddr 5 (.t 43) (.t 44)),
 .j 46 (.load 5 true (.t 45)),
 .j 47 (.call 46 [(.t 46)]),
 .j 48 (.mov (.t 47)),
 .k 49 48 true (.mov (.t 1)),
 .k 50 48 true (.bin .add (.t 49) (.z 1)),
 .k 51 48 true (.faddr 5 (.t 2)),
 .k 52 48 true (.load 1 false (.t 51)),
 .k 53 48 true (.len 0 (.t 52)),
 .k 54 48 true (.bin .lss (.t 50) (.t 53)),
 .j 55 (.pick (.t 48) (.t 54) (.c (.bool false)))]
@[go_sem] def q30_8 : List AI := [
 .j 56 (.mov (.t 5)),
 .j 57 (.mov (.t 1)),
 .j 58 (.bin .add (.t 57) (.z 1)),
 .j 59 (.mkisl 1 [(.t 58)]),
 .j 60 (.app 300060 1 (.t 56) (.t 59)),
 .j 5 (.mov (.t 60))]
@[go_sem] def q30_9 : List AI := [
 .j 61 (.mov (.t 5)),
 .j 62 (.call 47 [(.t 61)])]
@[go_sem] def q30_10 : List AI := [
 .j 63 (.mov (.t 5)),
 .j 64 (.call 48 [(.t 63)]),
 .j 4 (.mov (.t 64))]
@[go_sem] def flow_Next_c : AC := .seq (.ops [q30_0]) (.seq (.seq (.ops [q30_1]) (.cond (.t 16) (.seq (.ops [q30_2]) (.ret)) (.skip))) (.seq (.ops [q30_3]) (.seq (.seq (.ops [q30_4]) (.seq (.ops [q30_5]) (.cond (.t 37) (.ops [q30_6]) (.skip)))) (.seq (.seq (.ops [q30_7]) (.cond (.t 55) (.ops [q30_8]) (.skip))) (.seq (.ops [q30_9]) (.seq (.ops [q30_10]) (.ret)))))))
theorem flow_Next_ok : compF Tryz.prog 30 = some (65, flow_Next_c, [.t 4]) := by kernel_rfl

@[go_sem] def q31_0 : List AI := [
 .j 2 (.box 310002 13 (.c (.agg [(.str []), (.bool false), (.bool false), (.bool false), (.bool false), (.int .i64 0), (.int .i64 0), (.int .i64 0), (.int .i64 0), (.int .i64 0), (.int .i64 0), (.int .i64 0), (.int .i64 0)])))]
@[go_sem] def q31_1 : List AI := [
 .j 5 (.build [(.int .i64 0), (.int .i64 0)] [(0, 1, (.z 0)), (1, 1, (.z 4095))]),
 .j 3 (.box 310003 2 (.c (.agg [(.int .i64 0), (.int .i64 0)]))),
 .e (.store 2 (.t 3) (.t 5))]
@[go_sem] def q31_2 : List AI := [
 .j 6 (.mov (.t 0))]
@[go_sem] def q31_3 : List AI := [
 .j 8 (.bin .eql (.t 6) (.z 1)),
 .j 7 (.mov (.t 8))]
@[go_sem] def q31_4 : List AI := [
 .j 9 (.call 49 [(.c (.str [109, 111, 118, 101])), (.z 4095), (.z 0), (.z 4095)]),
 .e (.store 13 (.t 2) (.t 9))]
@[go_sem] def q31_5 : List AI := [
 .j 11 (.bin .eql (.t 6) (.z 2)),
 .j 10 (.mov (.t 11))]
@[go_sem] def q31_6 : List AI := [
 .j 12 (.call 49 [(.c (.str [99, 111, 110, 115, 116])), (.z 4095), (.z 0), (.z 4095)]),
 .e (.store 13 (.t 2) (.t 12))]
@[go_sem] def q31_7 : List AI := [
 .j 14 (.bin .eql (.t 6) (.z 3)),
 .j 13 (.mov (.t 14))]
@[go_sem] def q31_8 : List AI := [
 .j 15 (.call 49 [(.c (.str [110, 105, 108])), (.z 4095), (.z 0), (.z 4095)]),
 .e (.store 13 (.t 2) (.t 15))]
@[go_sem] def q31_9 : List AI := [
 .j 17 (.bin .eql (.t 6) (.z 4)),
 .j 16 (.mov (.t 17))]
@[go_sem] def q31_10 : List AI := [
 .j 18 (.call 49 [(.c (.str [98, 111, 111, 108])), (.z 4095), (.z 0), (.z 1)]),
 .e (.store 13 (.t 2) (.t 18))]
@[go_sem] def q31_11 : List AI := [
 .j 20 (.bin .eql (.t 6) (.z 5)),
 .j 19 (.mov (.t 20))]
@[go_sem] def q31_12 : List AI := [
 .j 21 (.call 49 [(.c (.str [117, 112, 103, 101, 116])), (.z 4095), (.z 0), (.z 59)]),
 .e (.store 13 (.t 2) (.t 21))]
@[go_sem] def q31_13 : List AI := [
 .j 23 (.bin .eql (.t 6) (.z 6)),
 .j 22 (.mov (.t 23))]
@[go_sem] def q31_14 : List AI := [
 .j 24 (.call 49 [(.c (.str [117, 112, 115, 101, 116])), (.z 59), (.z 0), (.z 4095)]),
 .e (.store 13 (.t 2) (.t 24))]
@[go_sem] def q31_15 : List AI := [
 .j 26 (.bin .eql (.t 6) (.z 7)),
 .j 25 (.mov (.t 26))]
@[go_sem] def q31_16 : List AI := [
 .j 27 (.call 49 [(.c (.str [103, 108, 111, 98, 97, 108])), (.z 4095), (.z 0), (.z 4095)]),
 .e (.store 13 (.t 2) (.t 27))]
@[go_sem] def q31_17 : List AI := [
 .j 29 (.bin .eql (.t 6) (.z 8)),
 .j 28 (.mov (.t 29))]
@[go_sem] def q31_18 : List AI := [
 .j 30 (.call 49 [(.c (.str [115, 101, 116, 103, 108, 111, 98])), (.z 4095), (.z 0), (.z 4095)]),
 .e (.store 13 (.t 2) (.t 30))]
@[go_sem] def q31_19 : List AI := [
 .j 32 (.bin .eql (.t 6) (.z 9)),
 .j 31 (.mov (.t 32))]
@[go_sem] def q31_20 : List AI := [
 .j 33 (.load 2 true (.t 3)),
 .j 34 (.load 2 true (.t 3)),
 .j 35 (.call 50 [(.c (.str [103, 101, 116])), (.z 4095), (.t 33), (.t 34)]),
 .e (.store 13 (.t 2) (.t 35))]
@[go_sem] def q31_21 : List AI := [
 .j 37 (.bin .eql (.t 6) (.z 10)),
 .j 36 (.mov (.t 37))]
@[go_sem] def q31_22 : List AI := [
 .j 38 (.load 2 true (.t 3)),
 .j 39 (.load 2 true (.t 3)),
 .j 40 (.call 50 [(.c (.str [115, 101, 116])), (.z 4095), (.t 38), (.t 39)]),
 .e (.store 13 (.t 2) (.t 40))]
@[go_sem] def q31_23 : List AI := [
 .j 42 (.bin .eql (.t 6) (.z 11)),
 .j 41 (.mov (.t 42))]
@[go_sem] def q31_24 : List AI := [
 .j 43 (.load 2 true (.t 3)),
 .j 44 (.build [(.int .i64 0), (.int .i64 0)] [(0, 1, (.z 0)), (1, 1, (.z 4095))]),
 .j 45 (.call 50 [(.c (.str [115, 101, 108, 102])), (.z 4094), (.t 43), (.t 44)]),
 .e (.store 13 (.t 2) (.t 45))]
@[go_sem] def q31_25 : List AI := [
 .j 47 (.bin .eql (.t 6) (.z 12)),
 .j 46 (.mov (.t 47))]
@[go_sem] def q31_26 : List AI := [
 .j 48 (.load 2 true (.t 3)),
 .j 49 (.build [(.int .i64 0), (.int .i64 0)] [(0, 1, (.z 20)), (1, 1, (.z 23))]),
 .j 50 (.call 50 [(.c (.str [117, 110, 97, 114, 121])), (.z 4095), (.t 48), (.t 49)]),
 .e (.store 13 (.t 2) (.t 50))]
@[go_sem] def q31_27 : List AI := [
 .j 52 (.bin .eql (.t 6) (.z 13)),
 .j 51 (.mov (.t 52))]
@[go_sem] def q31_28 : List AI := [
 .j 53 (.load 2 true (.t 3)),
 .j 54 (.load 2 true (.t 3)),
 .j 55 (.call 50 [(.c (.str [98, 105, 110, 97, 114, 121])), (.z 4095), (.t 53), (.t 54)]),
 .j 4 (.box 310004 13 (.c (.agg [(.str []), (.bool false), (.bool false), (.bool false), (.bool false), (.int .i64 0), (.int .i64 0), (.int .i64 0), (.int .i64 0), (.int .i64 0), (.int .i64 0), (.int .i64 0), (.int .i64 0)]))),
 .e (.store 13 (.t 4) (.t 55))]
@[go_sem] def q31_29 : List AI := [
 .j 56 (.faddr 1 (.t 4)),
 .j 57 (.iaddrA 4 1 (.t 56) (.z 3)),
 .e (.store 1 (.t 57) (.c (.bool true)))]
@[go_sem] def q31_30 : List AI := [
 .j 58 (.faddr 5 (.t 4)),
 .j 59 (.iaddrA 4 1 (.t 58) (.z 3)),
 .e (.store 1 (.t 59) (.z 1))]
@[go_sem] def q31_31 : List AI := [
 .j 60 (.faddr 9 (.t 4)),
 .j 61 (.iaddrA 4 1 (.t 60) (.z 3)),
 .e (.store 1 (.t 61) (.z 19))]
@[go_sem] def q31_32 : List AI := [
 .j 62 (.load 13 true (.t 4)),
 .e (.store 13 (.t 2) (.t 62))]
@[go_sem] def q31_33 : List AI := [
 .j 63 (.mov (.t 0)),
 .j 64 (.call 51 [(.t 63)]),
 .e (.store 13 (.t 2) (.t 64))]
@[go_sem] def scriptingref32_data_c : AC := .seq (.ops [q31_0]) (.seq (.ops [q31_1]) (.seq (.seq (.ops [q31_2]) (.block 0 (.seq (.ops [q31_3]) (.cond (.t 7) (.seq (.ops [q31_4]) (.ret)) (.seq (.ops [q31_5]) (.cond (.t 10) (.seq (.ops [q31_6]) (.ret)) (.seq (.ops [q31_7]) (.cond (.t 13) (.seq (.ops [q31_8]) (.ret)) (.seq (.ops [q31_9]) (.cond (.t 16) (.seq (.ops [q31_10]) (.ret)) (.seq (.ops [q31_11]) (.cond (.t 19) (.seq (.ops [q31_12]) (.ret)) (.seq (.ops [q31_13]) (.cond (.t 22) (.seq (.ops [q31_14]) (.ret)) (.seq (.ops [q31_15]) (.cond (.t 25) (.seq (.ops [q31_16]) (.ret)) (.seq (.ops [q31_17]) (.cond (.t 28) (.seq (.ops [q31_18]) (.ret)) (.seq (.ops [q31_19]) (.cond (.t 31) (.seq (.ops [q31_20]) (.ret)) (.seq (.ops [q31_21]) (.cond (.t 36) (.seq (.ops [q31_22]) (.ret)) (.seq (.ops [q31_23]) (.cond (.t 41) (.seq (.ops [q31_24]) (.ret)) (.seq (.ops [q31_25]) (.cond (.t 46) (.seq (.ops [q31_26]) (.ret)) (.seq (.ops [q31_27]) (.cond (.t 51) (.seq (.ops [q31_28]) (.seq (.ops [q31_29]) (.seq (.ops [q31_30]) (.seq (.ops [q31_31]) (.seq (.ops [q31_32]) (.ret)))))) (.skip))))))))))))))))))))))))))))) (.seq (.ops [q31_33]) (.ret))))
theorem scriptingref32_data_ok : compF Tryz.prog 31 = some (65, scriptingref32_data_c, [.c 2 13 true]) := by kernel_rfl

@[go_sem] def q32_0 : List AI := [
 .j 1 (.box 320001 5 (.t 0)),
 .j 2 (.box 320002 4 (.c (.agg [(.int .i64 0), (.int .i64 0), (.int .i64 0), (.int .i64 0)])))]
@[go_sem] def q32_1 : List AI := [
 .j 3 (.faddr 1 (.t 1)),
 .j 4 (.load 1 false (.t 3)),
 .j 5 (.faddr 2 (.t 1)),
 .j 6 (.load 1 false (.t 5)),
 .j 7 (.faddr 3 (.t 1)),
 .j 8 (.load 1 false (.t 7)),
 .j 9 (.faddr 4 (.t 1)),
 .j 10 (.load 1 false (.t 9)),
 .j 11 (.build [(.int .i64 0), (.int .i64 0), (.int .i64 0), (.int .i64 0)] [(0, 1, (.t 4)), (1, 1, (.t 6)), (2, 1, (.t 8)), (3, 1, (.t 10))]),
 .e (.store 4 (.t 2) (.t 11))]
@[go_sem] def scriptingref32_fields_c : AC := .seq (.ops [q32_0]) (.seq (.ops [q32_1]) (.ret))
theorem scriptingref32_fields_ok : compF Tryz.prog 32 = some (12, scriptingref32_fields_c, [.c 2 4 true]) := by kernel_rfl

@[go_sem] def q33_0 : List AI := [
 .j 1 (.box 330001 5 (.t 0)),
 .j 2 (.mov (.z 0))]
@[go_sem] def q33_1 : List AI := [
 .j 3 (.faddr 0 (.t 1)),
 .j 4 (.load 1 false (.t 3))]
@[go_sem] def q33_2 : List AI := [
 .j 6 (.bin .eql (.t 4) (.z 16)),
 .j 5 (.mov (.t 6))]
@[go_sem] def q33_3 : List AI := [
 .j 7 (.faddr 1 (.t 1)),
 .j 8 (.load 1 false (.t 7)),
 .j 9 (.faddr 2 (.t 1)),
 .j 10 (.load 1 false (.t 9)),
 .j 11 (.mm true [(.t 10), (.z 0)]),
 .j 12 (.bin .add (.t 8) (.t 11)),
 .j 13 (.faddr 1 (.t 1)),
 .j 14 (.load 1 false (.t 13)),
 .j 15 (.faddr 3 (.t 1)),
 .j 16 (.load 1 false (.t 15)),
 .j 17 (.bin .add (.t 14) (.t 16)),
 .j 18 (.bin .sub (.t 17) (.z 1)),
 .j 19 (.mm true [(.t 12), (.t 18)]),
 .j 2 (.mov (.t 19))]
@[go_sem] def q33_4 : List AI := [
 .j 21 (.bin .eql (.t 4) (.z 17)),
 .j 20 (.mov (.t 21))]
@[go_sem] def q33_5 : List AI := [
 .j 22 (.bin .eql (.t 4) (.z 21)),
 .j 20 (.mov (.t 22))]
@[go_sem] def q33_6 : List AI := [
 .j 23 (.faddr 1 (.t 1)),
 .j 24 (.load 1 false (.t 23)),
 .j 25 (.faddr 2 (.t 1)),
 .j 26 (.load 1 false (.t 25)),
 .j 27 (.mm true [(.t 26), (.z 0)]),
 .j 28 (.bin .add (.t 24) (.t 27)),
 .j 2 (.mov (.t 28))]
@[go_sem] def q33_7 : List AI := [
 .j 30 (.bin .eql (.t 4) (.z 18)),
 .j 29 (.mov (.t 30))]
@[go_sem] def q33_8 : List AI := [
 .j 31 (.bin .eql (.t 4) (.z 19)),
 .j 29 (.mov (.t 31))]
@[go_sem] def q33_9 : List AI := [
 .j 32 (.faddr 1 (.t 1)),
 .j 33 (.load 1 false (.t 32)),
 .j 34 (.faddr 2 (.t 1)),
 .j 35 (.load 1 false (.t 34)),
 .j 36 (.bin .add (.t 33) (.t 35)),
 .j 37 (.bin .sub (.t 36) (.z 1)),
 .j 2 (.mov (.t 37))]
@[go_sem] def q33_10 : List AI := [
 .j 39 (.bin .eql (.t 4) (.z 25)),
 .j 38 (.mov (.t 39))]
@[go_sem] def q33_11 : List AI := [
 .j 40 (.faddr 1 (.t 1)),
 .j 41 (.load 1 false (.t 40)),
 .j 42 (.bin .add (.t 41) (.z 2)),
 .j 43 (.faddr 3 (.t 1)),
 .j 44 (.load 1 false (.t 43)),
 .j 45 (.bin .add (.t 42) (.t 44)),
 .j 2 (.mov (.t 45))]
@[go_sem] def q33_12 : List AI := [
 .j 2 (.mov (.z 0))]
@[go_sem] def scriptingref32_limit_c : AC := .seq (.ops [q33_0]) (.seq (.seq (.ops [q33_1]) (.block 0 (.seq (.ops [q33_2]) (.cond (.t 5) (.seq (.ops [q33_3]) (.ret)) (.seq (.seq (.ops [q33_4]) (.cond (.t 20) (.skip) (.ops [q33_5]))) (.cond (.t 20) (.seq (.ops [q33_6]) (.ret)) (.seq (.seq (.ops [q33_7]) (.cond (.t 29) (.skip) (.ops [q33_8]))) (.cond (.t 29) (.seq (.ops [q33_9]) (.ret)) (.seq (.ops [q33_10]) (.cond (.t 38) (.seq (.ops [q33_11]) (.ret)) (.skip))))))))))) (.seq (.ops [q33_12]) (.ret)))
theorem scriptingref32_limit_ok : compF Tryz.prog 33 = some (46, scriptingref32_limit_c, [.t 2]) := by kernel_rfl

@[go_sem] def q34_0 : List AI := [
 .j 4 (.mov (.c .nils))]
@[go_sem] def q34_1 : List AI := [
 .j 8 (.mkrow 340008 1 []),
 .j 5 (.mov (.t 8))]
@[go_sem] def q34_2 : List AI := [
 .j 6 (.mov (.c (.bool false)))]
@[go_sem] def q34_3 : List AI := [
 .j 7 (.mov (.z 0))]
@[go_sem] def q34_4 : List AI := [
 .j 9 (.mov (.t 7)),
 .j 10 (.mov (.t 0)),
 .j 11 (.len 0 (.t 10)),
 .j 12 (.bin .lss (.t 9) (.t 11))]
@[go_sem] def q34_5 : List AI := [
 .j 15 (.mov (.t 6)),
 .j 16 (.un .not (.t 15)),
 .j 17 (.mov (.t 16)),
 .k 18 17 true (.mov (.t 0)),
 .k 19 17 true (.mov (.t 7)),
 .k 20 17 true (.iaddr 1 (.t 18) (.t 19)),
 .k 21 17 true (.load 1 false (.t 20)),
 .k 22 17 true (.mov (.t 1)),
 .k 23 17 true (.bin .geq (.t 21) (.t 22)),
 .j 24 (.pick (.t 17) (.t 23) (.c (.bool false)))]
@[go_sem] def q34_6 : List AI := [
 .j 25 (.mov (.t 5)),
 .j 26 (.mov (.t 1)),
 .j 27 (.mkisl 1 [(.t 26)]),
 .j 28 (.app 340028 1 (.t 25) (.t 27)),
 .j 5 (.mov (.t 28))]
@[go_sem] def q34_7 : List AI := [
 .j 6 (.mov (.c (.bool true)))]
@[go_sem] def q34_8 : List AI := [
 .j 29 (.mov (.t 0)),
 .j 30 (.mov (.t 7)),
 .j 31 (.iaddr 1 (.t 29) (.t 30)),
 .j 32 (.load 1 false (.t 31)),
 .j 33 (.mov (.t 1)),
 .j 34 (.bin .neq (.t 32) (.t 33))]
@[go_sem] def q34_9 : List AI := [
 .j 35 (.mov (.t 5)),
 .j 36 (.mov (.t 0)),
 .j 37 (.mov (.t 7)),
 .j 38 (.iaddr 1 (.t 36) (.t 37)),
 .j 39 (.load 1 false (.t 38)),
 .j 40 (.mkisl 1 [(.t 39)]),
 .j 41 (.app 340041 1 (.t 35) (.t 40)),
 .j 5 (.mov (.t 41))]
@[go_sem] def q34_10 : List AI := [
 .j 13 (.mov (.t 7)),
 .j 14 (.bin .add (.t 13) (.z 1)),
 .j 7 (.mov (.t 14))]
@[go_sem] def scriptingref32_put_l0' : AC := .seq (.seq (.ops [q34_4]) (.cond (.t 12) (.skip) (.exit 0))) (.seq (.block 1 (.seq (.seq (.ops [q34_5]) (.cond (.t 24) (.seq (.ops [q34_6]) (.ops [q34_7])) (.skip))) (.seq (.ops [q34_8]) (.cond (.t 34) (.ops [q34_9]) (.skip))))) (.ops [q34_10]))
def scriptingref32_put_l0 : AC := scriptingref32_put_l0'
theorem scriptingref32_put_l0_eq : scriptingref32_put_l0 = scriptingref32_put_l0' := rfl
@[go_sem] def q34_11 : List AI := [
 .j 42 (.mov (.t 6)),
 .j 43 (.un .not (.t 42))]
@[go_sem] def q34_12 : List AI := [
 .j 44 (.mov (.t 5)),
 .j 45 (.mov (.t 1)),
 .j 46 (.mkisl 1 [(.t 45)]),
 .j 47 (.app 340047 1 (.t 44) (.t 46)),
 .j 5 (.mov (.t 47))]
@[go_sem] def q34_13 : List AI := [
 .j 48 (.mov (.t 5)),
 .j 4 (.mov (.t 48))]
@[go_sem] def scriptingref32_put_c : AC := .seq (.ops [q34_0]) (.seq (.ops [q34_1]) (.seq (.ops [q34_2]) (.seq (.seq (.ops [q34_3]) (.block 0 (.loop scriptingref32_put_l0))) (.seq (.seq (.ops [q34_11]) (.cond (.t 43) (.ops [q34_12]) (.skip))) (.seq (.ops [q34_13]) (.ret))))))
theorem scriptingref32_put_ok : compF Tryz.prog 34 = some (49, scriptingref32_put_c, [.t 4]) := by kernel_rfl

@[go_sem] def q35_0 : List AI := [
 .j 6 (.mov (.c .nils))]
@[go_sem] def q35_1 : List AI := [
 .j 7 (.mov (.z 0))]
@[go_sem] def q35_2 : List AI := [
 .j 8 (.mov (.t 7)),
 .j 9 (.mov (.t 2)),
 .j 10 (.bin .lss (.t 8) (.t 9))]
@[go_sem] def q35_3 : List AI := [
 .j 13 (.mov (.t 0)),
 .j 14 (.mov (.t 1)),
 .j 15 (.mov (.t 7)),
 .j 16 (.bin .add (.t 14) (.t 15)),
 .j 17 (.mkisl 1 [(.t 16)]),
 .j 18 (.app 350018 1 (.t 13) (.t 17)),
 .j 0 (.mov (.t 18))]
@[go_sem] def q35_4 : List AI := [
 .j 11 (.mov (.t 7)),
 .j 12 (.bin .add (.t 11) (.z 1)),
 .j 7 (.mov (.t 12))]
@[go_sem] def scriptingref32_span_l0' : AC := .seq (.seq (.ops [q35_2]) (.cond (.t 10) (.skip) (.exit 0))) (.seq (.block 1 (.ops [q35_3])) (.ops [q35_4]))
def scriptingref32_span_l0 : AC := scriptingref32_span_l0'
theorem scriptingref32_span_l0_eq : scriptingref32_span_l0 = scriptingref32_span_l0' := rfl
@[go_sem] def q35_5 : List AI := [
 .j 19 (.mov (.t 0)),
 .j 6 (.mov (.t 19))]
@[go_sem] def scriptingref32_span_c : AC := .seq (.ops [q35_0]) (.seq (.seq (.ops [q35_1]) (.block 0 (.loop scriptingref32_span_l0))) (.seq (.ops [q35_5]) (.ret)))
theorem scriptingref32_span_ok : compF Tryz.prog 35 = some (20, scriptingref32_span_c, [.t 6]) := by kernel_rfl

@[go_sem] def q36_0 : List AI := [
 .j 1 (.box 360001 11 (.t 0)),
 .j 2 (.mov (.z 0))]
@[go_sem] def q36_1_0 : List AI := [
 .j 5 (.load 11 true (.t 1)),
 .j 6 (.load 11 true (.t 1)),
 .j 7 (.call 19 [(.t 6)]),
 .j 8 (.call 18 [(.t 5), (.t 7)]),
 .j 3 (.mov (.t 8))]
@[go_sem] def q36_1_1 : List AI := [
 .j 6 (.load 11 true (.t 1)),
 .j 7 (.call 19 [(.t 6)]),
 .j 5 (.load 11 true (.t 1)),
 .j 8 (.call 18 [(.t 5), (.t 7)]),
 .j 3 (.mov (.t 8))]
@[go_sem] def q36_2 : List AI := [
 .j 9 (.faddr 5 (.t 1)),
 .j 10 (.load 1 false (.t 9)),
 .j 11 (.len 0 (.t 10)),
 .j 12 (.mov (.z 0))]
@[go_sem] def q36_3 : List AI := [
 .j 13 (.bin .lss (.t 12) (.t 11))]
@[go_sem] def q36_4 : List AI := [
 .j 14 (.mov (.t 12)),
 .j 4 (.mov (.t 14))]
@[go_sem] def q36_5 : List AI := [
 .j 15 (.load 11 true (.t 1)),
 .j 16 (.mov (.t 4)),
 .j 17 (.mov (.t 3)),
 .j 18 (.call 52 [(.t 15), (.t 16), (.t 17)])]
@[go_sem] def q36_6 : List AI := [
 .j 19 (.mov (.t 4)),
 .j 2 (.mov (.t 19))]
@[go_sem] def q36_7 : List AI := [
 .j 20 (.bin .add (.t 12) (.z 1)),
 .j 12 (.mov (.t 20))]
@[go_sem] def verify_first_l0' : AC := .seq (.ops [q36_3]) (.seq (.cond (.t 13) (.skip) (.exit 0)) (.seq (.block 1 (.seq (.ops [q36_4]) (.seq (.ops [q36_5]) (.cond (.t 18) (.seq (.ops [q36_6]) (.ret)) (.skip))))) (.ops [q36_7])))
def verify_first_l0 : AC := verify_first_l0'
theorem verify_first_l0_eq : verify_first_l0 = verify_first_l0' := rfl
@[go_sem] def q36_8 : List AI := [
 .j 2 (.mov (.z (-1)))]
@[go_sem] def verify_first_c : AC := .seq (.ops [q36_0]) (.seq (.ops [q36_1_0, q36_1_1]) (.seq (.seq (.ops [q36_2]) (.block 0 (.loop verify_first_l0))) (.seq (.ops [q36_8]) (.ret))))
theorem verify_first_ok : compF Tryz.prog 36 = some (21, verify_first_c, [.t 2]) := by kernel_rfl

@[go_sem] def q37_0 : List AI := [
 .j 2 (.mov (.c .nils))]
@[go_sem] def q37_1 : List AI := [
 .j 3 (.mov (.t 0)),
 .j 4 (.eqn false false (.t 3))]
@[go_sem] def q37_2 : List AI := [
 .j 2 (.mov (.c .nils))]
@[go_sem] def q37_3 : List AI := [
 .j 5 (.mkrow 370005 1 []),
 .j 6 (.mov (.t 0)),
 .j 7 (.app 370007 1 (.t 5) (.t 6)),
 .j 2 (.mov (.t 7))]
@[go_sem] def slices_Clone_int_int_c : AC := .seq (.ops [q37_0]) (.seq (.seq (.ops [q37_1]) (.cond (.t 4) (.seq (.ops [q37_2]) (.ret)) (.skip))) (.seq (.ops [q37_3]) (.ret)))
theorem slices_Clone_int_int_ok : compF Tryz.prog 37 = some (8, slices_Clone_int_int_c, [.t 2]) := by kernel_rfl

@[go_sem] def q38_0 : List AI := [
 .j 3 (.load 11 true (.t 1)),
 .j 4 (.call 40 [(.t 3)]),
 .j 5 (.mov (.t 0)),
 .j 6 (.call 39 [(.t 4), (.t 5)])]
@[go_sem] def proto_Each_1_c : AC := .ops [q38_0]
theorem proto_Each_1_ok : compF Tryz.prog 38 = some (7, proto_Each_1_c, []) := by kernel_rfl

@[go_sem] def q39_0 : List AI := [
 .j 2 (.box 390002 11 (.t 0)),
 .j 4 (.mov (.c (.bool false)))]
@[go_sem] def q39_1 : List AI := [
 .j 7 (.mov (.t 1)),
 .j 8 (.load 11 true (.t 2)),
 .j 9 (.callv (.t 7) [(.t 8)]),
 .j 10 (.un .not (.t 9))]
@[go_sem] def q39_2 : List AI := [
 .j 4 (.mov (.c (.bool false)))]
@[go_sem] def q39_3 : List AI := [
 .j 11 (.faddr 8 (.t 2)),
 .j 12 (.load 1 false (.t 11)),
 .j 13 (.len 0 (.t 12)),
 .j 14 (.mov (.z 0))]
@[go_sem] def q39_4 : List AI := [
 .j 15 (.bin .lss (.t 14) (.t 13))]
@[go_sem] def q39_5 : List AI := [
 .j 16 (.iaddr 11 (.t 12) (.t 14)),
 .j 17 (.load 11 true (.t 16)),
 .j 6 (.box 390006 11 (.c (.agg [(.str []), (.int .i64 0), (.int .i64 0), (.bool false), (.int .i64 0), .nils, .nils, .nils, .nils, .nils, .nils]))),
 .e (.store 11 (.t 6) (.t 17))]
@[go_sem] def q39_6 : List AI := [
 .j 18 (.load 11 true (.t 6)),
 .j 19 (.mov (.t 1)),
 .j 20 (.call 39 [(.t 18), (.t 19)]),
 .j 21 (.un .not (.t 20))]
@[go_sem] def q39_7 : List AI := [
 .j 4 (.mov (.c (.bool false)))]
@[go_sem] def q39_8 : List AI := [
 .j 22 (.bin .add (.t 14) (.z 1)),
 .j 14 (.mov (.t 22))]
@[go_sem] def proto_walk_l0' : AC := .seq (.ops [q39_4]) (.seq (.cond (.t 15) (.skip) (.exit 0)) (.seq (.block 1 (.seq (.ops [q39_5]) (.seq (.ops [q39_6]) (.cond (.t 21) (.seq (.ops [q39_7]) (.ret)) (.skip))))) (.ops [q39_8])))
def proto_walk_l0 : AC := proto_walk_l0'
theorem proto_walk_l0_eq : proto_walk_l0 = proto_walk_l0' := rfl
@[go_sem] def q39_9 : List AI := [
 .j 4 (.mov (.c (.bool true)))]
@[go_sem] def proto_walk_c : AC := .seq (.ops [q39_0]) (.seq (.seq (.ops [q39_1]) (.cond (.t 10) (.seq (.ops [q39_2]) (.ret)) (.skip))) (.seq (.seq (.ops [q39_3]) (.block 0 (.loop proto_walk_l0))) (.seq (.ops [q39_9]) (.ret))))
theorem proto_walk_ok : compF Tryz.prog 39 = some (23, proto_walk_c, [.t 4]) := by kernel_rfl

@[go_sem] def q40_0 : List AI := [
 .j 1 (.box 400001 11 (.t 0)),
 .j 2 (.box 400002 11 (.c (.agg [(.str []), (.int .i64 0), (.int .i64 0), (.bool false), (.int .i64 0), .nils, .nils, .nils, .nils, .nils, .nils])))]
@[go_sem] def q40_1 : List AI := [
 .j 6 (.faddr 5 (.t 1)),
 .j 7 (.load 1 false (.t 6)),
 .j 9 (.faddr 6 (.t 1)),
 .j 10 (.load 1 false (.t 9)),
 .j 12 (.faddr 7 (.t 1)),
 .j 13 (.load 1 false (.t 12)),
 .j 15 (.faddr 9 (.t 1)),
 .j 16 (.load 1 false (.t 15)),
 .j 18 (.faddr 10 (.t 1)),
 .j 19 (.load 1 false (.t 18)),
 .j 8 (.pcall 53 [(.t 7)]),
 .j 21 (.faddr 5 (.t 1)),
 .j 11 (.pcall 37 [(.t 10)]),
 .j 14 (.pcall 54 [(.t 13)]),
 .j 17 (.pcall 55 [(.t 16)]),
 .j 20 (.pcall 56 [(.t 19)]),
 .e (.store 1 (.t 21) (.t 8)),
 .j 22 (.faddr 6 (.t 1)),
 .e (.store 1 (.t 22) (.t 11)),
 .j 23 (.faddr 7 (.t 1)),
 .e (.store 1 (.t 23) (.t 14)),
 .j 24 (.faddr 9 (.t 1)),
 .e (.store 1 (.t 24) (.t 17)),
 .j 25 (.faddr 10 (.t 1)),
 .e (.store 1 (.t 25) (.t 20))]
@[go_sem] def q40_2 : List AI := [
 .j 3 (.mov (.c .nils))]
@[go_sem] def q40_3 : List AI := [
 .j 26 (.faddr 8 (.t 1)),
 .j 27 (.load 1 false (.t 26)),
 .j 28 (.len 0 (.t 27)),
 .j 29 (.mov (.z 0))]
@[go_sem] def q40_4 : List AI := [
 .j 30 (.bin .lss (.t 29) (.t 28))]
@[go_sem] def q40_5 : List AI := [
 .j 31 (.iaddr 11 (.t 27) (.t 29)),
 .j 32 (.load 11 true (.t 31)),
 .j 5 (.box 400005 11 (.c (.agg [(.str []), (.int .i64 0), (.int .i64 0), (.bool false), (.int .i64 0), .nils, .nils, .nils, .nils, .nils, .nils]))),
 .e (.store 11 (.t 5) (.t 32))]
@[go_sem] def q40_6 : List AI := [
 .j 33 (.mov (.t 3)),
 .j 34 (.load 11 true (.t 5)),
 .j 35 (.call 40 [(.t 34)]),
 .j 36 (.mkisl 11 [(.t 35)]),
 .j 37 (.app 400037 11 (.t 33) (.t 36)),
 .j 3 (.mov (.t 37))]
@[go_sem] def q40_7 : List AI := [
 .j 38 (.bin .add (.t 29) (.z 1)),
 .j 29 (.mov (.t 38))]
@[go_sem] def proto_copied_l0' : AC := .seq (.ops [q40_4]) (.seq (.cond (.t 30) (.skip) (.exit 0)) (.seq (.block 1 (.seq (.ops [q40_5]) (.ops [q40_6]))) (.ops [q40_7])))
def proto_copied_l0 : AC := proto_copied_l0'
theorem proto_copied_l0_eq : proto_copied_l0 = proto_copied_l0' := rfl
@[go_sem] def q40_8 : List AI := [
 .j 39 (.mov (.t 3)),
 .j 40 (.faddr 8 (.t 1)),
 .e (.store 1 (.t 40) (.t 39))]
@[go_sem] def q40_9 : List AI := [
 .j 41 (.load 11 true (.t 1)),
 .e (.store 11 (.t 2) (.t 41))]
@[go_sem] def proto_copied_c : AC := .seq (.ops [q40_0]) (.seq (.ops [q40_1]) (.seq (.ops [q40_2]) (.seq (.seq (.ops [q40_3]) (.block 0 (.loop proto_copied_l0))) (.seq (.ops [q40_8]) (.seq (.ops [q40_9]) (.ret))))))
theorem proto_copied_ok : compF Tryz.prog 40 = some (42, proto_copied_c, [.c 2 11 true]) := by kernel_rfl

@[go_sem] def q41_0 : List AI := [
 .j 1 (.box 410001 11 (.t 0)),
 .j 2 (.mov (.z 0))]
@[go_sem] def q41_1 : List AI := [
 .j 4 (.faddr 5 (.t 1)),
 .j 5 (.load 1 false (.t 4)),
 .j 6 (.len 0 (.t 5)),
 .j 7 (.bin .gtr (.t 6) (.z 16384)),
 .j 8 (.mov (.t 7)),
 .k 9 8 false (.faddr 7 (.t 1)),
 .k 10 8 false (.load 1 false (.t 9)),
 .k 11 8 false (.len 0 (.t 10)),
 .k 12 8 false (.bin .gtr (.t 11) (.z 4096)),
 .j 13 (.pick (.t 8) (.c (.bool true)) (.t 12)),
 .j 14 (.mov (.t 13)),
 .k 15 14 false (.faddr 8 (.t 1)),
 .k 16 14 false (.load 1 false (.t 15)),
 .k 17 14 false (.len 0 (.t 16)),
 .k 18 14 false (.bin .gtr (.t 17) (.z 1024)),
 .j 19 (.pick (.t 14) (.c (.bool true)) (.t 18)),
 .j 20 (.mov (.t 19)),
 .k 21 20 false (.faddr 9 (.t 1)),
 .k 22 20 false (.load 1 false (.t 21)),
 .k 23 20 false (.len 0 (.t 22)),
 .k 24 20 false (.bin .gtr (.t 23) (.z 60)),
 .j 25 (.pick (.t 20) (.c (.bool true)) (.t 24)),
 .j 26 (.mov (.t 25)),
 .k 27 26 false (.faddr 10 (.t 1)),
 .k 28 26 false (.load 1 false (.t 27)),
 .k 29 26 false (.len 0 (.t 28)),
 .k 30 26 false (.bin .gtr (.t 29) (.z 16384)),
 .j 31 (.pick (.t 26) (.c (.bool true)) (.t 30)),
 .j 32 (.mov (.t 31)),
 .k 33 32 false (.faddr 4 (.t 1)),
 .k 34 32 false (.load 1 false (.t 33)),
 .k 35 32 false (.bin .gtr (.t 34) (.z 4096)),
 .j 36 (.pick (.t 32) (.c (.bool true)) (.t 35)),
 .j 37 (.mov (.t 36)),
 .k 38 37 false (.faddr 0 (.t 1)),
 .k 39 37 false (.load 1 false (.t 38)),
 .k 40 37 false (.len 1 (.t 39)),
 .k 41 37 false (.bin .gtr (.t 40) (.z 4096)),
 .j 42 (.pick (.t 37) (.c (.bool true)) (.t 41))]
@[go_sem] def q41_2 : List AI := [
 .j 2 (.mov (.z 3))]
@[go_sem] def q41_3 : List AI := [
 .j 3 (.box 410003 1 (.c (.cst .nilFunc))),
 .e (.store 1 (.t 3) (.f 57))]
@[go_sem] def q41_4 : List AI := [
 .j 43 (.faddr 9 (.t 1)),
 .j 44 (.load 1 false (.t 43)),
 .j 45 (.mkfn 59 [(.t 3)]),
 .j 46 (.call 58 [(.t 44), (.t 45)]),
 .j 47 (.mov (.t 46)),
 .k 48 47 false (.faddr 10 (.t 1)),
 .k 49 47 false (.load 1 false (.t 48)),
 .k 50 47 false (.mkfn 61 [(.t 3)]),
 .k 51 47 false (.call 60 [(.t 49), (.t 50)]),
 .j 52 (.pick (.t 47) (.c (.bool true)) (.t 51))]
@[go_sem] def q41_5 : List AI := [
 .j 2 (.mov (.z 3))]
@[go_sem] def q41_6 : List AI := [
 .j 2 (.mov (.z 0))]
@[go_sem] def proto_limits_c : AC := .seq (.ops [q41_0]) (.seq (.seq (.ops [q41_1]) (.cond (.t 42) (.seq (.ops [q41_2]) (.ret)) (.skip))) (.seq (.ops [q41_3]) (.seq (.seq (.ops [q41_4]) (.cond (.t 52) (.seq (.ops [q41_5]) (.ret)) (.skip))) (.seq (.ops [q41_6]) (.ret)))))
theorem proto_limits_ok : compF Tryz.prog 41 = some (53, proto_limits_c, [.t 2]) := by kernel_rfl

@[go_sem] def q42_0 : List AI := [
 .j 1 (.box 420001 11 (.t 0)),
 .j 2 (.mov (.z 0))]
@[go_sem] def q42_1 : List AI := [
 .j 8 (.faddr 5 (.t 1)),
 .j 9 (.load 1 false (.t 8)),
 .j 10 (.len 0 (.t 9)),
 .j 3 (.mov (.t 10))]
@[go_sem] def q42_2 : List AI := [
 .j 11 (.mov (.t 3)),
 .j 12 (.bin .eql (.t 11) (.z 0)),
 .j 13 (.mov (.t 12)),
 .k 14 13 false (.faddr 4 (.t 1)),
 .k 15 13 false (.load 1 false (.t 14)),
 .k 16 13 false (.bin .lss (.t 15) (.z 0)),
 .j 17 (.pick (.t 13) (.c (.bool true)) (.t 16)),
 .j 18 (.mov (.t 17)),
 .k 19 18 false (.faddr 2 (.t 1)),
 .k 20 18 false (.load 1 false (.t 19)),
 .k 21 18 false (.bin .lss (.t 20) (.z 0)),
 .j 22 (.pick (.t 18) (.c (.bool true)) (.t 21)),
 .j 23 (.mov (.t 22)),
 .k 24 23 false (.faddr 1 (.t 1)),
 .k 25 23 false (.load 1 false (.t 24)),
 .k 26 23 false (.bin .lss (.t 25) (.z 0)),
 .j 27 (.pick (.t 23) (.c (.bool true)) (.t 26)),
 .j 28 (.mov (.t 27)),
 .k 29 28 false (.faddr 2 (.t 1)),
 .k 30 28 false (.load 1 false (.t 29)),
 .k 31 28 false (.faddr 4 (.t 1)),
 .k 32 28 false (.load 1 false (.t 31)),
 .k 33 28 false (.bin .gtr (.t 30) (.t 32)),
 .j 34 (.pick (.t 28) (.c (.bool true)) (.t 33)),
 .j 35 (.mov (.t 34)),
 .k 36 35 false (.faddr 6 (.t 1)),
 .k 37 35 false (.load 1 false (.t 36)),
 .k 38 35 false (.len 0 (.t 37)),
 .k 39 35 false (.bin .neq (.t 38) (.z 0)),
 .k 40 35 false (.mov (.t 39)),
 .k 41 40 true (.faddr 6 (.t 1)),
 .k 42 40 true (.load 1 false (.t 41)),
 .k 43 40 true (.len 0 (.t 42)),
 .k 44 40 true (.mov (.t 3)),
 .k 45 40 true (.bin .neq (.t 43) (.t 44)),
 .k 46 35 false (.pick (.t 40) (.t 45) (.c (.bool false))),
 .j 47 (.pick (.t 35) (.c (.bool true)) (.t 46))]
@[go_sem] def q42_3 : List AI := [
 .j 2 (.mov (.z 4))]
@[go_sem] def q42_4 : List AI := [
 .j 48 (.faddr 6 (.t 1)),
 .j 49 (.load 1 false (.t 48)),
 .j 50 (.call 62 [(.t 49), (.f 63)]),
 .j 51 (.mov (.t 50)),
 .k 52 51 false (.faddr 9 (.t 1)),
 .k 53 51 false (.load 1 false (.t 52)),
 .k 54 51 false (.call 58 [(.t 53), (.f 64)]),
 .j 55 (.pick (.t 51) (.c (.bool true)) (.t 54))]
@[go_sem] def q42_5 : List AI := [
 .j 2 (.mov (.z 4))]
@[go_sem] def q42_6 : List AI := [
 .j 56 (.faddr 7 (.t 1)),
 .j 57 (.load 1 false (.t 56)),
 .j 58 (.len 0 (.t 57)),
 .j 59 (.mov (.z 0))]
@[go_sem] def q42_7 : List AI := [
 .j 60 (.bin .lss (.t 59) (.t 58))]
@[go_sem] def q42_8 : List AI := [
 .j 61 (.iaddr 5 (.t 57) (.t 59)),
 .j 62 (.load 5 true (.t 61)),
 .j 5 (.box 420005 5 (.c (.agg [(.int .i64 0), (.int .i64 0), (.int .i64 0), (.str []), (.int .i64 0)]))),
 .e (.store 5 (.t 5) (.t 62))]
@[go_sem] def q42_9 : List AI := [
 .j 63 (.faddr 0 (.t 5)),
 .j 64 (.load 1 false (.t 63)),
 .j 65 (.bin .gtr (.t 64) (.z 3)),
 .j 66 (.mov (.t 65)),
 .k 67 66 false (.load 5 true (.t 5)),
 .k 68 66 false (.call 65 [(.t 67)]),
 .k 69 66 false (.un .not (.t 68)),
 .j 70 (.pick (.t 66) (.c (.bool true)) (.t 69))]
@[go_sem] def q42_10 : List AI := [
 .j 2 (.mov (.z 4))]
@[go_sem] def q42_11 : List AI := [
 .j 71 (.bin .add (.t 59) (.z 1)),
 .j 59 (.mov (.t 71))]
@[go_sem] def proto_form_l0' : AC := .seq (.ops [q42_7]) (.seq (.cond (.t 60) (.skip) (.exit 0)) (.seq (.block 1 (.seq (.ops [q42_8]) (.seq (.ops [q42_9]) (.cond (.t 70) (.seq (.ops [q42_10]) (.ret)) (.skip))))) (.ops [q42_11])))
def proto_form_l0 : AC := proto_form_l0'
theorem proto_form_l0_eq : proto_form_l0 = proto_form_l0' := rfl
@[go_sem] def q42_12 : List AI := [
 .j 72 (.faddr 10 (.t 1)),
 .j 73 (.load 1 false (.t 72)),
 .j 74 (.len 0 (.t 73)),
 .j 75 (.mov (.z 0))]
@[go_sem] def q42_13 : List AI := [
 .j 76 (.bin .lss (.t 75) (.t 74))]
@[go_sem] def q42_14 : List AI := [
 .j 77 (.iaddr 5 (.t 73) (.t 75)),
 .j 78 (.load 5 true (.t 77)),
 .j 7 (.box 420007 5 (.c (.agg [(.str []), (.int .i64 0), (.int .i64 0), (.int .i64 0), (.int .i64 0)]))),
 .e (.store 5 (.t 7) (.t 78))]
@[go_sem] def q42_15 : List AI := [
 .j 79 (.faddr 1 (.t 7)),
 .j 80 (.load 1 false (.t 79)),
 .j 81 (.bin .lss (.t 80) (.z 0)),
 .j 82 (.mov (.t 81)),
 .k 83 82 false (.faddr 1 (.t 7)),
 .k 84 82 false (.load 1 false (.t 83)),
 .k 85 82 false (.faddr 4 (.t 1)),
 .k 86 82 false (.load 1 false (.t 85)),
 .k 87 82 false (.bin .geq (.t 84) (.t 86)),
 .j 88 (.pick (.t 82) (.c (.bool true)) (.t 87)),
 .j 89 (.mov (.t 88)),
 .k 90 89 false (.faddr 4 (.t 7)),
 .k 91 89 false (.load 1 false (.t 90)),
 .k 92 89 false (.bin .lss (.t 91) (.z 0)),
 .j 93 (.pick (.t 89) (.c (.bool true)) (.t 92)),
 .j 94 (.mov (.t 93)),
 .k 95 94 false (.faddr 4 (.t 7)),
 .k 96 94 false (.load 1 false (.t 95)),
 .k 97 94 false (.bin .gtr (.t 96) (.z 2)),
 .j 98 (.pick (.t 94) (.c (.bool true)) (.t 97)),
 .j 99 (.mov (.t 98)),
 .k 100 99 false (.faddr 2 (.t 7)),
 .k 101 99 false (.load 1 false (.t 100)),
 .k 102 99 false (.bin .lss (.t 101) (.z 0)),
 .j 103 (.pick (.t 99) (.c (.bool true)) (.t 102)),
 .j 104 (.mov (.t 103)),
 .k 105 104 false (.faddr 3 (.t 7)),
 .k 106 104 false (.load 1 false (.t 105)),
 .k 107 104 false (.faddr 2 (.t 7)),
 .k 108 104 false (.load 1 false (.t 107)),
 .k 109 104 false (.bin .lss (.t 106) (.t 108)),
 .j 110 (.pick (.t 104) (.c (.bool true)) (.t 109)),
 .j 111 (.mov (.t 110)),
 .k 112 111 false (.faddr 3 (.t 7)),
 .k 113 111 false (.load 1 false (.t 112)),
 .k 114 111 false (.mov (.t 3)),
 .k 115 111 false (.bin .gtr (.t 113) (.t 114)),
 .j 116 (.pick (.t 111) (.c (.bool true)) (.t 115))]
@[go_sem] def q42_16 : List AI := [
 .j 2 (.mov (.z 4))]
@[go_sem] def q42_17 : List AI := [
 .j 117 (.bin .add (.t 75) (.z 1)),
 .j 75 (.mov (.t 117))]
@[go_sem] def proto_form_l1' : AC := .seq (.ops [q42_13]) (.seq (.cond (.t 76) (.skip) (.exit 2)) (.seq (.block 3 (.seq (.ops [q42_14]) (.seq (.ops [q42_15]) (.cond (.t 116) (.seq (.ops [q42_16]) (.ret)) (.skip))))) (.ops [q42_17])))
def proto_form_l1 : AC := proto_form_l1'
theorem proto_form_l1_eq : proto_form_l1 = proto_form_l1' := rfl
@[go_sem] def q42_18 : List AI := [
 .j 2 (.mov (.z 0))]
@[go_sem] def proto_form_c : AC := .seq (.ops [q42_0]) (.seq (.ops [q42_1]) (.seq (.seq (.ops [q42_2]) (.cond (.t 47) (.seq (.ops [q42_3]) (.ret)) (.skip))) (.seq (.seq (.ops [q42_4]) (.cond (.t 55) (.seq (.ops [q42_5]) (.ret)) (.skip))) (.seq (.seq (.ops [q42_6]) (.block 0 (.loop proto_form_l0))) (.seq (.seq (.ops [q42_12]) (.block 2 (.loop proto_form_l1))) (.seq (.ops [q42_18]) (.ret)))))))
theorem proto_form_ok : compF Tryz.prog 42 = some (118, proto_form_c, [.t 2]) := by kernel_rfl

@[go_sem] def q43_0 : List AI := [
 .j 2 (.box 430002 11 (.t 0)),
 .j 3 (.box 430003 5 (.t 1)),
 .j 4 (.mov (.z 0))]
@[go_sem] def q43_1 : List AI := [
 .j 12 (.load 5 true (.t 3)),
 .j 13 (.call 66 [(.t 12)]),
 .j 5 (.mov (.t 13))]
@[go_sem] def q43_2 : List AI := [
 .j 14 (.mov (.t 5)),
 .j 15 (.bin .neq (.t 14) (.z 0))]
@[go_sem] def q43_3 : List AI := [
 .j 16 (.mov (.t 5)),
 .j 4 (.mov (.t 16))]
@[go_sem] def q43_4 : List AI := [
 .j 18 (.load 5 true (.t 3)),
 .j 19 (.call 67 [(.t 18)]),
 .j 17 (.mov (.t 19)),
 .j 20 (.ext 0 (.t 17)),
 .j 21 (.ext 1 (.t 17)),
 .j 6 (.mov (.t 20)),
 .j 7 (.mov (.t 21))]
@[go_sem] def q43_5 : List AI := [
 .j 23 (.load 5 true (.t 3)),
 .j 24 (.call 68 [(.t 23)]),
 .j 22 (.mov (.t 24)),
 .j 25 (.ext 0 (.t 22)),
 .j 26 (.ext 1 (.t 22)),
 .j 8 (.mov (.t 25)),
 .j 9 (.mov (.t 26))]
@[go_sem] def q43_6 : List AI := [
 .j 27 (.load 11 true (.t 2)),
 .j 28 (.mov (.t 6)),
 .j 29 (.mov (.t 7)),
 .j 30 (.call 69 [(.t 27), (.t 28), (.t 29)]),
 .j 31 (.un .not (.t 30)),
 .j 32 (.mov (.t 31)),
 .k 33 32 false (.load 11 true (.t 2)),
 .k 34 32 false (.mov (.t 8)),
 .k 35 32 false (.mov (.t 9)),
 .k 36 32 false (.call 69 [(.t 33), (.t 34), (.t 35)]),
 .k 37 32 false (.un .not (.t 36)),
 .j 38 (.pick (.t 32) (.c (.bool true)) (.t 37))]
@[go_sem] def q43_7 : List AI := [
 .j 4 (.mov (.z 4))]
@[go_sem] def q43_8 : List AI := [
 .j 40 (.load 5 true (.t 3)),
 .j 41 (.call 45 [(.t 40)]),
 .j 39 (.mov (.t 41)),
 .j 42 (.ext 0 (.t 39)),
 .j 43 (.ext 1 (.t 39)),
 .j 10 (.mov (.t 42)),
 .j 11 (.mov (.t 43))]
@[go_sem] def q43_9 : List AI := [
 .j 44 (.mov (.t 11)),
 .j 45 (.mov (.t 44)),
 .k 46 45 true (.mov (.t 10)),
 .k 47 45 true (.bin .lss (.t 46) (.z 0)),
 .k 48 45 true (.mov (.t 47)),
 .k 49 48 false (.mov (.t 10)),
 .k 50 48 false (.faddr 5 (.t 2)),
 .k 51 48 false (.load 1 false (.t 50)),
 .k 52 48 false (.len 0 (.t 51)),
 .k 53 48 false (.bin .geq (.t 49) (.t 52)),
 .k 54 45 true (.pick (.t 48) (.c (.bool true)) (.t 53)),
 .j 55 (.pick (.t 45) (.t 54) (.c (.bool false)))]
@[go_sem] def q43_10 : List AI := [
 .j 4 (.mov (.z 4))]
@[go_sem] def q43_11 : List AI := [
 .j 56 (.load 11 true (.t 2)),
 .j 57 (.load 5 true (.t 3)),
 .j 58 (.call 70 [(.t 56), (.t 57)]),
 .j 59 (.un .not (.t 58))]
@[go_sem] def q43_12 : List AI := [
 .j 4 (.mov (.z 4))]
@[go_sem] def q43_13 : List AI := [
 .j 4 (.mov (.z 0))]
@[go_sem] def proto_instruction_c : AC := .seq (.ops [q43_0]) (.seq (.seq (.ops [q43_1]) (.seq (.ops [q43_2]) (.cond (.t 15) (.seq (.ops [q43_3]) (.ret)) (.skip)))) (.seq (.ops [q43_4]) (.seq (.ops [q43_5]) (.seq (.seq (.ops [q43_6]) (.cond (.t 38) (.seq (.ops [q43_7]) (.ret)) (.skip))) (.seq (.seq (.ops [q43_8]) (.seq (.ops [q43_9]) (.cond (.t 55) (.seq (.ops [q43_10]) (.ret)) (.skip)))) (.seq (.seq (.ops [q43_11]) (.cond (.t 59) (.seq (.ops [q43_12]) (.ret)) (.skip))) (.seq (.ops [q43_13]) (.ret))))))))
theorem proto_instruction_ok : compF Tryz.prog 43 = some (60, proto_instruction_c, [.t 4]) := by kernel_rfl

@[go_sem] def q44_0 : List AI := [
 .j 2 (.box 440002 5 (.t 0)),
 .j 3 (.box 440003 3 (.t 1)),
 .j 4 (.box 440004 3 (.c (.agg [.nils, (.int .i64 0), .nils])))]
@[go_sem] def q44_1_0 : List AI := [
 .j 10 (.faddr 0 (.t 3)),
 .j 11 (.load 1 false (.t 10)),
 .j 13 (.faddr 2 (.t 3)),
 .j 14 (.load 1 false (.t 13)),
 .j 12 (.call 71 [(.t 11)]),
 .j 15 (.call 37 [(.t 14)]),
 .j 16 (.build [.nils, (.int .i64 0), .nils] [(0, 1, (.t 12)), (1, 1, (.z (-1))), (2, 1, (.t 15))]),
 .j 5 (.box 440005 3 (.c (.agg [.nils, (.int .i64 0), .nils]))),
 .e (.store 3 (.t 5) (.t 16))]
@[go_sem] def q44_1_1 : List AI := [
 .j 10 (.faddr 0 (.t 3)),
 .j 11 (.load 1 false (.t 10)),
 .j 13 (.faddr 2 (.t 3)),
 .j 14 (.load 1 false (.t 13)),
 .j 12 (.call 71 [(.t 11)]),
 .j 5 (.box 440005 3 (.c (.agg [.nils, (.int .i64 0), .nils]))),
 .j 15 (.call 37 [(.t 14)]),
 .j 16 (.build [.nils, (.int .i64 0), .nils] [(0, 1, (.t 12)), (1, 1, (.z (-1))), (2, 1, (.t 15))]),
 .e (.store 3 (.t 5) (.t 16))]
@[go_sem] def q44_1_2 : List AI := [
 .j 10 (.faddr 0 (.t 3)),
 .j 11 (.load 1 false (.t 10)),
 .j 13 (.faddr 2 (.t 3)),
 .j 14 (.load 1 false (.t 13)),
 .j 5 (.box 440005 3 (.c (.agg [.nils, (.int .i64 0), .nils]))),
 .j 12 (.call 71 [(.t 11)]),
 .j 15 (.call 37 [(.t 14)]),
 .j 16 (.build [.nils, (.int .i64 0), .nils] [(0, 1, (.t 12)), (1, 1, (.z (-1))), (2, 1, (.t 15))]),
 .e (.store 3 (.t 5) (.t 16))]
@[go_sem] def q44_1_3 : List AI := [
 .j 10 (.faddr 0 (.t 3)),
 .j 11 (.load 1 false (.t 10)),
 .j 13 (.faddr 2 (.t 3)),
 .j 5 (.box 440005 3 (.c (.agg [.nils, (.int .i64 0), .nils]))),
 .j 14 (.load 1 false (.t 13)),
 .j 12 (.call 71 [(.t 11)]),
 .j 15 (.call 37 [(.t 14)]),
 .j 16 (.build [.nils, (.int .i64 0), .nils] [(0, 1, (.t 12)), (1, 1, (.z (-1))), (2, 1, (.t 15))]),
 .e (.store 3 (.t 5) (.t 16))]
@[go_sem] def q44_1_4 : List AI := [
 .j 10 (.faddr 0 (.t 3)),
 .j 11 (.load 1 false (.t 10)),
 .j 13 (.faddr 2 (.t 3)),
 .j 12 (.call 71 [(.t 11)]),
 .j 14 (.load 1 false (.t 13)),
 .j 15 (.call 37 [(.t 14)]),
 .j 16 (.build [.nils, (.int .i64 0), .nils] [(0, 1, (.t 12)), (1, 1, (.z (-1))), (2, 1, (.t 15))]),
 .j 5 (.box 440005 3 (.c (.agg [.nils, (.int .i64 0), .nils]))),
 .e (.store 3 (.t 5) (.t 16))]
@[go_sem] def q44_1_5 : List AI := [
 .j 10 (.faddr 0 (.t 3)),
 .j 11 (.load 1 false (.t 10)),
 .j 13 (.faddr 2 (.t 3)),
 .j 12 (.call 71 [(.t 11)]),
 .j 14 (.load 1 false (.t 13)),
 .j 5 (.box 440005 3 (.c (.agg [.nils, (.int .i64 0), .nils]))),
 .j 15 (.call 37 [(.t 14)]),
 .j 16 (.build [.nils, (.int .i64 0), .nils] [(0, 1, (.t 12)), (1, 1, (.z (-1))), (2, 1, (.t 15))]),
 .e (.store 3 (.t 5) (.t 16))]
@[go_sem] def q44_1_6 : List AI := [
 .j 10 (.faddr 0 (.t 3)),
 .j 11 (.load 1 false (.t 10)),
 .j 13 (.faddr 2 (.t 3)),
 .j 12 (.call 71 [(.t 11)]),
 .j 5 (.box 440005 3 (.c (.agg [.nils, (.int .i64 0), .nils]))),
 .j 14 (.load 1 false (.t 13)),
 .j 15 (.call 37 [(.t 14)]),
 .j 16 (.build [.nils, (.int .i64 0), .nils] [(0, 1, (.t 12)), (1, 1, (.z (-1))), (2, 1, (.t 15))]),
 .e (.store 3 (.t 5) (.t 16))]
@[go_sem] def q44_1_7 : List AI := [
 .j 10 (.faddr 0 (.t 3)),
 .j 11 (.load 1 false (.t 10)),
 .j 13 (.faddr 2 (.t 3)),
 .j 5 (.box 440005 3 (.c (.agg [.nils, (.int .i64 0), .nils]))),
 .j 12 (.call 71 [(.t 11)]),
 .j 14 (.load 1 false (.t 13)),
 .j 15 (.call 37 [(.t 14)]),
 .j 16 (.build [.nils, (.int .i64 0), .nils] [(0, 1, (.t 12)), (1, 1, (.z (-1))), (2, 1, (.t 15))]),
 .e (.store 3 (.t 5) (.t 16))]
@[go_sem] def q44_1_8 : List AI := [
 .j 10 (.faddr 0 (.t 3)),
 .j 13 (.faddr 2 (.t 3)),
 .j 14 (.load 1 false (.t 13)),
 .j 5 (.box 440005 3 (.c (.agg [.nils, (.int .i64 0), .nils]))),
 .j 11 (.load 1 false (.t 10)),
 .j 12 (.call 71 [(.t 11)]),
 .j 15 (.call 37 [(.t 14)]),
 .j 16 (.build [.nils, (.int .i64 0), .nils] [(0, 1, (.t 12)), (1, 1, (.z (-1))), (2, 1, (.t 15))]),
 .e (.store 3 (.t 5) (.t 16))]
@[go_sem] def q44_1_9 : List AI := [
 .j 10 (.faddr 0 (.t 3)),
 .j 13 (.faddr 2 (.t 3)),
 .j 5 (.box 440005 3 (.c (.agg [.nils, (.int .i64 0), .nils]))),
 .j 11 (.load 1 false (.t 10)),
 .j 14 (.load 1 false (.t 13)),
 .j 12 (.call 71 [(.t 11)]),
 .j 15 (.call 37 [(.t 14)]),
 .j 16 (.build [.nils, (.int .i64 0), .nils] [(0, 1, (.t 12)), (1, 1, (.z (-1))), (2, 1, (.t 15))]),
 .e (.store 3 (.t 5) (.t 16))]
@[go_sem] def q44_1_10 : List AI := [
 .j 10 (.faddr 0 (.t 3)),
 .j 13 (.faddr 2 (.t 3)),
 .j 5 (.box 440005 3 (.c (.agg [.nils, (.int .i64 0), .nils]))),
 .j 11 (.load 1 false (.t 10)),
 .j 12 (.call 71 [(.t 11)]),
 .j 14 (.load 1 false (.t 13)),
 .j 15 (.call 37 [(.t 14)]),
 .j 16 (.build [.nils, (.int .i64 0), .nils] [(0, 1, (.t 12)), (1, 1, (.z (-1))), (2, 1, (.t 15))]),
 .e (.store 3 (.t 5) (.t 16))]
@[go_sem] def q44_2 : List AI := [
 .j 17 (.faddr 0 (.t 2)),
 .j 18 (.load 1 false (.t 17))]
@[go_sem] def q44_3 : List AI := [
 .j 20 (.bin .eql (.t 18) (.z 16)),
 .j 19 (.mov (.t 20))]
@[go_sem] def q44_4 : List AI := [
 .j 21 (.faddr 0 (.t 5)),
 .j 22 (.load 1 false (.t 21)),
 .j 23 (.faddr 1 (.t 2)),
 .j 24 (.load 1 false (.t 23)),
 .j 25 (.call 72 [(.t 22), (.t 24)])]
@[go_sem] def q44_5 : List AI := [
 .j 27 (.bin .eql (.t 18) (.z 25)),
 .j 26 (.mov (.t 27))]
@[go_sem] def q44_6 : List AI := [
 .j 28 (.faddr 0 (.t 5)),
 .j 29 (.load 1 false (.t 28)),
 .j 30 (.faddr 1 (.t 2)),
 .j 31 (.load 1 false (.t 30)),
 .j 32 (.bin .add (.t 31) (.z 3)),
 .j 33 (.call 72 [(.t 29), (.t 32)])]
@[go_sem] def q44_7 : List AI := [
 .j 35 (.bin .eql (.t 18) (.z 28)),
 .j 34 (.mov (.t 35))]
@[go_sem] def q44_8 : List AI := [
 .j 36 (.faddr 2 (.t 5)),
 .j 37 (.load 1 false (.t 36)),
 .j 38 (.faddr 1 (.t 2)),
 .j 39 (.load 1 false (.t 38)),
 .j 40 (.mkisl 1 [(.t 39)]),
 .j 41 (.app 440041 1 (.t 37) (.t 40)),
 .j 42 (.faddr 2 (.t 5)),
 .e (.store 1 (.t 42) (.t 41))]
@[go_sem] def q44_9 : List AI := [
 .j 44 (.bin .eql (.t 18) (.z 27)),
 .j 43 (.mov (.t 44))]
@[go_sem] def q44_10 : List AI := [
 .j 45 (.faddr 2 (.t 5)),
 .j 46 (.load 1 false (.t 45)),
 .j 47 (.mkfn 74 [(.t 2)]),
 .j 48 (.call 73 [(.t 46), (.t 47)]),
 .j 49 (.faddr 2 (.t 5)),
 .e (.store 1 (.t 49) (.t 48))]
@[go_sem] def q44_11 : List AI := [
 .j 51 (.load 5 true (.t 2)),
 .j 52 (.call 68 [(.t 51)]),
 .j 50 (.mov (.t 52)),
 .j 53 (.ext 0 (.t 50)),
 .j 54 (.ext 1 (.t 50)),
 .j 6 (.mov (.t 53)),
 .j 7 (.mov (.t 54))]
@[go_sem] def q44_12 : List AI := [
 .j 55 (.mov (.t 6)),
 .j 56 (.len 0 (.t 55)),
 .j 57 (.mov (.z 0))]
@[go_sem] def q44_13 : List AI := [
 .j 58 (.bin .lss (.t 57) (.t 56))]
@[go_sem] def q44_14 : List AI := [
 .j 59 (.iaddr 1 (.t 55) (.t 57)),
 .j 60 (.load 1 false (.t 59)),
 .j 9 (.mov (.t 60))]
@[go_sem] def q44_15 : List AI := [
 .j 61 (.faddr 0 (.t 5)),
 .j 62 (.load 1 false (.t 61)),
 .j 63 (.mov (.t 9)),
 .j 64 (.iaddr 1 (.t 62) (.t 63)),
 .e (.store 1 (.t 64) (.c (.bool true)))]
@[go_sem] def q44_16 : List AI := [
 .j 65 (.bin .add (.t 57) (.z 1)),
 .j 57 (.mov (.t 65))]
@[go_sem] def verify_effect_l0' : AC := .seq (.ops [q44_13]) (.seq (.cond (.t 58) (.skip) (.exit 1)) (.seq (.block 2 (.seq (.ops [q44_14]) (.ops [q44_15]))) (.ops [q44_16])))
def verify_effect_l0 : AC := verify_effect_l0'
theorem verify_effect_l0_eq : verify_effect_l0 = verify_effect_l0' := rfl
@[go_sem] def q44_17 : List AI := [
 .j 66 (.mov (.t 7)),
 .j 67 (.bin .geq (.t 66) (.z 0))]
@[go_sem] def q44_18 : List AI := [
 .j 68 (.faddr 0 (.t 5)),
 .j 69 (.load 1 false (.t 68)),
 .j 70 (.mov (.t 7)),
 .j 71 (.call 72 [(.t 69), (.t 70)])]
@[go_sem] def q44_19 : List AI := [
 .j 72 (.mov (.t 7)),
 .j 73 (.faddr 1 (.t 5)),
 .e (.store 1 (.t 73) (.t 72))]
@[go_sem] def q44_20 : List AI := [
 .j 74 (.load 3 true (.t 5)),
 .e (.store 3 (.t 4) (.t 74))]
@[go_sem] def verify_effect_c : AC := .seq (.ops [q44_0]) (.seq (.ops [q44_1_0, q44_1_1, q44_1_2, q44_1_3, q44_1_4, q44_1_5, q44_1_6, q44_1_7, q44_1_8, q44_1_9, q44_1_10]) (.seq (.seq (.ops [q44_2]) (.block 0 (.seq (.ops [q44_3]) (.cond (.t 19) (.ops [q44_4]) (.seq (.ops [q44_5]) (.cond (.t 26) (.ops [q44_6]) (.seq (.ops [q44_7]) (.cond (.t 34) (.ops [q44_8]) (.seq (.ops [q44_9]) (.cond (.t 43) (.ops [q44_10]) (.skip))))))))))) (.seq (.ops [q44_11]) (.seq (.seq (.ops [q44_12]) (.block 1 (.loop verify_effect_l0))) (.seq (.seq (.ops [q44_17]) (.cond (.t 67) (.seq (.ops [q44_18]) (.ops [q44_19])) (.skip))) (.seq (.ops [q44_20]) (.ret)))))))
theorem verify_effect_ok : compF Tryz.prog 44 = some (75, verify_effect_c, [.c 4 3 true]) := by kernel_rfl

@[go_sem] def q45_0 : List AI := [
 .j 1 (.box 450001 5 (.t 0)),
 .j 2 (.mov (.z 0)),
 .j 3 (.mov (.c (.bool false)))]
@[go_sem] def q45_1 : List AI := [
 .j 4 (.faddr 0 (.t 1)),
 .j 5 (.load 1 false (.t 4))]
@[go_sem] def q45_2 : List AI := [
 .j 7 (.bin .eql (.t 5) (.z 14)),
 .j 6 (.mov (.t 7))]
@[go_sem] def q45_3 : List AI := [
 .j 8 (.bin .eql (.t 5) (.z 15)),
 .j 6 (.mov (.t 8))]
@[go_sem] def q45_4 : List AI := [
 .j 9 (.bin .eql (.t 5) (.z 23)),
 .j 6 (.mov (.t 9))]
@[go_sem] def q45_5 : List AI := [
 .j 10 (.bin .eql (.t 5) (.z 24)),
 .j 6 (.mov (.t 10))]
@[go_sem] def q45_6 : List AI := [
 .j 11 (.bin .eql (.t 5) (.z 26)),
 .j 6 (.mov (.t 11))]
@[go_sem] def q45_7 : List AI := [
 .j 12 (.faddr 2 (.t 1)),
 .j 13 (.load 1 false (.t 12)),
 .j 2 (.mov (.t 13)),
 .j 3 (.mov (.c (.bool true)))]
@[go_sem] def q45_8 : List AI := [
 .j 2 (.mov (.z 0)),
 .j 3 (.mov (.c (.bool false)))]
@[go_sem] def opcode_Target_c : AC := .seq (.ops [q45_0]) (.seq (.seq (.ops [q45_1]) (.block 0 (.seq (.seq (.ops [q45_2]) (.cond (.t 6) (.skip) (.seq (.ops [q45_3]) (.cond (.t 6) (.skip) (.seq (.ops [q45_4]) (.cond (.t 6) (.skip) (.seq (.ops [q45_5]) (.cond (.t 6) (.skip) (.ops [q45_6]))))))))) (.cond (.t 6) (.seq (.ops [q45_7]) (.ret)) (.skip))))) (.seq (.ops [q45_8]) (.ret)))
theorem opcode_Target_ok : compF Tryz.prog 45 = some (14, opcode_Target_c, [.t 2, .t 3]) := by kernel_rfl

@[go_sem] def q46_0 : List AI := [
 .j 1 (.box 460001 5 (.t 0)),
 .j 2 (.mov (.c (.bool false)))]
@[go_sem] def q46_1 : List AI := [
 .j 3 (.faddr 0 (.t 1)),
 .j 4 (.load 1 false (.t 3)),
 .j 5 (.bin .neq (.t 4) (.z 14)),
 .j 6 (.mov (.t 5)),
 .k 7 6 true (.faddr 0 (.t 1)),
 .k 8 6 true (.load 1 false (.t 7)),
 .k 9 6 true (.bin .neq (.t 8) (.z 17)),
 .j 10 (.pick (.t 6) (.t 9) (.c (.bool false))),
 .j 11 (.mov (.t 10)),
 .k 12 11 true (.faddr 0 (.t 1)),
 .k 13 11 true (.load 1 false (.t 12)),
 .k 14 11 true (.bin .neq (.t 13) (.z 18)),
 .j 15 (.pick (.t 11) (.t 14) (.c (.bool false))),
 .j 2 (.mov (.t 15))]
@[go_sem] def opcode_Falls_c : AC := .seq (.ops [q46_0]) (.seq (.ops [q46_1]) (.ret))
theorem opcode_Falls_ok : compF Tryz.prog 46 = some (16, opcode_Falls_c, [.t 2]) := by kernel_rfl

@[go_sem] def q47_0 : List AI := [
 .j 3 (.mov (.t 0)),
 .j 4 (.len 0 (.t 3)),
 .j 2 (.mov (.t 4))]
@[go_sem] def q47_1 : List AI := [
 .j 5 (.mov (.t 0)),
 .j 6 (.mov (.t 2)),
 .j 7 (.mov (.t 2)),
 .j 8 (.conv .u64 (.t 7)),
 .j 9 (.call 76 [(.t 8)]),
 .j 10 (.call 75 [(.t 5), (.z 0), (.t 6), (.t 9)])]
@[go_sem] def slices_Sort_int_int_c : AC := .seq (.ops [q47_0]) (.ops [q47_1])
theorem slices_Sort_int_int_ok : compF Tryz.prog 47 = some (11, slices_Sort_int_int_c, []) := by kernel_rfl

@[go_sem] def q48_0 : List AI := [
 .j 2 (.mov (.c .nils))]
@[go_sem] def q48_1 : List AI := [
 .j 6 (.mov (.t 0)),
 .j 7 (.len 0 (.t 6)),
 .j 8 (.bin .lss (.t 7) (.z 2))]
@[go_sem] def q48_2 : List AI := [
 .j 9 (.mov (.t 0)),
 .j 2 (.mov (.t 9))]
@[go_sem] def q48_3 : List AI := [
 .j 3 (.mov (.z 1))]
@[go_sem] def q48_4 : List AI := [
 .j 10 (.mov (.t 3)),
 .j 11 (.mov (.t 0)),
 .j 12 (.len 0 (.t 11)),
 .j 13 (.bin .lss (.t 10) (.t 12))]
@[go_sem] def q48_5 : List AI := [
 .j 16 (.mov (.t 0)),
 .j 17 (.mov (.t 3)),
 .j 18 (.iaddr 1 (.t 16) (.t 17)),
 .j 19 (.load 1 false (.t 18)),
 .j 20 (.mov (.t 0)),
 .j 21 (.mov (.t 3)),
 .j 22 (.bin .sub (.t 21) (.z 1)),
 .j 23 (.iaddr 1 (.t 20) (.t 22)),
 .j 24 (.load 1 false (.t 23)),
 .j 25 (.bin .eql (.t 19) (.t 24))]
@[go_sem] def q48_6 : List AI := [
 .j 26 (.mov (.t 0)),
 .j 27 (.mov (.t 3)),
 .j 28 (.slc 1 (.t 26) (some (.t 27)) none),
 .j 4 (.mov (.t 28))]
@[go_sem] def q48_7 : List AI := [
 .j 5 (.mov (.z 1))]
@[go_sem] def q48_8 : List AI := [
 .j 29 (.mov (.t 5)),
 .j 30 (.mov (.t 4)),
 .j 31 (.len 0 (.t 30)),
 .j 32 (.bin .lss (.t 29) (.t 31))]
@[go_sem] def q48_9 : List AI := [
 .j 35 (.mov (.t 4)),
 .j 36 (.mov (.t 5)),
 .j 37 (.iaddr 1 (.t 35) (.t 36)),
 .j 38 (.load 1 false (.t 37)),
 .j 39 (.mov (.t 4)),
 .j 40 (.mov (.t 5)),
 .j 41 (.bin .sub (.t 40) (.z 1)),
 .j 42 (.iaddr 1 (.t 39) (.t 41)),
 .j 43 (.load 1 false (.t 42)),
 .j 44 (.bin .neq (.t 38) (.t 43))]
@[go_sem] def q48_10 : List AI := [
 .j 45 (.mov (.t 0)),
 .j 46 (.mov (.t 3)),
 .j 47 (.mov (.t 4)),
 .j 48 (.mov (.t 5)),
 .j 49 (.iaddr 1 (.t 47) (.t 48)),
 .j 50 (.load 1 false (.t 49)),
 .j 51 (.iaddr 1 (.t 45) (.t 46)),
 .e (.store 1 (.t 51) (.t 50))]
@[go_sem] def q48_11 : List AI := [
 .j 52 (.mov (.t 3)),
 .j 53 (.bin .add (.t 52) (.z 1)),
 .j 3 (.mov (.t 53))]
@[go_sem] def q48_12 : List AI := [
 .j 33 (.mov (.t 5)),
 .j 34 (.bin .add (.t 33) (.z 1)),
 .j 5 (.mov (.t 34))]
@[go_sem] def slices_Compact_int_int_l1' : AC := .seq (.seq (.ops [q48_8]) (.cond (.t 32) (.skip) (.exit 2))) (.seq (.block 3 (.seq (.ops [q48_9]) (.cond (.t 44) (.seq (.ops [q48_10]) (.ops [q48_11])) (.skip)))) (.ops [q48_12]))
def slices_Compact_int_int_l1 : AC := slices_Compact_int_int_l1'
theorem slices_Compact_int_int_l1_eq : slices_Compact_int_int_l1 = slices_Compact_int_int_l1' := rfl
@[go_sem] def q48_13 : List AI := [
 .j 54 (.mov (.t 0)),
 .j 55 (.mov (.t 3)),
 .j 56 (.slc 1 (.t 54) (some (.t 55)) none),
 .e (.clr [(.int .i64 0)] (.t 56))]
@[go_sem] def q48_14 : List AI := [
 .j 57 (.mov (.t 0)),
 .j 58 (.mov (.t 3)),
 .j 59 (.slc 1 (.t 57) none (some (.t 58))),
 .j 2 (.mov (.t 59))]
@[go_sem] def q48_15 : List AI := [
 .j 14 (.mov (.t 3)),
 .j 15 (.bin .add (.t 14) (.z 1)),
 .j 3 (.mov (.t 15))]
@[go_sem] def slices_Compact_int_int_l0' : AC := .seq (.seq (.ops [q48_4]) (.cond (.t 13) (.skip) (.exit 0))) (.seq (.block 1 (.seq (.ops [q48_5]) (.cond (.t 25) (.seq (.ops [q48_6]) (.seq (.seq (.ops [q48_7]) (.block 2 (.loop slices_Compact_int_int_l1))) (.seq (.ops [q48_13]) (.seq (.ops [q48_14]) (.ret))))) (.skip)))) (.ops [q48_15]))
def slices_Compact_int_int_l0 : AC := slices_Compact_int_int_l0'
theorem slices_Compact_int_int_l0_eq : slices_Compact_int_int_l0 = slices_Compact_int_int_l0' := rfl
@[go_sem] def q48_16 : List AI := [
 .j 60 (.mov (.t 0)),
 .j 2 (.mov (.t 60))]
@[go_sem] def slices_Compact_int_int_c : AC := .seq (.ops [q48_0]) (.seq (.seq (.ops [q48_1]) (.cond (.t 8) (.seq (.ops [q48_2]) (.ret)) (.skip))) (.seq (.seq (.ops [q48_3]) (.block 0 (.loop slices_Compact_int_int_l0))) (.seq (.ops [q48_16]) (.ret))))
theorem slices_Compact_int_int_ok : compF Tryz.prog 48 = some (61, slices_Compact_int_int_c, [.t 2]) := by kernel_rfl

@[go_sem] def q49_0 : List AI := [
 .j 8 (.box 490008 13 (.c (.agg [(.str []), (.bool false), (.bool false), (.bool false), (.bool false), (.int .i64 0), (.int .i64 0), (.int .i64 0), (.int .i64 0), (.int .i64 0), (.int .i64 0), (.int .i64 0), (.int .i64 0)])))]
@[go_sem] def q49_1 : List AI := [
 .j 9 (.mov (.t 0)),
 .j 10 (.build [(.bool false), (.bool false), (.bool false), (.bool false)] [(0, 1, (.c (.bool true))), (1, 1, (.c (.bool true))), (2, 1, (.c (.bool false))), (3, 1, (.c (.bool false)))]),
 .j 11 (.mov (.t 2)),
 .j 12 (.build [(.int .i64 0), (.int .i64 0), (.int .i64 0), (.int .i64 0)] [(0, 1, (.z 0)), (1, 1, (.t 11)), (2, 1, (.z 0)), (3, 1, (.z 0))]),
 .j 13 (.mov (.t 1)),
 .j 14 (.mov (.t 3)),
 .j 15 (.build [(.int .i64 0), (.int .i64 0), (.int .i64 0), (.int .i64 0)] [(0, 1, (.t 13)), (1, 1, (.t 14)), (2, 1, (.z 0)), (3, 1, (.z 0))]),
 .j 16 (.build [(.str []), (.bool false), (.bool false), (.bool false), (.bool false), (.int .i64 0), (.int .i64 0), (.int .i64 0), (.int .i64 0), (.int .i64 0), (.int .i64 0), (.int .i64 0), (.int .i64 0)] [(0, 1, (.t 9)), (1, 4, (.t 10)), (5, 4, (.t 12)), (9, 4, (.t 15))]),
 .e (.store 13 (.t 8) (.t 16))]
@[go_sem] def scriptingref32_ab_c : AC := .seq (.ops [q49_0]) (.seq (.ops [q49_1]) (.ret))
theorem scriptingref32_ab_ok : compF Tryz.prog 49 = some (17, scriptingref32_ab_c, [.c 8 13 true]) := by kernel_rfl

@[go_sem] def q50_0 : List AI := [
 .j 6 (.box 500006 2 (.t 2)),
 .j 7 (.box 500007 2 (.t 3)),
 .j 8 (.box 500008 13 (.c (.agg [(.str []), (.bool false), (.bool false), (.bool false), (.bool false), (.int .i64 0), (.int .i64 0), (.int .i64 0), (.int .i64 0), (.int .i64 0), (.int .i64 0), (.int .i64 0), (.int .i64 0)])))]
@[go_sem] def q50_1 : List AI := [
 .j 9 (.mov (.t 0)),
 .j 10 (.build [(.bool false), (.bool false), (.bool false), (.bool false)] [(0, 1, (.c (.bool true))), (1, 1, (.c (.bool true))), (2, 1, (.c (.bool true))), (3, 1, (.c (.bool false)))]),
 .j 11 (.iaddrA 2 1 (.t 6) (.z 0)),
 .j 12 (.load 1 false (.t 11)),
 .j 13 (.iaddrA 2 1 (.t 7) (.z 0)),
 .j 14 (.load 1 false (.t 13)),
 .j 15 (.build [(.int .i64 0), (.int .i64 0), (.int .i64 0), (.int .i64 0)] [(0, 1, (.z 0)), (1, 1, (.t 12)), (2, 1, (.t 14)), (3, 1, (.z 0))]),
 .j 16 (.mov (.t 1)),
 .j 17 (.iaddrA 2 1 (.t 6) (.z 1)),
 .j 18 (.load 1 false (.t 17)),
 .j 19 (.iaddrA 2 1 (.t 7) (.z 1)),
 .j 20 (.load 1 false (.t 19)),
 .j 21 (.build [(.int .i64 0), (.int .i64 0), (.int .i64 0), (.int .i64 0)] [(0, 1, (.t 16)), (1, 1, (.t 18)), (2, 1, (.t 20)), (3, 1, (.z 0))]),
 .j 22 (.build [(.str []), (.bool false), (.bool false), (.bool false), (.bool false), (.int .i64 0), (.int .i64 0), (.int .i64 0), (.int .i64 0), (.int .i64 0), (.int .i64 0), (.int .i64 0), (.int .i64 0)] [(0, 1, (.t 9)), (1, 4, (.t 10)), (5, 4, (.t 15)), (9, 4, (.t 21))]),
 .e (.store 13 (.t 8) (.t 22))]
@[go_sem] def scriptingref32_abc_c : AC := .seq (.ops [q50_0]) (.seq (.ops [q50_1]) (.ret))
theorem scriptingref32_abc_ok : compF Tryz.prog 50 = some (23, scriptingref32_abc_c, [.c 8 13 true]) := by kernel_rfl

@[go_sem] def q51_0 : List AI := [
 .j 2 (.box 510002 13 (.c (.agg [(.str []), (.bool false), (.bool false), (.bool false), (.bool false), (.int .i64 0), (.int .i64 0), (.int .i64 0), (.int .i64 0), (.int .i64 0), (.int .i64 0), (.int .i64 0), (.int .i64 0)])))]
@[go_sem] def q51_1 : List AI := [
 .j 6 (.build [(.int .i64 0), (.int .i64 0)] [(0, 1, (.z (-1))), (1, 1, (.z 200))]),
 .j 3 (.box 510003 2 (.c (.agg [(.int .i64 0), (.int .i64 0)]))),
 .e (.store 2 (.t 3) (.t 6))]
@[go_sem] def q51_2 : List AI := [
 .j 7 (.build [(.int .i64 0), (.int .i64 0)] [(0, 1, (.z (-1))), (1, 1, (.z 4096))]),
 .j 4 (.box 510004 2 (.c (.agg [(.int .i64 0), (.int .i64 0)]))),
 .e (.store 2 (.t 4) (.t 7))]
@[go_sem] def q51_3 : List AI := [
 .j 8 (.build [(.int .i64 0), (.int .i64 0)] [(0, 1, (.z 0)), (1, 1, (.z 16383))]),
 .j 5 (.box 510005 2 (.c (.agg [(.int .i64 0), (.int .i64 0)]))),
 .e (.store 2 (.t 5) (.t 8))]
@[go_sem] def q51_4 : List AI := [
 .j 9 (.mov (.t 0))]
@[go_sem] def q51_5 : List AI := [
 .j 11 (.bin .eql (.t 9) (.z 14)),
 .j 10 (.mov (.t 11))]
@[go_sem] def q51_6 : List AI := [
 .j 12 (.build [(.bool false), (.bool false), (.bool false), (.bool false)] [(0, 1, (.c (.bool false))), (1, 1, (.c (.bool true))), (2, 1, (.c (.bool false))), (3, 1, (.c (.bool false)))]),
 .j 13 (.build [(.int .i64 0), (.int .i64 0), (.int .i64 0), (.int .i64 0)] [(0, 1, (.z 0)), (1, 1, (.z 16383)), (2, 1, (.z 0)), (3, 1, (.z 0))]),
 .j 14 (.build [(.str []), (.bool false), (.bool false), (.bool false), (.bool false), (.int .i64 0), (.int .i64 0), (.int .i64 0), (.int .i64 0), (.int .i64 0), (.int .i64 0), (.int .i64 0), (.int .i64 0)] [(0, 1, (.c (.str [106, 117, 109, 112]))), (1, 4, (.t 12)), (9, 4, (.t 13))]),
 .e (.store 13 (.t 2) (.t 14))]
@[go_sem] def q51_7 : List AI := [
 .j 16 (.bin .eql (.t 9) (.z 15)),
 .j 15 (.mov (.t 16))]
@[go_sem] def q51_8 : List AI := [
 .j 17 (.load 2 true (.t 5)),
 .j 18 (.build [(.int .i64 0), (.int .i64 0)] [(0, 1, (.z 0)), (1, 1, (.z 1))]),
 .j 19 (.call 50 [(.c (.str [116, 101, 115, 116])), (.z 4095), (.t 17), (.t 18)]),
 .e (.store 13 (.t 2) (.t 19))]
@[go_sem] def q51_9 : List AI := [
 .j 21 (.bin .eql (.t 9) (.z 16)),
 .j 20 (.mov (.t 21))]
@[go_sem] def q51_10 : List AI := [
 .j 22 (.load 2 true (.t 4)),
 .j 23 (.load 2 true (.t 3)),
 .j 24 (.call 50 [(.c (.str [99, 97, 108, 108])), (.z 4095), (.t 22), (.t 23)]),
 .e (.store 13 (.t 2) (.t 24))]
@[go_sem] def q51_11 : List AI := [
 .j 26 (.bin .eql (.t 9) (.z 17)),
 .j 25 (.mov (.t 26))]
@[go_sem] def q51_12 : List AI := [
 .j 27 (.call 49 [(.c (.str [116, 97, 105, 108])), (.z 4095), (.z (-1)), (.z 4096)]),
 .e (.store 13 (.t 2) (.t 27))]
@[go_sem] def q51_13 : List AI := [
 .j 29 (.bin .eql (.t 9) (.z 18)),
 .j 28 (.mov (.t 29))]
@[go_sem] def q51_14 : List AI := [
 .j 30 (.call 49 [(.c (.str [114, 101, 116, 117, 114, 110])), (.z 4095), (.z (-1)), (.z 4096)]),
 .e (.store 13 (.t 2) (.t 30))]
@[go_sem] def q51_15 : List AI := [
 .j 32 (.bin .eql (.t 9) (.z 19)),
 .j 31 (.mov (.t 32))]
@[go_sem] def q51_16 : List AI := [
 .j 33 (.call 49 [(.c (.str [118, 97, 114, 97, 114, 103])), (.z 4095), (.z (-1)), (.z 200)]),
 .e (.store 13 (.t 2) (.t 33))]
@[go_sem] def q51_17 : List AI := [
 .j 35 (.bin .eql (.t 9) (.z 20)),
 .j 34 (.mov (.t 35))]
@[go_sem] def q51_18 : List AI := [
 .j 36 (.call 77 [(.c (.str [116, 97, 98, 108, 101])), (.z 4095)]),
 .e (.store 13 (.t 2) (.t 36))]
@[go_sem] def q51_19 : List AI := [
 .j 38 (.bin .eql (.t 9) (.z 21)),
 .j 37 (.mov (.t 38))]
@[go_sem] def q51_20 : List AI := [
 .j 39 (.load 2 true (.t 4)),
 .j 40 (.build [(.int .i64 0), (.int .i64 0)] [(0, 1, (.z 1)), (1, 1, (.z 32767))]),
 .j 41 (.call 50 [(.c (.str [97, 112, 112, 101, 110, 100])), (.z 4095), (.t 39), (.t 40)]),
 .e (.store 13 (.t 2) (.t 41))]
@[go_sem] def q51_21 : List AI := [
 .j 43 (.bin .eql (.t 9) (.z 22)),
 .j 42 (.mov (.t 43))]
@[go_sem] def q51_22 : List AI := [
 .j 44 (.call 49 [(.c (.str [99, 108, 111, 115, 117, 114, 101])), (.z 4095), (.z 0), (.z 1023)]),
 .e (.store 13 (.t 2) (.t 44))]
@[go_sem] def q51_23 : List AI := [
 .j 46 (.bin .eql (.t 9) (.z 23)),
 .j 45 (.mov (.t 46))]
@[go_sem] def q51_24 : List AI := [
 .j 47 (.call 49 [(.c (.str [112, 114, 101, 112])), (.z 4092), (.z 0), (.z 16383)]),
 .e (.store 13 (.t 2) (.t 47))]
@[go_sem] def q51_25 : List AI := [
 .j 49 (.bin .eql (.t 9) (.z 24)),
 .j 48 (.mov (.t 49))]
@[go_sem] def q51_26 : List AI := [
 .j 50 (.call 49 [(.c (.str [108, 111, 111, 112])), (.z 4092), (.z 0), (.z 16383)]),
 .e (.store 13 (.t 2) (.t 50))]
@[go_sem] def q51_27 : List AI := [
 .j 52 (.bin .eql (.t 9) (.z 25)),
 .j 51 (.mov (.t 52))]
@[go_sem] def q51_28 : List AI := [
 .j 53 (.build [(.bool false), (.bool false), (.bool false), (.bool false)] [(0, 1, (.c (.bool true))), (1, 1, (.c (.bool false))), (2, 1, (.c (.bool true))), (3, 1, (.c (.bool false)))]),
 .j 54 (.build [(.int .i64 0), (.int .i64 0), (.int .i64 0), (.int .i64 0)] [(0, 1, (.z 0)), (1, 1, (.z 0)), (2, 1, (.z 1)), (3, 1, (.z 0))]),
 .j 55 (.build [(.int .i64 0), (.int .i64 0), (.int .i64 0), (.int .i64 0)] [(0, 1, (.z 4092)), (1, 1, (.z 0)), (2, 1, (.z 200)), (3, 1, (.z 0))]),
 .j 56 (.build [(.str []), (.bool false), (.bool false), (.bool false), (.bool false), (.int .i64 0), (.int .i64 0), (.int .i64 0), (.int .i64 0), (.int .i64 0), (.int .i64 0), (.int .i64 0), (.int .i64 0)] [(0, 1, (.c (.str [105, 116, 101, 114]))), (1, 4, (.t 53)), (5, 4, (.t 54)), (9, 4, (.t 55))]),
 .e (.store 13 (.t 2) (.t 56))]
@[go_sem] def q51_29 : List AI := [
 .j 58 (.bin .eql (.t 9) (.z 26)),
 .j 57 (.mov (.t 58))]
@[go_sem] def q51_30 : List AI := [
 .j 59 (.call 49 [(.c (.str [110, 101, 120, 116])), (.z 4092), (.z 0), (.z 16383)]),
 .e (.store 13 (.t 2) (.t 59))]
@[go_sem] def q51_31 : List AI := [
 .j 61 (.bin .eql (.t 9) (.z 27)),
 .j 60 (.mov (.t 61))]
@[go_sem] def q51_32 : List AI := [
 .j 62 (.call 77 [(.c (.str [99, 108, 111, 115, 101])), (.z 4095)]),
 .e (.store 13 (.t 2) (.t 62))]
@[go_sem] def q51_33 : List AI := [
 .j 64 (.bin .eql (.t 9) (.z 28)),
 .j 63 (.mov (.t 64))]
@[go_sem] def q51_34 : List AI := [
 .j 65 (.call 77 [(.c (.str [109, 97, 114, 107])), (.z 4095)]),
 .e (.store 13 (.t 2) (.t 65))]
@[go_sem] def q51_35 : List AI := [
 .j 67 (.bin .eql (.t 9) (.z 29)),
 .j 66 (.mov (.t 67))]
@[go_sem] def q51_36 : List AI := [
 .j 68 (.call 77 [(.c (.str [115, 116, 97, 116])), (.z 1)]),
 .e (.store 13 (.t 2) (.t 68))]
@[go_sem] def q51_37 : List AI := [
 .j 69 (.call 78 [(.c (.str []))]),
 .e (.store 13 (.t 2) (.t 69))]
@[go_sem] def scriptingref32_later_c : AC := .seq (.ops [q51_0]) (.seq (.ops [q51_1]) (.seq (.ops [q51_2]) (.seq (.ops [q51_3]) (.seq (.seq (.ops [q51_4]) (.block 0 (.seq (.ops [q51_5]) (.cond (.t 10) (.seq (.ops [q51_6]) (.ret)) (.seq (.ops [q51_7]) (.cond (.t 15) (.seq (.ops [q51_8]) (.ret)) (.seq (.ops [q51_9]) (.cond (.t 20) (.seq (.ops [q51_10]) (.ret)) (.seq (.ops [q51_11]) (.cond (.t 25) (.seq (.ops [q51_12]) (.ret)) (.seq (.ops [q51_13]) (.cond (.t 28) (.seq (.ops [q51_14]) (.ret)) (.seq (.ops [q51_15]) (.cond (.t 31) (.seq (.ops [q51_16]) (.ret)) (.seq (.ops [q51_17]) (.cond (.t 34) (.seq (.ops [q51_18]) (.ret)) (.seq (.ops [q51_19]) (.cond (.t 37) (.seq (.ops [q51_20]) (.ret)) (.seq (.ops [q51_21]) (.cond (.t 42) (.seq (.ops [q51_22]) (.ret)) (.seq (.ops [q51_23]) (.cond (.t 45) (.seq (.ops [q51_24]) (.ret)) (.seq (.ops [q51_25]) (.cond (.t 48) (.seq (.ops [q51_26]) (.ret)) (.seq (.ops [q51_27]) (.cond (.t 51) (.seq (.ops [q51_28]) (.ret)) (.seq (.ops [q51_29]) (.cond (.t 57) (.seq (.ops [q51_30]) (.ret)) (.seq (.ops [q51_31]) (.cond (.t 60) (.seq (.ops [q51_32]) (.ret)) (.seq (.ops [q51_33]) (.cond (.t 63) (.seq (.ops [q51_34]) (.ret)) (.seq (.ops [q51_35]) (.cond (.t 66) (.seq (.ops [q51_36]) (.ret)) (.skip))))))))))))))))))))))))))))))))))) (.seq (.ops [q51_37]) (.ret))))))
theorem scriptingref32_later_ok : compF Tryz.prog 51 = some (70, scriptingref32_later_c, [.c 2 13 true]) := by kernel_rfl

@[go_sem] def q52_0 : List AI := [
 .j 3 (.box 520003 11 (.t 0)),
 .j 6 (.mov (.c (.bool false)))]
@[go_sem] def q52_1 : List AI := [
 .j 14 (.mov (.t 2)),
 .j 15 (.mov (.t 1)),
 .j 16 (.look 0 (.agg [.nils, (.int .i64 0), .nils]) true (.t 14) (.t 15)),
 .j 13 (.mov (.t 16)),
 .j 17 (.ext 0 (.t 13)),
 .j 18 (.ext 1 (.t 13)),
 .j 7 (.box 520007 3 (.c (.agg [.nils, (.int .i64 0), .nils]))),
 .e (.store 3 (.t 7) (.t 17)),
 .j 8 (.mov (.t 18))]
@[go_sem] def q52_2 : List AI := [
 .j 19 (.mov (.t 8)),
 .j 20 (.un .not (.t 19))]
@[go_sem] def q52_3 : List AI := [
 .j 6 (.mov (.c (.bool false)))]
@[go_sem] def q52_4 : List AI := [
 .j 21 (.faddr 5 (.t 3)),
 .j 22 (.load 1 false (.t 21)),
 .j 23 (.mov (.t 1)),
 .j 24 (.iaddr 5 (.t 22) (.t 23)),
 .j 25 (.load 5 true (.t 24)),
 .j 9 (.box 520009 5 (.c (.agg [(.int .i64 0), (.int .i64 0), (.int .i64 0), (.int .i64 0), (.int .i64 0)]))),
 .e (.store 5 (.t 9) (.t 25))]
@[go_sem] def q52_5 : List AI := [
 .j 27 (.load 5 true (.t 9)),
 .j 28 (.call 46 [(.t 27)]),
 .j 29 (.mov (.t 28)),
 .k 30 29 true (.mov (.t 1)),
 .k 31 29 true (.faddr 5 (.t 3)),
 .k 32 29 true (.load 1 false (.t 31)),
 .k 33 29 true (.len 0 (.t 32)),
 .k 34 29 true (.bin .sub (.t 33) (.z 1)),
 .k 35 29 true (.bin .eql (.t 30) (.t 34)),
 .j 36 (.pick (.t 29) (.t 35) (.c (.bool false))),
 .j 26 (.mov (.t 36))]
@[go_sem] def q52_6 : List AI := [
 .j 6 (.mov (.c (.bool true)))]
@[go_sem] def q52_7 : List AI := [
 .j 38 (.load 11 true (.t 3)),
 .j 39 (.load 5 true (.t 9)),
 .j 40 (.load 3 true (.t 7)),
 .j 41 (.call 79 [(.t 38), (.t 39), (.t 40)]),
 .j 42 (.un .not (.t 41)),
 .j 37 (.mov (.t 42))]
@[go_sem] def q52_8 : List AI := [
 .j 6 (.mov (.c (.bool true)))]
@[go_sem] def q52_9 : List AI := [
 .j 44 (.faddr 0 (.t 9)),
 .j 45 (.load 1 false (.t 44)),
 .j 46 (.bin .eql (.t 45) (.z 28)),
 .j 47 (.mov (.t 46)),
 .k 48 47 true (.faddr 2 (.t 7)),
 .k 49 47 true (.load 1 false (.t 48)),
 .k 50 47 true (.mkfn 80 [(.t 9)]),
 .k 51 47 true (.call 62 [(.t 49), (.t 50)]),
 .j 52 (.pick (.t 47) (.t 51) (.c (.bool false))),
 .j 43 (.mov (.t 52))]
@[go_sem] def q52_10 : List AI := [
 .j 6 (.mov (.c (.bool true)))]
@[go_sem] def q52_11 : List AI := [
 .j 54 (.faddr 0 (.t 9)),
 .j 55 (.load 1 false (.t 54)),
 .j 56 (.bin .eql (.t 55) (.z 17)),
 .j 57 (.mov (.t 56)),
 .k 58 57 true (.faddr 2 (.t 7)),
 .k 59 57 true (.load 1 false (.t 58)),
 .k 60 57 true (.len 0 (.t 59)),
 .k 61 57 true (.bin .gtr (.t 60) (.z 0)),
 .j 62 (.pick (.t 57) (.t 61) (.c (.bool false))),
 .j 53 (.mov (.t 62))]
@[go_sem] def q52_12 : List AI := [
 .j 6 (.mov (.c (.bool true)))]
@[go_sem] def q52_13 : List AI := [
 .j 63 (.load 11 true (.t 3)),
 .j 64 (.mov (.t 1)),
 .j 65 (.call 30 [(.t 63), (.t 64)]),
 .j 66 (.len 0 (.t 65)),
 .j 67 (.mov (.z 0))]
@[go_sem] def q52_14 : List AI := [
 .j 68 (.bin .lss (.t 67) (.t 66))]
@[go_sem] def q52_15 : List AI := [
 .j 69 (.iaddr 1 (.t 65) (.t 67)),
 .j 70 (.load 1 false (.t 69)),
 .j 11 (.mov (.t 70))]
@[go_sem] def q52_16 : List AI := [
 .j 71 (.load 11 true (.t 3)),
 .j 72 (.mov (.t 1)),
 .j 73 (.mov (.t 11)),
 .j 74 (.build [(.int .i64 0), (.int .i64 0)] [(0, 1, (.t 72)), (1, 1, (.t 73))]),
 .j 75 (.load 3 true (.t 7)),
 .j 76 (.call 28 [(.t 71), (.t 74), (.t 75)]),
 .j 12 (.box 520012 3 (.c (.agg [.nils, (.int .i64 0), .nils]))),
 .e (.store 3 (.t 12) (.t 76))]
@[go_sem] def q52_17 : List AI := [
 .j 77 (.faddr 1 (.t 12)),
 .j 78 (.load 1 false (.t 77)),
 .j 79 (.mov (.t 2)),
 .j 80 (.mov (.t 11)),
 .j 81 (.look 0 (.agg [.nils, (.int .i64 0), .nils]) false (.t 79) (.t 80)),
 .j 82 (.fld 1 1 false (.t 81)),
 .j 83 (.bin .neq (.t 78) (.t 82)),
 .j 84 (.mov (.t 83)),
 .k 85 84 false (.faddr 2 (.t 12)),
 .k 86 84 false (.load 1 false (.t 85)),
 .k 87 84 false (.mov (.t 2)),
 .k 88 84 false (.mov (.t 11)),
 .k 89 84 false (.look 0 (.agg [.nils, (.int .i64 0), .nils]) false (.t 87) (.t 88)),
 .k 90 84 false (.fld 2 1 false (.t 89)),
 .k 91 84 false (.call 81 [(.t 86), (.t 90)]),
 .k 92 84 false (.un .not (.t 91)),
 .j 93 (.pick (.t 84) (.c (.bool true)) (.t 92)),
 .j 94 (.mov (.t 93)),
 .k 95 94 false (.mov (.t 11)),
 .k 96 94 false (.mov (.t 1)),
 .k 97 94 false (.bin .leq (.t 95) (.t 96)),
 .k 98 94 false (.mov (.t 97)),
 .k 99 98 true (.faddr 5 (.t 3)),
 .k 100 98 true (.load 1 false (.t 99)),
 .k 101 98 true (.mov (.t 11)),
 .k 102 98 true (.iaddr 5 (.t 100) (.t 101)),
 .k 103 98 true (.faddr 0 (.t 102)),
 .k 104 98 true (.load 1 false (.t 103)),
 .k 105 98 true (.bin .neq (.t 104) (.z 29)),
 .k 106 94 false (.pick (.t 98) (.t 105) (.c (.bool false))),
 .j 107 (.pick (.t 94) (.c (.bool true)) (.t 106))]
@[go_sem] def q52_18 : List AI := [
 .j 6 (.mov (.c (.bool true)))]
@[go_sem] def q52_19 : List AI := [
 .j 108 (.bin .add (.t 67) (.z 1)),
 .j 67 (.mov (.t 108))]
@[go_sem] def verify_violates_l0' : AC := .seq (.ops [q52_14]) (.seq (.cond (.t 68) (.skip) (.exit 1)) (.seq (.block 2 (.seq (.ops [q52_15]) (.seq (.ops [q52_16]) (.seq (.ops [q52_17]) (.cond (.t 107) (.seq (.ops [q52_18]) (.ret)) (.skip)))))) (.ops [q52_19])))
def verify_violates_l0 : AC := verify_violates_l0'
theorem verify_violates_l0_eq : verify_violates_l0 = verify_violates_l0' := rfl
@[go_sem] def q52_20 : List AI := [
 .j 6 (.mov (.c (.bool false)))]
@[go_sem] def verify_violates_c : AC := .seq (.ops [q52_0]) (.seq (.ops [q52_1]) (.seq (.seq (.ops [q52_2]) (.cond (.t 20) (.seq (.ops [q52_3]) (.ret)) (.skip))) (.seq (.ops [q52_4]) (.seq (.block 0 (.seq (.ops [q52_5]) (.cond (.t 26) (.seq (.ops [q52_6]) (.ret)) (.seq (.ops [q52_7]) (.cond (.t 37) (.seq (.ops [q52_8]) (.ret)) (.seq (.ops [q52_9]) (.cond (.t 43) (.seq (.ops [q52_10]) (.ret)) (.seq (.ops [q52_11]) (.cond (.t 53) (.seq (.ops [q52_12]) (.ret)) (.skip)))))))))) (.seq (.seq (.ops [q52_13]) (.block 1 (.loop verify_violates_l0))) (.seq (.ops [q52_20]) (.ret)))))))
theorem verify_violates_ok : compF Tryz.prog 52 = some (109, verify_violates_c, [.t 6]) := by kernel_rfl

@[go_sem] def q53_0 : List AI := [
 .j 2 (.mov (.c .nils))]
@[go_sem] def q53_1 : List AI := [
 .j 3 (.mov (.t 0)),
 .j 4 (.eqn false false (.t 3))]
@[go_sem] def q53_2 : List AI := [
 .j 2 (.mov (.c .nils))]
@[go_sem] def q53_3 : List AI := [
 .j 5 (.mkrow 530005 5 []),
 .j 6 (.mov (.t 0)),
 .j 7 (.app 530007 5 (.t 5) (.t 6)),
 .j 2 (.mov (.t 7))]
@[go_sem] def slices_Clone_api_Instr_api_Instr_c : AC := .seq (.ops [q53_0]) (.seq (.seq (.ops [q53_1]) (.cond (.t 4) (.seq (.ops [q53_2]) (.ret)) (.skip))) (.seq (.ops [q53_3]) (.ret)))
theorem slices_Clone_api_Instr_api_Instr_ok : compF Tryz.prog 53 = some (8, slices_Clone_api_Instr_api_Instr_c, [.t 2]) := by kernel_rfl

@[go_sem] def q54_0 : List AI := [
 .j 2 (.mov (.c .nils))]
@[go_sem] def q54_1 : List AI := [
 .j 3 (.mov (.t 0)),
 .j 4 (.eqn false false (.t 3))]
@[go_sem] def q54_2 : List AI := [
 .j 2 (.mov (.c .nils))]
@[go_sem] def q54_3 : List AI := [
 .j 5 (.mkrow 540005 5 []),
 .j 6 (.mov (.t 0)),
 .j 7 (.app 540007 5 (.t 5) (.t 6)),
 .j 2 (.mov (.t 7))]
@[go_sem] def slices_Clone_api_Value_api_Value_c : AC := .seq (.ops [q54_0]) (.seq (.seq (.ops [q54_1]) (.cond (.t 4) (.seq (.ops [q54_2]) (.ret)) (.skip))) (.seq (.ops [q54_3]) (.ret)))
theorem slices_Clone_api_Value_api_Value_ok : compF Tryz.prog 54 = some (8, slices_Clone_api_Value_api_Value_c, [.t 2]) := by kernel_rfl

@[go_sem] def q55_0 : List AI := [
 .j 2 (.mov (.c .nils))]
@[go_sem] def q55_1 : List AI := [
 .j 3 (.mov (.t 0)),
 .j 4 (.eqn false false (.t 3))]
@[go_sem] def q55_2 : List AI := [
 .j 2 (.mov (.c .nils))]
@[go_sem] def q55_3 : List AI := [
 .j 5 (.mkrow 550005 3 []),
 .j 6 (.mov (.t 0)),
 .j 7 (.app 550007 3 (.t 5) (.t 6)),
 .j 2 (.mov (.t 7))]
@[go_sem] def slices_Clone_api_Up_api_Up_c : AC := .seq (.ops [q55_0]) (.seq (.seq (.ops [q55_1]) (.cond (.t 4) (.seq (.ops [q55_2]) (.ret)) (.skip))) (.seq (.ops [q55_3]) (.ret)))
theorem slices_Clone_api_Up_api_Up_ok : compF Tryz.prog 55 = some (8, slices_Clone_api_Up_api_Up_c, [.t 2]) := by kernel_rfl

@[go_sem] def q56_0 : List AI := [
 .j 2 (.mov (.c .nils))]
@[go_sem] def q56_1 : List AI := [
 .j 3 (.mov (.t 0)),
 .j 4 (.eqn false false (.t 3))]
@[go_sem] def q56_2 : List AI := [
 .j 2 (.mov (.c .nils))]
@[go_sem] def q56_3 : List AI := [
 .j 5 (.mkrow 560005 5 []),
 .j 6 (.mov (.t 0)),
 .j 7 (.app 560007 5 (.t 5) (.t 6)),
 .j 2 (.mov (.t 7))]
@[go_sem] def slices_Clone_api_Var_api_Var_c : AC := .seq (.ops [q56_0]) (.seq (.seq (.ops [q56_1]) (.cond (.t 4) (.seq (.ops [q56_2]) (.ret)) (.skip))) (.seq (.ops [q56_3]) (.ret)))
theorem slices_Clone_api_Var_api_Var_ok : compF Tryz.prog 56 = some (8, slices_Clone_api_Var_api_Var_c, [.t 2]) := by kernel_rfl

@[go_sem] def q57_0 : List AI := [
 .j 2 (.mov (.c (.bool false)))]
@[go_sem] def q57_1 : List AI := [
 .j 3 (.mov (.t 0)),
 .j 4 (.len 1 (.t 3)),
 .j 5 (.bin .gtr (.t 4) (.z 40)),
 .j 2 (.mov (.t 5))]
@[go_sem] def proto_limits_1_c : AC := .seq (.ops [q57_0]) (.seq (.ops [q57_1]) (.ret))
theorem proto_limits_1_ok : compF Tryz.prog 57 = some (6, proto_limits_1_c, [.t 2]) := by kernel_rfl

@[go_sem] def q58_0 : List AI := [
 .j 4 (.mov (.c (.bool false)))]
@[go_sem] def q58_1 : List AI := [
 .j 5 (.mov (.t 0)),
 .j 6 (.mov (.t 1)),
 .j 7 (.call 82 [(.t 5), (.t 6)]),
 .j 8 (.bin .geq (.t 7) (.z 0)),
 .j 4 (.mov (.t 8))]
@[go_sem] def slices_ContainsFunc_api_Up_api_Up_c : AC := .seq (.ops [q58_0]) (.seq (.ops [q58_1]) (.ret))
theorem slices_ContainsFunc_api_Up_api_Up_ok : compF Tryz.prog 58 = some (9, slices_ContainsFunc_api_Up_api_Up_c, [.t 4]) := by kernel_rfl

@[go_sem] def q59_0 : List AI := [
 .j 2 (.box 590002 3 (.t 0)),
 .j 3 (.mov (.c (.bool false)))]
@[go_sem] def q59_1 : List AI := [
 .j 4 (.load 1 false (.t 1)),
 .j 5 (.faddr 0 (.t 2)),
 .j 6 (.load 1 false (.t 5)),
 .j 7 (.callv (.t 4) [(.t 6)]),
 .j 3 (.mov (.t 7))]
@[go_sem] def proto_limits_2_c : AC := .seq (.ops [q59_0]) (.seq (.ops [q59_1]) (.ret))
theorem proto_limits_2_ok : compF Tryz.prog 59 = some (8, proto_limits_2_c, [.t 3]) := by kernel_rfl

@[go_sem] def q60_0 : List AI := [
 .j 4 (.mov (.c (.bool false)))]
@[go_sem] def q60_1 : List AI := [
 .j 5 (.mov (.t 0)),
 .j 6 (.mov (.t 1)),
 .j 7 (.call 83 [(.t 5), (.t 6)]),
 .j 8 (.bin .geq (.t 7) (.z 0)),
 .j 4 (.mov (.t 8))]
@[go_sem] def slices_ContainsFunc_api_Var_api_Var_c : AC := .seq (.ops [q60_0]) (.seq (.ops [q60_1]) (.ret))
theorem slices_ContainsFunc_api_Var_api_Var_ok : compF Tryz.prog 60 = some (9, slices_ContainsFunc_api_Var_api_Var_c, [.t 4]) := by kernel_rfl

@[go_sem] def q61_0 : List AI := [
 .j 2 (.box 610002 5 (.t 0)),
 .j 3 (.mov (.c (.bool false)))]
@[go_sem] def q61_1 : List AI := [
 .j 4 (.load 1 false (.t 1)),
 .j 5 (.faddr 0 (.t 2)),
 .j 6 (.load 1 false (.t 5)),
 .j 7 (.callv (.t 4) [(.t 6)]),
 .j 3 (.mov (.t 7))]
@[go_sem] def proto_limits_3_c : AC := .seq (.ops [q61_0]) (.seq (.ops [q61_1]) (.ret))
theorem proto_limits_3_ok : compF Tryz.prog 61 = some (8, proto_limits_3_c, [.t 3]) := by kernel_rfl

@[go_sem] def q62_0 : List AI := [
 .j 4 (.mov (.c (.bool false)))]
@[go_sem] def q62_1 : List AI := [
 .j 5 (.mov (.t 0)),
 .j 6 (.mov (.t 1)),
 .j 7 (.call 84 [(.t 5), (.t 6)]),
 .j 8 (.bin .geq (.t 7) (.z 0)),
 .j 4 (.mov (.t 8))]
@[go_sem] def slices_ContainsFunc_int_int_c : AC := .seq (.ops [q62_0]) (.seq (.ops [q62_1]) (.ret))
theorem slices_ContainsFunc_int_int_ok : compF Tryz.prog 62 = some (9, slices_ContainsFunc_int_int_c, [.t 4]) := by kernel_rfl

@[go_sem] def q63_0 : List AI := [
 .j 2 (.mov (.c (.bool false)))]
@[go_sem] def q63_1 : List AI := [
 .j 3 (.mov (.t 0)),
 .j 4 (.bin .lss (.t 3) (.z 0)),
 .j 2 (.mov (.t 4))]
@[go_sem] def proto_form_1_c : AC := .seq (.ops [q63_0]) (.seq (.ops [q63_1]) (.ret))
theorem proto_form_1_ok : compF Tryz.prog 63 = some (5, proto_form_1_c, [.t 2]) := by kernel_rfl

@[go_sem] def q64_0 : List AI := [
 .j 1 (.box 640001 3 (.t 0)),
 .j 2 (.mov (.c (.bool false)))]
@[go_sem] def q64_1 : List AI := [
 .j 3 (.faddr 2 (.t 1)),
 .j 4 (.load 1 false (.t 3)),
 .j 5 (.bin .lss (.t 4) (.z 0)),
 .j 2 (.mov (.t 5))]
@[go_sem] def proto_form_2_c : AC := .seq (.ops [q64_0]) (.seq (.ops [q64_1]) (.ret))
theorem proto_form_2_ok : compF Tryz.prog 64 = some (6, proto_form_2_c, [.t 2]) := by kernel_rfl

end Go.Proofs.YtkcehagdbecolaaGreatDoor
