/-
  The code of the functions that this seat reaches, translated into abstract code (printed by a program, each proved to be the translation). No condition.
-/
import Derived.Test.YtkcehagdbecolaaGreatDoorCodeA
import Derived.Test.YtkcehagdbecolaaGreatDoorChecked
set_option maxRecDepth 1000000
namespace Go.Proofs.YtkcehagdbecolaaGreatDoor
open Go.Abs
@[go_sem] def q65_0 : List AI := [
 .j 1 (.box 650001 5 (.t 0)),
 .j 2 (.mov (.c (.bool false)))]
@[go_sem] def q65_1 : List AI := [
 .j 5 (.faddr 0 (.t 1)),
 .j 6 (.load 1 false (.t 5)),
 .j 7 (.build [(.int .i64 0), (.int .i64 0), (.int .i64 0), (.str []), (.int .i64 0)] [(0, 1, (.t 6))]),
 .j 3 (.box 650003 5 (.c (.agg [(.int .i64 0), (.int .i64 0), (.int .i64 0), (.str []), (.int .i64 0)]))),
 .e (.store 5 (.t 3) (.t 7))]
@[go_sem] def q65_2 : List AI := [
 .j 4 (.mov (.c (.bool true)))]
@[go_sem] def q65_3 : List AI := [
 .j 8 (.faddr 0 (.t 1)),
 .j 9 (.load 1 false (.t 8))]
@[go_sem] def q65_4 : List AI := [
 .j 11 (.bin .eql (.t 9) (.z 0)),
 .j 10 (.mov (.t 11))]
@[go_sem] def q65_5 : List AI := [
 .j 13 (.bin .eql (.t 9) (.z 1)),
 .j 12 (.mov (.t 13))]
@[go_sem] def q65_6 : List AI := [
 .j 14 (.faddr 4 (.t 1)),
 .j 15 (.load 1 false (.t 14)),
 .j 16 (.faddr 4 (.t 3)),
 .e (.store 1 (.t 16) (.t 15))]
@[go_sem] def q65_7 : List AI := [
 .j 17 (.faddr 4 (.t 1)),
 .j 18 (.load 1 false (.t 17)),
 .j 19 (.bin .eql (.t 18) (.z 0)),
 .j 20 (.mov (.t 19)),
 .k 21 20 false (.faddr 4 (.t 1)),
 .k 22 20 false (.load 1 false (.t 21)),
 .k 23 20 false (.bin .eql (.t 22) (.z 1)),
 .j 24 (.pick (.t 20) (.c (.bool true)) (.t 23)),
 .j 4 (.mov (.t 24))]
@[go_sem] def q65_8 : List AI := [
 .j 26 (.bin .eql (.t 9) (.z 2)),
 .j 25 (.mov (.t 26))]
@[go_sem] def q65_9 : List AI := [
 .j 27 (.faddr 1 (.t 1)),
 .j 28 (.load 2 true (.t 27)),
 .j 29 (.faddr 1 (.t 3)),
 .e (.store 2 (.t 29) (.t 28))]
@[go_sem] def q65_10 : List AI := [
 .j 30 (.faddr 1 (.t 1)),
 .j 31 (.load 2 true (.t 30)),
 .j 32 (.call 85 [(.t 31)]),
 .j 4 (.mov (.t 32))]
@[go_sem] def q65_11 : List AI := [
 .j 34 (.bin .eql (.t 9) (.z 3)),
 .j 33 (.mov (.t 34))]
@[go_sem] def q65_12 : List AI := [
 .j 35 (.faddr 3 (.t 1)),
 .j 36 (.load 1 false (.t 35)),
 .j 37 (.faddr 3 (.t 3)),
 .e (.store 1 (.t 37) (.t 36))]
@[go_sem] def q65_13 : List AI := [
 .j 38 (.faddr 3 (.t 1)),
 .j 39 (.load 1 false (.t 38)),
 .j 40 (.len 1 (.t 39)),
 .j 41 (.bin .leq (.t 40) (.z 4096)),
 .j 4 (.mov (.t 41))]
@[go_sem] def q65_14 : List AI := [
 .j 43 (.bin .eql (.t 9) (.z 4)),
 .j 42 (.mov (.t 43))]
@[go_sem] def q65_15 : List AI := [
 .j 44 (.bin .eql (.t 9) (.z 5)),
 .j 42 (.mov (.t 44))]
@[go_sem] def q65_16 : List AI := [
 .j 45 (.bin .eql (.t 9) (.z 7)),
 .j 42 (.mov (.t 45))]
@[go_sem] def q65_17 : List AI := [
 .j 46 (.bin .eql (.t 9) (.z 8)),
 .j 42 (.mov (.t 46))]
@[go_sem] def q65_18 : List AI := [
 .j 47 (.faddr 4 (.t 1)),
 .j 48 (.load 1 false (.t 47)),
 .j 49 (.faddr 4 (.t 3)),
 .e (.store 1 (.t 49) (.t 48))]
@[go_sem] def q65_19 : List AI := [
 .j 50 (.faddr 4 (.t 1)),
 .j 51 (.load 1 false (.t 50)),
 .j 52 (.bin .geq (.t 51) (.z 1)),
 .j 4 (.mov (.t 52))]
@[go_sem] def q65_20 : List AI := [
 .j 54 (.bin .eql (.t 9) (.z 6)),
 .j 53 (.mov (.t 54))]
@[go_sem] def q65_21 : List AI := [
 .j 55 (.faddr 3 (.t 1)),
 .j 56 (.load 1 false (.t 55)),
 .j 57 (.faddr 3 (.t 3)),
 .e (.store 1 (.t 57) (.t 56))]
@[go_sem] def q65_22 : List AI := [
 .j 58 (.faddr 3 (.t 1)),
 .j 59 (.load 1 false (.t 58)),
 .j 60 (.len 1 (.t 59)),
 .j 61 (.bin .geq (.t 60) (.z 1)),
 .j 62 (.mov (.t 61)),
 .k 63 62 true (.faddr 3 (.t 1)),
 .k 64 62 true (.load 1 false (.t 63)),
 .k 65 62 true (.len 1 (.t 64)),
 .k 66 62 true (.bin .leq (.t 65) (.z 4096)),
 .j 67 (.pick (.t 62) (.t 66) (.c (.bool false))),
 .j 4 (.mov (.t 67))]
@[go_sem] def q65_23 : List AI := [
 .j 4 (.mov (.c (.bool false)))]
@[go_sem] def q65_24 : List AI := [
 .j 68 (.mov (.t 4)),
 .j 69 (.mov (.t 68)),
 .k 70 69 true (.load 5 true (.t 1)),
 .k 71 69 true (.load 5 true (.t 3)),
 .k 72 69 true (.eqa false (.agg [(0, 1, (.leaf 1)), (1, 2, (.agg [(0, 1, (.leaf 1)), (1, 1, (.leaf 1))])), (3, 1, (.leaf 2)), (4, 1, (.leaf 1))]) (.t 70) (.t 71)),
 .j 73 (.pick (.t 69) (.t 72) (.c (.bool false))),
 .j 2 (.mov (.t 73))]
@[go_sem] def value_Valid_c : AC := .seq (.ops [q65_0]) (.seq (.ops [q65_1]) (.seq (.ops [q65_2]) (.seq (.seq (.ops [q65_3]) (.block 0 (.seq (.ops [q65_4]) (.cond (.t 10) (.skip) (.seq (.ops [q65_5]) (.cond (.t 12) (.seq (.ops [q65_6]) (.ops [q65_7])) (.seq (.ops [q65_8]) (.cond (.t 25) (.seq (.ops [q65_9]) (.ops [q65_10])) (.seq (.ops [q65_11]) (.cond (.t 33) (.seq (.ops [q65_12]) (.ops [q65_13])) (.seq (.seq (.ops [q65_14]) (.cond (.t 42) (.skip) (.seq (.ops [q65_15]) (.cond (.t 42) (.skip) (.seq (.ops [q65_16]) (.cond (.t 42) (.skip) (.ops [q65_17]))))))) (.cond (.t 42) (.seq (.ops [q65_18]) (.ops [q65_19])) (.seq (.ops [q65_20]) (.cond (.t 53) (.seq (.ops [q65_21]) (.ops [q65_22])) (.ops [q65_23]))))))))))))))) (.seq (.ops [q65_24]) (.ret)))))
theorem value_Valid_ok : compF Tryz.prog 65 = some (74, value_Valid_c, [.t 2]) := by kernel_rfl

@[go_sem] def q66_0 : List AI := [
 .j 1 (.box 660001 5 (.t 0)),
 .j 2 (.mov (.z 0))]
@[go_sem] def q66_1 : List AI := [
 .j 14 (.faddr 0 (.t 1)),
 .j 15 (.load 1 false (.t 14)),
 .j 16 (.call 86 [(.t 15)]),
 .j 13 (.mov (.t 16)),
 .j 17 (.ext 0 (.t 13)),
 .j 18 (.ext 1 (.t 13)),
 .j 3 (.box 660003 6 (.c (.agg [(.str []), (.int .i64 0), (.int .i64 0), (.int .i64 0), (.int .i64 0), (.int .i64 0)]))),
 .e (.store 6 (.t 3) (.t 17)),
 .j 4 (.mov (.t 18))]
@[go_sem] def q66_2 : List AI := [
 .j 19 (.mov (.t 4)),
 .j 20 (.un .not (.t 19))]
@[go_sem] def q66_3 : List AI := [
 .j 2 (.mov (.z 4))]
@[go_sem] def q66_4 : List AI := [
 .j 22 (.load 6 true (.t 3)),
 .j 23 (.load 5 true (.t 1)),
 .j 24 (.call 87 [(.t 22), (.t 23)]),
 .j 21 (.mov (.t 24)),
 .j 25 (.ext 0 (.t 21)),
 .j 26 (.ext 1 (.t 21)),
 .j 5 (.box 660005 4 (.c (.agg [(.int .i64 0), (.int .i64 0), (.int .i64 0), (.int .i64 0)]))),
 .j 6 (.box 660006 4 (.c (.agg [(.int .i64 0), (.int .i64 0), (.int .i64 0), (.int .i64 0)]))),
 .e (.store 4 (.t 5) (.t 25)),
 .e (.store 4 (.t 6) (.t 26))]
@[go_sem] def q66_5 : List AI := [
 .j 27 (.load 4 true (.t 5)),
 .j 28 (.mov (.z 0))]
@[go_sem] def q66_6 : List AI := [
 .j 29 (.bin .lss (.t 28) (.z 4))]
@[go_sem] def q66_7 : List AI := [
 .j 30 (.mov (.t 28)),
 .j 31 (.idxA 4 1 1 false (.t 27) (.t 28)),
 .j 7 (.mov (.t 30)),
 .j 8 (.mov (.t 31))]
@[go_sem] def q66_8 : List AI := [
 .j 32 (.mov (.t 8)),
 .j 33 (.bin .eql (.t 32) (.z 0)),
 .j 34 (.mov (.t 33)),
 .k 35 34 true (.mov (.t 7)),
 .k 36 34 true (.iaddrA 4 1 (.t 6) (.t 35)),
 .k 37 34 true (.load 1 false (.t 36)),
 .k 38 34 true (.bin .neq (.t 37) (.z 0)),
 .j 39 (.pick (.t 34) (.t 38) (.c (.bool false)))]
@[go_sem] def q66_9 : List AI := [
 .j 2 (.mov (.z 4))]
@[go_sem] def q66_10 : List AI := [
 .j 40 (.bin .add (.t 28) (.z 1)),
 .j 28 (.mov (.t 40))]
@[go_sem] def opcode_Check_l0' : AC := .seq (.ops [q66_6]) (.seq (.cond (.t 29) (.skip) (.exit 0)) (.seq (.block 1 (.seq (.ops [q66_7]) (.seq (.ops [q66_8]) (.cond (.t 39) (.seq (.ops [q66_9]) (.ret)) (.skip))))) (.ops [q66_10])))
def opcode_Check_l0 : AC := opcode_Check_l0'
theorem opcode_Check_l0_eq : opcode_Check_l0 = opcode_Check_l0' := rfl
@[go_sem] def q66_11 : List AI := [
 .j 41 (.load 4 true (.t 5)),
 .j 42 (.mov (.z 0))]
@[go_sem] def q66_12 : List AI := [
 .j 43 (.bin .lss (.t 42) (.z 4))]
@[go_sem] def q66_13 : List AI := [
 .j 44 (.mov (.t 42)),
 .j 45 (.idxA 4 1 1 false (.t 41) (.t 42)),
 .j 9 (.mov (.t 44)),
 .j 10 (.mov (.t 45))]
@[go_sem] def q66_14 : List AI := [
 .j 47 (.mov (.t 10)),
 .j 48 (.call 88 [(.t 47)]),
 .j 46 (.mov (.t 48)),
 .j 49 (.ext 0 (.t 46)),
 .j 50 (.ext 1 (.t 46)),
 .j 11 (.mov (.t 49)),
 .j 12 (.mov (.t 50))]
@[go_sem] def q66_15 : List AI := [
 .j 51 (.mov (.t 9)),
 .j 52 (.iaddrA 4 1 (.t 6) (.t 51)),
 .j 53 (.load 1 false (.t 52)),
 .j 54 (.mov (.t 11)),
 .j 55 (.bin .lss (.t 53) (.t 54)),
 .j 56 (.mov (.t 55)),
 .k 57 56 false (.mov (.t 9)),
 .k 58 56 false (.iaddrA 4 1 (.t 6) (.t 57)),
 .k 59 56 false (.load 1 false (.t 58)),
 .k 60 56 false (.mov (.t 12)),
 .k 61 56 false (.bin .gtr (.t 59) (.t 60)),
 .j 62 (.pick (.t 56) (.c (.bool true)) (.t 61))]
@[go_sem] def q66_16 : List AI := [
 .j 2 (.mov (.z 6))]
@[go_sem] def q66_17 : List AI := [
 .j 63 (.bin .add (.t 42) (.z 1)),
 .j 42 (.mov (.t 63))]
@[go_sem] def opcode_Check_l1' : AC := .seq (.ops [q66_12]) (.seq (.cond (.t 43) (.skip) (.exit 2)) (.seq (.block 3 (.seq (.ops [q66_13]) (.seq (.ops [q66_14]) (.seq (.ops [q66_15]) (.cond (.t 62) (.seq (.ops [q66_16]) (.ret)) (.skip)))))) (.ops [q66_17])))
def opcode_Check_l1 : AC := opcode_Check_l1'
theorem opcode_Check_l1_eq : opcode_Check_l1 = opcode_Check_l1' := rfl
@[go_sem] def q66_18 : List AI := [
 .j 64 (.faddr 1 (.t 3)),
 .j 65 (.load 1 false (.t 64)),
 .j 66 (.bin .eql (.t 65) (.z 1)),
 .j 67 (.mov (.t 66)),
 .k 68 67 true (.load 6 true (.t 3)),
 .k 69 67 true (.load 5 true (.t 1)),
 .k 70 67 true (.call 89 [(.t 68), (.t 69)]),
 .k 71 67 true (.bin .geq (.t 70) (.z 4096)),
 .j 72 (.pick (.t 67) (.t 71) (.c (.bool false))),
 .j 73 (.mov (.t 72)),
 .k 74 73 false (.faddr 0 (.t 1)),
 .k 75 73 false (.load 1 false (.t 74)),
 .k 76 73 false (.bin .eql (.t 75) (.z 3)),
 .k 77 73 false (.mov (.t 76)),
 .k 78 77 true (.faddr 2 (.t 1)),
 .k 79 77 true (.load 1 false (.t 78)),
 .k 80 77 true (.faddr 1 (.t 1)),
 .k 81 77 true (.load 1 false (.t 80)),
 .k 82 77 true (.bin .lss (.t 79) (.t 81)),
 .k 83 73 false (.pick (.t 77) (.t 82) (.c (.bool false))),
 .j 84 (.pick (.t 73) (.c (.bool true)) (.t 83))]
@[go_sem] def q66_19 : List AI := [
 .j 2 (.mov (.z 6))]
@[go_sem] def q66_20 : List AI := [
 .j 2 (.mov (.z 0))]
@[go_sem] def opcode_Check_c : AC := .seq (.ops [q66_0]) (.seq (.ops [q66_1]) (.seq (.seq (.ops [q66_2]) (.cond (.t 20) (.seq (.ops [q66_3]) (.ret)) (.skip))) (.seq (.ops [q66_4]) (.seq (.seq (.ops [q66_5]) (.block 0 (.loop opcode_Check_l0))) (.seq (.seq (.ops [q66_11]) (.block 2 (.loop opcode_Check_l1))) (.seq (.seq (.ops [q66_18]) (.cond (.t 84) (.seq (.ops [q66_19]) (.ret)) (.skip))) (.seq (.ops [q66_20]) (.ret))))))))
theorem opcode_Check_ok : compF Tryz.prog 66 = some (85, opcode_Check_c, [.t 2]) := by kernel_rfl

@[go_sem] def q67_0 : List AI := [
 .j 1 (.box 670001 5 (.t 0)),
 .j 2 (.mov (.c .nils)),
 .j 3 (.mov (.z 0))]
@[go_sem] def q67_1 : List AI := [
 .j 6 (.load 5 true (.t 1)),
 .j 7 (.call 66 [(.t 6)]),
 .j 8 (.bin .neq (.t 7) (.z 0))]
@[go_sem] def q67_2 : List AI := [
 .j 2 (.mov (.c .nils)),
 .j 3 (.mov (.z (-1)))]
@[go_sem] def q67_3 : List AI := [
 .j 9 (.faddr 0 (.t 1)),
 .j 10 (.load 1 false (.t 9))]
@[go_sem] def q67_4 : List AI := [
 .j 12 (.bin .eql (.t 10) (.z 1)),
 .j 11 (.mov (.t 12))]
@[go_sem] def q67_5 : List AI := [
 .j 13 (.bin .eql (.t 10) (.z 6)),
 .j 11 (.mov (.t 13))]
@[go_sem] def q67_6 : List AI := [
 .j 14 (.bin .eql (.t 10) (.z 8)),
 .j 11 (.mov (.t 14))]
@[go_sem] def q67_7 : List AI := [
 .j 15 (.bin .eql (.t 10) (.z 11)),
 .j 11 (.mov (.t 15))]
@[go_sem] def q67_8 : List AI := [
 .j 16 (.bin .eql (.t 10) (.z 12)),
 .j 11 (.mov (.t 16))]
@[go_sem] def q67_9 : List AI := [
 .j 17 (.faddr 2 (.t 1)),
 .j 18 (.load 1 false (.t 17)),
 .j 19 (.mkrow 670019 1 [(.t 18)]),
 .j 2 (.mov (.t 19)),
 .j 3 (.mov (.z (-1)))]
@[go_sem] def q67_10 : List AI := [
 .j 21 (.bin .eql (.t 10) (.z 9)),
 .j 20 (.mov (.t 21))]
@[go_sem] def q67_11 : List AI := [
 .j 22 (.bin .eql (.t 10) (.z 13)),
 .j 20 (.mov (.t 22))]
@[go_sem] def q67_12 : List AI := [
 .j 23 (.faddr 2 (.t 1)),
 .j 24 (.load 1 false (.t 23)),
 .j 25 (.faddr 3 (.t 1)),
 .j 26 (.load 1 false (.t 25)),
 .j 27 (.mkrow 670027 1 [(.t 24), (.t 26)]),
 .j 28 (.call 90 [(.t 27)]),
 .j 2 (.mov (.t 28)),
 .j 3 (.mov (.z (-1)))]
@[go_sem] def q67_13 : List AI := [
 .j 30 (.bin .eql (.t 10) (.z 10)),
 .j 29 (.mov (.t 30))]
@[go_sem] def q67_14 : List AI := [
 .j 31 (.faddr 1 (.t 1)),
 .j 32 (.load 1 false (.t 31)),
 .j 33 (.faddr 2 (.t 1)),
 .j 34 (.load 1 false (.t 33)),
 .j 35 (.faddr 3 (.t 1)),
 .j 36 (.load 1 false (.t 35)),
 .j 37 (.mkrow 670037 1 [(.t 32), (.t 34), (.t 36)]),
 .j 38 (.call 90 [(.t 37)]),
 .j 2 (.mov (.t 38)),
 .j 3 (.mov (.z (-1)))]
@[go_sem] def q67_15 : List AI := [
 .j 40 (.bin .eql (.t 10) (.z 15)),
 .j 39 (.mov (.t 40))]
@[go_sem] def q67_16 : List AI := [
 .j 41 (.bin .eql (.t 10) (.z 28)),
 .j 39 (.mov (.t 41))]
@[go_sem] def q67_17 : List AI := [
 .j 42 (.faddr 1 (.t 1)),
 .j 43 (.load 1 false (.t 42)),
 .j 44 (.mkrow 670044 1 [(.t 43)]),
 .j 2 (.mov (.t 44)),
 .j 3 (.mov (.z (-1)))]
@[go_sem] def q67_18 : List AI := [
 .j 46 (.bin .eql (.t 10) (.z 16)),
 .j 45 (.mov (.t 46))]
@[go_sem] def q67_19 : List AI := [
 .j 47 (.bin .eql (.t 10) (.z 17)),
 .j 45 (.mov (.t 47))]
@[go_sem] def q67_20 : List AI := [
 .j 48 (.bin .eql (.t 10) (.z 21)),
 .j 45 (.mov (.t 48))]
@[go_sem] def q67_21 : List AI := [
 .j 50 (.faddr 1 (.t 1)),
 .j 51 (.load 1 false (.t 50)),
 .j 52 (.bin .add (.t 51) (.z 1)),
 .j 53 (.faddr 2 (.t 1)),
 .j 54 (.load 1 false (.t 53)),
 .j 55 (.call 91 [(.t 52), (.t 54)]),
 .j 49 (.mov (.t 55)),
 .j 56 (.ext 0 (.t 49)),
 .j 57 (.ext 1 (.t 49)),
 .j 4 (.mov (.t 56)),
 .j 5 (.mov (.t 57))]
@[go_sem] def q67_22 : List AI := [
 .j 58 (.faddr 1 (.t 1)),
 .j 59 (.load 1 false (.t 58)),
 .j 60 (.mkrow 670060 1 [(.t 59)]),
 .j 61 (.mov (.t 4)),
 .j 62 (.app 670062 1 (.t 60) (.t 61)),
 .j 63 (.mov (.t 5)),
 .j 2 (.mov (.t 62)),
 .j 3 (.mov (.t 63))]
@[go_sem] def q67_23 : List AI := [
 .j 65 (.bin .eql (.t 10) (.z 18)),
 .j 64 (.mov (.t 65))]
@[go_sem] def q67_24 : List AI := [
 .j 66 (.faddr 1 (.t 1)),
 .j 67 (.load 1 false (.t 66)),
 .j 68 (.faddr 2 (.t 1)),
 .j 69 (.load 1 false (.t 68)),
 .j 70 (.call 91 [(.t 67), (.t 69)]),
 .j 71 (.ext 0 (.t 70)),
 .j 72 (.ext 1 (.t 70)),
 .j 2 (.mov (.t 71)),
 .j 3 (.mov (.t 72))]
@[go_sem] def q67_25 : List AI := [
 .j 74 (.bin .eql (.t 10) (.z 23)),
 .j 73 (.mov (.t 74))]
@[go_sem] def q67_26 : List AI := [
 .j 75 (.bin .eql (.t 10) (.z 24)),
 .j 73 (.mov (.t 75))]
@[go_sem] def q67_27 : List AI := [
 .j 76 (.bin .eql (.t 10) (.z 25)),
 .j 73 (.mov (.t 76))]
@[go_sem] def q67_28 : List AI := [
 .j 77 (.faddr 1 (.t 1)),
 .j 78 (.load 1 false (.t 77)),
 .j 79 (.call 91 [(.t 78), (.z 3)]),
 .j 80 (.ext 0 (.t 79)),
 .j 81 (.ext 1 (.t 79)),
 .j 2 (.mov (.t 80)),
 .j 3 (.mov (.t 81))]
@[go_sem] def q67_29 : List AI := [
 .j 83 (.bin .eql (.t 10) (.z 26)),
 .j 82 (.mov (.t 83))]
@[go_sem] def q67_30 : List AI := [
 .j 84 (.faddr 1 (.t 1)),
 .j 85 (.load 1 false (.t 84)),
 .j 86 (.bin .add (.t 85) (.z 3)),
 .j 87 (.mkrow 670087 1 [(.t 86)]),
 .j 2 (.mov (.t 87)),
 .j 3 (.mov (.z (-1)))]
@[go_sem] def q67_31 : List AI := [
 .j 2 (.mov (.c .nils)),
 .j 3 (.mov (.z (-1)))]
@[go_sem] def opcode_Reads_c : AC := .seq (.ops [q67_0]) (.seq (.seq (.ops [q67_1]) (.cond (.t 8) (.seq (.ops [q67_2]) (.ret)) (.skip))) (.seq (.seq (.ops [q67_3]) (.block 0 (.seq (.seq (.ops [q67_4]) (.cond (.t 11) (.skip) (.seq (.ops [q67_5]) (.cond (.t 11) (.skip) (.seq (.ops [q67_6]) (.cond (.t 11) (.skip) (.seq (.ops [q67_7]) (.cond (.t 11) (.skip) (.ops [q67_8]))))))))) (.cond (.t 11) (.seq (.ops [q67_9]) (.ret)) (.seq (.seq (.ops [q67_10]) (.cond (.t 20) (.skip) (.ops [q67_11]))) (.cond (.t 20) (.seq (.ops [q67_12]) (.ret)) (.seq (.ops [q67_13]) (.cond (.t 29) (.seq (.ops [q67_14]) (.ret)) (.seq (.seq (.ops [q67_15]) (.cond (.t 39) (.skip) (.ops [q67_16]))) (.cond (.t 39) (.seq (.ops [q67_17]) (.ret)) (.seq (.seq (.ops [q67_18]) (.cond (.t 45) (.skip) (.seq (.ops [q67_19]) (.cond (.t 45) (.skip) (.ops [q67_20]))))) (.cond (.t 45) (.seq (.ops [q67_21]) (.seq (.ops [q67_22]) (.ret))) (.seq (.ops [q67_23]) (.cond (.t 64) (.seq (.ops [q67_24]) (.ret)) (.seq (.seq (.ops [q67_25]) (.cond (.t 73) (.skip) (.seq (.ops [q67_26]) (.cond (.t 73) (.skip) (.ops [q67_27]))))) (.cond (.t 73) (.seq (.ops [q67_28]) (.ret)) (.seq (.ops [q67_29]) (.cond (.t 82) (.seq (.ops [q67_30]) (.ret)) (.skip))))))))))))))))))) (.seq (.ops [q67_31]) (.ret))))
theorem opcode_Reads_ok : compF Tryz.prog 67 = some (88, opcode_Reads_c, [.t 2, .t 3]) := by kernel_rfl

@[go_sem] def q68_0 : List AI := [
 .j 1 (.box 680001 5 (.t 0)),
 .j 2 (.mov (.c .nils)),
 .j 3 (.mov (.z 0))]
@[go_sem] def q68_1 : List AI := [
 .j 4 (.load 5 true (.t 1)),
 .j 5 (.call 66 [(.t 4)]),
 .j 6 (.bin .neq (.t 5) (.z 0))]
@[go_sem] def q68_2 : List AI := [
 .j 2 (.mov (.c .nils)),
 .j 3 (.mov (.z (-1)))]
@[go_sem] def q68_3 : List AI := [
 .j 7 (.faddr 0 (.t 1)),
 .j 8 (.load 1 false (.t 7))]
@[go_sem] def q68_4 : List AI := [
 .j 10 (.bin .eql (.t 8) (.z 1)),
 .j 9 (.mov (.t 10))]
@[go_sem] def q68_5 : List AI := [
 .j 11 (.bin .eql (.t 8) (.z 2)),
 .j 9 (.mov (.t 11))]
@[go_sem] def q68_6 : List AI := [
 .j 12 (.bin .eql (.t 8) (.z 4)),
 .j 9 (.mov (.t 12))]
@[go_sem] def q68_7 : List AI := [
 .j 13 (.bin .eql (.t 8) (.z 5)),
 .j 9 (.mov (.t 13))]
@[go_sem] def q68_8 : List AI := [
 .j 14 (.bin .eql (.t 8) (.z 7)),
 .j 9 (.mov (.t 14))]
@[go_sem] def q68_9 : List AI := [
 .j 15 (.bin .eql (.t 8) (.z 9)),
 .j 9 (.mov (.t 15))]
@[go_sem] def q68_10 : List AI := [
 .j 16 (.bin .eql (.t 8) (.z 12)),
 .j 9 (.mov (.t 16))]
@[go_sem] def q68_11 : List AI := [
 .j 17 (.bin .eql (.t 8) (.z 13)),
 .j 9 (.mov (.t 17))]
@[go_sem] def q68_12 : List AI := [
 .j 18 (.bin .eql (.t 8) (.z 20)),
 .j 9 (.mov (.t 18))]
@[go_sem] def q68_13 : List AI := [
 .j 19 (.bin .eql (.t 8) (.z 22)),
 .j 9 (.mov (.t 19))]
@[go_sem] def q68_14 : List AI := [
 .j 20 (.faddr 1 (.t 1)),
 .j 21 (.load 1 false (.t 20)),
 .j 22 (.mkrow 680022 1 [(.t 21)]),
 .j 2 (.mov (.t 22)),
 .j 3 (.mov (.z (-1)))]
@[go_sem] def q68_15 : List AI := [
 .j 24 (.bin .eql (.t 8) (.z 3)),
 .j 23 (.mov (.t 24))]
@[go_sem] def q68_16 : List AI := [
 .j 25 (.faddr 1 (.t 1)),
 .j 26 (.load 1 false (.t 25)),
 .j 27 (.faddr 2 (.t 1)),
 .j 28 (.load 1 false (.t 27)),
 .j 29 (.faddr 1 (.t 1)),
 .j 30 (.load 1 false (.t 29)),
 .j 31 (.bin .sub (.t 28) (.t 30)),
 .j 32 (.bin .add (.t 31) (.z 1)),
 .j 33 (.call 91 [(.t 26), (.t 32)]),
 .j 34 (.ext 0 (.t 33)),
 .j 35 (.ext 1 (.t 33)),
 .j 2 (.mov (.t 34)),
 .j 3 (.mov (.t 35))]
@[go_sem] def q68_17 : List AI := [
 .j 37 (.bin .eql (.t 8) (.z 11)),
 .j 36 (.mov (.t 37))]
@[go_sem] def q68_18 : List AI := [
 .j 38 (.faddr 1 (.t 1)),
 .j 39 (.load 1 false (.t 38)),
 .j 40 (.faddr 1 (.t 1)),
 .j 41 (.load 1 false (.t 40)),
 .j 42 (.bin .add (.t 41) (.z 1)),
 .j 43 (.mkrow 680043 1 [(.t 39), (.t 42)]),
 .j 2 (.mov (.t 43)),
 .j 3 (.mov (.z (-1)))]
@[go_sem] def q68_19 : List AI := [
 .j 45 (.bin .eql (.t 8) (.z 16)),
 .j 44 (.mov (.t 45))]
@[go_sem] def q68_20 : List AI := [
 .j 46 (.faddr 1 (.t 1)),
 .j 47 (.load 1 false (.t 46)),
 .j 48 (.faddr 3 (.t 1)),
 .j 49 (.load 1 false (.t 48)),
 .j 50 (.call 91 [(.t 47), (.t 49)]),
 .j 51 (.ext 0 (.t 50)),
 .j 52 (.ext 1 (.t 50)),
 .j 2 (.mov (.t 51)),
 .j 3 (.mov (.t 52))]
@[go_sem] def q68_21 : List AI := [
 .j 54 (.bin .eql (.t 8) (.z 19)),
 .j 53 (.mov (.t 54))]
@[go_sem] def q68_22 : List AI := [
 .j 55 (.faddr 1 (.t 1)),
 .j 56 (.load 1 false (.t 55)),
 .j 57 (.faddr 2 (.t 1)),
 .j 58 (.load 1 false (.t 57)),
 .j 59 (.call 91 [(.t 56), (.t 58)]),
 .j 60 (.ext 0 (.t 59)),
 .j 61 (.ext 1 (.t 59)),
 .j 2 (.mov (.t 60)),
 .j 3 (.mov (.t 61))]
@[go_sem] def q68_23 : List AI := [
 .j 63 (.bin .eql (.t 8) (.z 23)),
 .j 62 (.mov (.t 63))]
@[go_sem] def q68_24 : List AI := [
 .j 64 (.faddr 1 (.t 1)),
 .j 65 (.load 1 false (.t 64)),
 .j 66 (.bin .add (.t 65) (.z 3)),
 .j 67 (.mkrow 680067 1 [(.t 66)]),
 .j 2 (.mov (.t 67)),
 .j 3 (.mov (.z (-1)))]
@[go_sem] def q68_25 : List AI := [
 .j 69 (.bin .eql (.t 8) (.z 24)),
 .j 68 (.mov (.t 69))]
@[go_sem] def q68_26 : List AI := [
 .j 70 (.faddr 1 (.t 1)),
 .j 71 (.load 1 false (.t 70)),
 .j 72 (.faddr 1 (.t 1)),
 .j 73 (.load 1 false (.t 72)),
 .j 74 (.bin .add (.t 73) (.z 3)),
 .j 75 (.mkrow 680075 1 [(.t 71), (.t 74)]),
 .j 2 (.mov (.t 75)),
 .j 3 (.mov (.z (-1)))]
@[go_sem] def q68_27 : List AI := [
 .j 77 (.bin .eql (.t 8) (.z 25)),
 .j 76 (.mov (.t 77))]
@[go_sem] def q68_28 : List AI := [
 .j 78 (.faddr 1 (.t 1)),
 .j 79 (.load 1 false (.t 78)),
 .j 80 (.bin .add (.t 79) (.z 3)),
 .j 81 (.faddr 3 (.t 1)),
 .j 82 (.load 1 false (.t 81)),
 .j 83 (.call 91 [(.t 80), (.t 82)]),
 .j 84 (.ext 0 (.t 83)),
 .j 85 (.ext 1 (.t 83)),
 .j 2 (.mov (.t 84)),
 .j 3 (.mov (.t 85))]
@[go_sem] def q68_29 : List AI := [
 .j 87 (.bin .eql (.t 8) (.z 26)),
 .j 86 (.mov (.t 87))]
@[go_sem] def q68_30 : List AI := [
 .j 88 (.faddr 1 (.t 1)),
 .j 89 (.load 1 false (.t 88)),
 .j 90 (.bin .add (.t 89) (.z 2)),
 .j 91 (.mkrow 680091 1 [(.t 90)]),
 .j 2 (.mov (.t 91)),
 .j 3 (.mov (.z (-1)))]
@[go_sem] def q68_31 : List AI := [
 .j 2 (.mov (.c .nils)),
 .j 3 (.mov (.z (-1)))]
@[go_sem] def opcode_Writes_c : AC := .seq (.ops [q68_0]) (.seq (.seq (.ops [q68_1]) (.cond (.t 6) (.seq (.ops [q68_2]) (.ret)) (.skip))) (.seq (.seq (.ops [q68_3]) (.block 0 (.seq (.seq (.ops [q68_4]) (.cond (.t 9) (.skip) (.seq (.ops [q68_5]) (.cond (.t 9) (.skip) (.seq (.ops [q68_6]) (.cond (.t 9) (.skip) (.seq (.ops [q68_7]) (.cond (.t 9) (.skip) (.seq (.ops [q68_8]) (.cond (.t 9) (.skip) (.seq (.ops [q68_9]) (.cond (.t 9) (.skip) (.seq (.ops [q68_10]) (.cond (.t 9) (.skip) (.seq (.ops [q68_11]) (.cond (.t 9) (.skip) (.seq (.ops [q68_12]) (.cond (.t 9) (.skip) (.ops [q68_13]))))))))))))))))))) (.cond (.t 9) (.seq (.ops [q68_14]) (.ret)) (.seq (.ops [q68_15]) (.cond (.t 23) (.seq (.ops [q68_16]) (.ret)) (.seq (.ops [q68_17]) (.cond (.t 36) (.seq (.ops [q68_18]) (.ret)) (.seq (.ops [q68_19]) (.cond (.t 44) (.seq (.ops [q68_20]) (.ret)) (.seq (.ops [q68_21]) (.cond (.t 53) (.seq (.ops [q68_22]) (.ret)) (.seq (.ops [q68_23]) (.cond (.t 62) (.seq (.ops [q68_24]) (.ret)) (.seq (.ops [q68_25]) (.cond (.t 68) (.seq (.ops [q68_26]) (.ret)) (.seq (.ops [q68_27]) (.cond (.t 76) (.seq (.ops [q68_28]) (.ret)) (.seq (.ops [q68_29]) (.cond (.t 86) (.seq (.ops [q68_30]) (.ret)) (.skip))))))))))))))))))))) (.seq (.ops [q68_31]) (.ret))))
theorem opcode_Writes_ok : compF Tryz.prog 68 = some (92, opcode_Writes_c, [.t 2, .t 3]) := by kernel_rfl

@[go_sem] def q69_0 : List AI := [
 .j 3 (.box 690003 11 (.t 0)),
 .j 6 (.mov (.c (.bool false)))]
@[go_sem] def q69_1 : List AI := [
 .j 7 (.mov (.t 2)),
 .j 8 (.faddr 4 (.t 3)),
 .j 9 (.load 1 false (.t 8)),
 .j 10 (.bin .leq (.t 7) (.t 9)),
 .j 11 (.mov (.t 10)),
 .k 12 11 true (.mov (.t 1)),
 .k 13 11 true (.mkfn 92 [(.t 3)]),
 .k 14 11 true (.call 62 [(.t 12), (.t 13)]),
 .k 15 11 true (.un .not (.t 14)),
 .j 16 (.pick (.t 11) (.t 15) (.c (.bool false))),
 .j 6 (.mov (.t 16))]
@[go_sem] def proto_within_c : AC := .seq (.ops [q69_0]) (.seq (.ops [q69_1]) (.ret))
theorem proto_within_ok : compF Tryz.prog 69 = some (17, proto_within_c, [.t 6]) := by kernel_rfl

@[go_sem] def q70_0 : List AI := [
 .j 2 (.box 700002 11 (.t 0)),
 .j 3 (.box 700003 5 (.t 1)),
 .j 4 (.mov (.c (.bool false)))]
@[go_sem] def q70_1 : List AI := [
 .j 8 (.load 5 true (.t 3)),
 .j 9 (.call 93 [(.t 8)]),
 .j 7 (.mov (.t 9)),
 .j 10 (.ext 0 (.t 7)),
 .j 11 (.ext 1 (.t 7)),
 .j 5 (.mov (.t 10)),
 .j 6 (.mov (.t 11))]
@[go_sem] def q70_2 : List AI := [
 .j 12 (.mov (.t 5)),
 .j 13 (.faddr 7 (.t 2)),
 .j 14 (.load 1 false (.t 13)),
 .j 15 (.len 0 (.t 14)),
 .j 16 (.bin .geq (.t 12) (.t 15)),
 .j 17 (.mov (.t 16)),
 .k 18 17 false (.mov (.t 5)),
 .k 19 17 false (.bin .geq (.t 18) (.z 0)),
 .k 20 17 false (.mov (.t 19)),
 .k 21 20 true (.mov (.t 6)),
 .k 22 17 false (.pick (.t 20) (.t 21) (.c (.bool false))),
 .k 23 17 false (.mov (.t 22)),
 .k 24 23 true (.faddr 7 (.t 2)),
 .k 25 23 true (.load 1 false (.t 24)),
 .k 26 23 true (.mov (.t 5)),
 .k 27 23 true (.iaddr 5 (.t 25) (.t 26)),
 .k 28 23 true (.faddr 0 (.t 27)),
 .k 29 23 true (.load 1 false (.t 28)),
 .k 30 23 true (.bin .neq (.t 29) (.z 3)),
 .k 31 17 false (.pick (.t 23) (.t 30) (.c (.bool false))),
 .j 32 (.pick (.t 17) (.c (.bool true)) (.t 31))]
@[go_sem] def q70_3 : List AI := [
 .j 4 (.mov (.c (.bool false)))]
@[go_sem] def q70_4 : List AI := [
 .j 33 (.faddr 0 (.t 3)),
 .j 34 (.load 1 false (.t 33))]
@[go_sem] def q70_5 : List AI := [
 .j 36 (.bin .eql (.t 34) (.z 5)),
 .j 35 (.mov (.t 36))]
@[go_sem] def q70_6 : List AI := [
 .j 37 (.faddr 2 (.t 3)),
 .j 38 (.load 1 false (.t 37)),
 .j 39 (.faddr 9 (.t 2)),
 .j 40 (.load 1 false (.t 39)),
 .j 41 (.len 0 (.t 40)),
 .j 42 (.bin .lss (.t 38) (.t 41)),
 .j 4 (.mov (.t 42))]
@[go_sem] def q70_7 : List AI := [
 .j 44 (.bin .eql (.t 34) (.z 6)),
 .j 43 (.mov (.t 44))]
@[go_sem] def q70_8 : List AI := [
 .j 45 (.faddr 1 (.t 3)),
 .j 46 (.load 1 false (.t 45)),
 .j 47 (.faddr 9 (.t 2)),
 .j 48 (.load 1 false (.t 47)),
 .j 49 (.len 0 (.t 48)),
 .j 50 (.bin .lss (.t 46) (.t 49)),
 .j 4 (.mov (.t 50))]
@[go_sem] def q70_9 : List AI := [
 .j 52 (.bin .eql (.t 34) (.z 22)),
 .j 51 (.mov (.t 52))]
@[go_sem] def q70_10 : List AI := [
 .j 53 (.faddr 2 (.t 3)),
 .j 54 (.load 1 false (.t 53)),
 .j 55 (.faddr 8 (.t 2)),
 .j 56 (.load 1 false (.t 55)),
 .j 57 (.len 0 (.t 56)),
 .j 58 (.bin .lss (.t 54) (.t 57)),
 .j 4 (.mov (.t 58))]
@[go_sem] def q70_11 : List AI := [
 .j 60 (.bin .eql (.t 34) (.z 19)),
 .j 59 (.mov (.t 60))]
@[go_sem] def q70_12 : List AI := [
 .j 61 (.faddr 3 (.t 2)),
 .j 62 (.load 1 false (.t 61)),
 .j 4 (.mov (.t 62))]
@[go_sem] def q70_13 : List AI := [
 .j 4 (.mov (.c (.bool true)))]
@[go_sem] def proto_refers_c : AC := .seq (.ops [q70_0]) (.seq (.seq (.ops [q70_1]) (.seq (.ops [q70_2]) (.cond (.t 32) (.seq (.ops [q70_3]) (.ret)) (.skip)))) (.seq (.seq (.ops [q70_4]) (.block 0 (.seq (.ops [q70_5]) (.cond (.t 35) (.seq (.ops [q70_6]) (.ret)) (.seq (.ops [q70_7]) (.cond (.t 43) (.seq (.ops [q70_8]) (.ret)) (.seq (.ops [q70_9]) (.cond (.t 51) (.seq (.ops [q70_10]) (.ret)) (.seq (.ops [q70_11]) (.cond (.t 59) (.seq (.ops [q70_12]) (.ret)) (.skip))))))))))) (.seq (.ops [q70_13]) (.ret))))
theorem proto_refers_ok : compF Tryz.prog 70 = some (63, proto_refers_c, [.t 4]) := by kernel_rfl

@[go_sem] def q71_0 : List AI := [
 .j 2 (.mov (.c .nils))]
@[go_sem] def q71_1 : List AI := [
 .j 3 (.mov (.t 0)),
 .j 4 (.eqn false false (.t 3))]
@[go_sem] def q71_2 : List AI := [
 .j 2 (.mov (.c .nils))]
@[go_sem] def q71_3 : List AI := [
 .j 5 (.mkrow 710005 1 []),
 .j 6 (.mov (.t 0)),
 .j 7 (.app 710007 1 (.t 5) (.t 6)),
 .j 2 (.mov (.t 7))]
@[go_sem] def slices_Clone_bool_bool_c : AC := .seq (.ops [q71_0]) (.seq (.seq (.ops [q71_1]) (.cond (.t 4) (.seq (.ops [q71_2]) (.ret)) (.skip))) (.seq (.ops [q71_3]) (.ret)))
theorem slices_Clone_bool_bool_ok : compF Tryz.prog 71 = some (8, slices_Clone_bool_bool_c, [.t 2]) := by kernel_rfl

@[go_sem] def q72_0 : List AI := [
 .j 5 (.mov (.t 1)),
 .j 4 (.mov (.t 5))]
@[go_sem] def q72_1 : List AI := [
 .j 6 (.mov (.t 4)),
 .j 7 (.mov (.t 0)),
 .j 8 (.len 0 (.t 7)),
 .j 9 (.bin .lss (.t 6) (.t 8))]
@[go_sem] def q72_2 : List AI := [
 .j 12 (.mov (.t 0)),
 .j 13 (.mov (.t 4)),
 .j 14 (.iaddr 1 (.t 12) (.t 13)),
 .e (.store 1 (.t 14) (.c (.bool false)))]
@[go_sem] def q72_3 : List AI := [
 .j 10 (.mov (.t 4)),
 .j 11 (.bin .add (.t 10) (.z 1)),
 .j 4 (.mov (.t 11))]
@[go_sem] def verify_unset_l0' : AC := .seq (.seq (.ops [q72_1]) (.cond (.t 9) (.skip) (.exit 0))) (.seq (.block 1 (.ops [q72_2])) (.ops [q72_3]))
def verify_unset_l0 : AC := verify_unset_l0'
theorem verify_unset_l0_eq : verify_unset_l0 = verify_unset_l0' := rfl
@[go_sem] def verify_unset_c : AC := .seq (.ops [q72_0]) (.block 0 (.loop verify_unset_l0))
theorem verify_unset_ok : compF Tryz.prog 72 = some (15, verify_unset_c, []) := by kernel_rfl

@[go_sem] def q73_0 : List AI := [
 .j 4 (.mov (.c .nils))]
@[go_sem] def q73_1 : List AI := [
 .j 8 (.mov (.t 0)),
 .j 9 (.mov (.t 1)),
 .j 10 (.call 84 [(.t 8), (.t 9)]),
 .j 5 (.mov (.t 10))]
@[go_sem] def q73_2 : List AI := [
 .j 11 (.mov (.t 5)),
 .j 12 (.bin .eql (.t 11) (.z (-1)))]
@[go_sem] def q73_3 : List AI := [
 .j 13 (.mov (.t 0)),
 .j 4 (.mov (.t 13))]
@[go_sem] def q73_4 : List AI := [
 .j 14 (.mov (.t 5)),
 .j 15 (.bin .add (.t 14) (.z 1)),
 .j 6 (.mov (.t 15))]
@[go_sem] def q73_5 : List AI := [
 .j 16 (.mov (.t 6)),
 .j 17 (.mov (.t 0)),
 .j 18 (.len 0 (.t 17)),
 .j 19 (.bin .lss (.t 16) (.t 18))]
@[go_sem] def q73_6 : List AI := [
 .j 22 (.mov (.t 0)),
 .j 23 (.mov (.t 6)),
 .j 24 (.iaddr 1 (.t 22) (.t 23)),
 .j 25 (.load 1 false (.t 24)),
 .j 7 (.mov (.t 25))]
@[go_sem] def q73_7 : List AI := [
 .j 26 (.mov (.t 1)),
 .j 27 (.mov (.t 7)),
 .j 28 (.callv (.t 26) [(.t 27)]),
 .j 29 (.un .not (.t 28))]
@[go_sem] def q73_8 : List AI := [
 .j 30 (.mov (.t 0)),
 .j 31 (.mov (.t 5)),
 .j 32 (.mov (.t 7)),
 .j 33 (.iaddr 1 (.t 30) (.t 31)),
 .e (.store 1 (.t 33) (.t 32))]
@[go_sem] def q73_9 : List AI := [
 .j 34 (.mov (.t 5)),
 .j 35 (.bin .add (.t 34) (.z 1)),
 .j 5 (.mov (.t 35))]
@[go_sem] def q73_10 : List AI := [
 .j 20 (.mov (.t 6)),
 .j 21 (.bin .add (.t 20) (.z 1)),
 .j 6 (.mov (.t 21))]
@[go_sem] def slices_DeleteFunc_int_int_l0' : AC := .seq (.seq (.ops [q73_5]) (.cond (.t 19) (.skip) (.exit 0))) (.seq (.block 1 (.seq (.ops [q73_6]) (.seq (.ops [q73_7]) (.cond (.t 29) (.seq (.ops [q73_8]) (.ops [q73_9])) (.skip))))) (.ops [q73_10]))
def slices_DeleteFunc_int_int_l0 : AC := slices_DeleteFunc_int_int_l0'
theorem slices_DeleteFunc_int_int_l0_eq : slices_DeleteFunc_int_int_l0 = slices_DeleteFunc_int_int_l0' := rfl
@[go_sem] def q73_11 : List AI := [
 .j 36 (.mov (.t 0)),
 .j 37 (.mov (.t 5)),
 .j 38 (.slc 1 (.t 36) (some (.t 37)) none),
 .e (.clr [(.int .i64 0)] (.t 38))]
@[go_sem] def q73_12 : List AI := [
 .j 39 (.mov (.t 0)),
 .j 40 (.mov (.t 5)),
 .j 41 (.slc 1 (.t 39) none (some (.t 40))),
 .j 4 (.mov (.t 41))]
@[go_sem] def slices_DeleteFunc_int_int_c : AC := .seq (.ops [q73_0]) (.seq (.ops [q73_1]) (.seq (.seq (.ops [q73_2]) (.cond (.t 12) (.seq (.ops [q73_3]) (.ret)) (.skip))) (.seq (.seq (.ops [q73_4]) (.block 0 (.loop slices_DeleteFunc_int_int_l0))) (.seq (.ops [q73_11]) (.seq (.ops [q73_12]) (.ret))))))
theorem slices_DeleteFunc_int_int_ok : compF Tryz.prog 73 = some (42, slices_DeleteFunc_int_int_c, [.t 4]) := by kernel_rfl

@[go_sem] def q74_0 : List AI := [
 .j 3 (.mov (.c (.bool false)))]
@[go_sem] def q74_1 : List AI := [
 .j 4 (.mov (.t 0)),
 .j 5 (.faddr 1 (.t 1)),
 .j 6 (.load 1 false (.t 5)),
 .j 7 (.bin .geq (.t 4) (.t 6)),
 .j 3 (.mov (.t 7))]
@[go_sem] def verify_effect_1_c : AC := .seq (.ops [q74_0]) (.seq (.ops [q74_1]) (.ret))
theorem verify_effect_1_ok : compF Tryz.prog 74 = some (8, verify_effect_1_c, [.t 3]) := by kernel_rfl

@[go_sem] def q77_0 : List AI := [
 .j 4 (.box 770004 13 (.c (.agg [(.str []), (.bool false), (.bool false), (.bool false), (.bool false), (.int .i64 0), (.int .i64 0), (.int .i64 0), (.int .i64 0), (.int .i64 0), (.int .i64 0), (.int .i64 0), (.int .i64 0)])))]
@[go_sem] def q77_1 : List AI := [
 .j 5 (.mov (.t 0)),
 .j 6 (.build [(.bool false), (.bool false), (.bool false), (.bool false)] [(0, 1, (.c (.bool true))), (1, 1, (.c (.bool false))), (2, 1, (.c (.bool false))), (3, 1, (.c (.bool false)))]),
 .j 7 (.mov (.t 1)),
 .j 8 (.build [(.int .i64 0), (.int .i64 0), (.int .i64 0), (.int .i64 0)] [(0, 1, (.t 7)), (1, 1, (.z 0)), (2, 1, (.z 0)), (3, 1, (.z 0))]),
 .j 9 (.build [(.str []), (.bool false), (.bool false), (.bool false), (.bool false), (.int .i64 0), (.int .i64 0), (.int .i64 0), (.int .i64 0), (.int .i64 0), (.int .i64 0), (.int .i64 0), (.int .i64 0)] [(0, 1, (.t 5)), (1, 4, (.t 6)), (9, 4, (.t 8))]),
 .e (.store 13 (.t 4) (.t 9))]
@[go_sem] def scriptingref32_a_c : AC := .seq (.ops [q77_0]) (.seq (.ops [q77_1]) (.ret))
theorem scriptingref32_a_ok : compF Tryz.prog 77 = some (10, scriptingref32_a_c, [.c 4 13 true]) := by kernel_rfl

@[go_sem] def q78_0 : List AI := [
 .j 2 (.box 780002 13 (.c (.agg [(.str []), (.bool false), (.bool false), (.bool false), (.bool false), (.int .i64 0), (.int .i64 0), (.int .i64 0), (.int .i64 0), (.int .i64 0), (.int .i64 0), (.int .i64 0), (.int .i64 0)])))]
@[go_sem] def q78_1 : List AI := [
 .j 3 (.mov (.t 0)),
 .j 4 (.build [(.str []), (.bool false), (.bool false), (.bool false), (.bool false), (.int .i64 0), (.int .i64 0), (.int .i64 0), (.int .i64 0), (.int .i64 0), (.int .i64 0), (.int .i64 0), (.int .i64 0)] [(0, 1, (.t 3))]),
 .e (.store 13 (.t 2) (.t 4))]
@[go_sem] def scriptingref32_none_c : AC := .seq (.ops [q78_0]) (.seq (.ops [q78_1]) (.ret))
theorem scriptingref32_none_ok : compF Tryz.prog 78 = some (5, scriptingref32_none_c, [.c 2 13 true]) := by kernel_rfl

@[go_sem] def q79_0 : List AI := [
 .j 3 (.box 790003 11 (.t 0)),
 .j 4 (.box 790004 5 (.t 1)),
 .j 5 (.box 790005 3 (.t 2)),
 .j 6 (.mov (.c (.bool false)))]
@[go_sem] def q79_1 : List AI := [
 .j 13 (.load 5 true (.t 4)),
 .j 14 (.call 67 [(.t 13)]),
 .j 12 (.mov (.t 14)),
 .j 15 (.ext 0 (.t 12)),
 .j 16 (.ext 1 (.t 12)),
 .j 7 (.mov (.t 15)),
 .j 8 (.mov (.t 16))]
@[go_sem] def q79_2 : List AI := [
 .j 17 (.mov (.t 8)),
 .j 18 (.bin .geq (.t 17) (.z 0)),
 .j 19 (.faddr 1 (.t 5)),
 .j 20 (.load 1 false (.t 19)),
 .j 21 (.bin .geq (.t 20) (.z 0)),
 .j 22 (.eqp 2 true (.t 18) (.t 21)),
 .j 23 (.mov (.t 22)),
 .k 24 23 false (.mov (.t 8)),
 .k 25 23 false (.faddr 1 (.t 5)),
 .k 26 23 false (.load 1 false (.t 25)),
 .k 27 23 false (.bin .gtr (.t 24) (.t 26)),
 .j 28 (.pick (.t 23) (.c (.bool true)) (.t 27))]
@[go_sem] def q79_3 : List AI := [
 .j 6 (.mov (.c (.bool false)))]
@[go_sem] def q79_4 : List AI := [
 .j 29 (.mov (.t 8)),
 .j 9 (.mov (.t 29))]
@[go_sem] def q79_5 : List AI := [
 .j 30 (.mov (.t 9)),
 .j 31 (.bin .geq (.t 30) (.z 0)),
 .j 32 (.mov (.t 31)),
 .k 33 32 true (.mov (.t 9)),
 .k 34 32 true (.faddr 1 (.t 5)),
 .k 35 32 true (.load 1 false (.t 34)),
 .k 36 32 true (.bin .lss (.t 33) (.t 35)),
 .j 37 (.pick (.t 32) (.t 36) (.c (.bool false)))]
@[go_sem] def q79_6 : List AI := [
 .j 40 (.mov (.t 7)),
 .j 41 (.mov (.t 9)),
 .j 42 (.mkisl 1 [(.t 41)]),
 .j 43 (.app 790043 1 (.t 40) (.t 42)),
 .j 7 (.mov (.t 43))]
@[go_sem] def q79_7 : List AI := [
 .j 38 (.mov (.t 9)),
 .j 39 (.bin .add (.t 38) (.z 1)),
 .j 9 (.mov (.t 39))]
@[go_sem] def verify_reads_l0' : AC := .seq (.seq (.ops [q79_5]) (.cond (.t 37) (.skip) (.exit 0))) (.seq (.block 1 (.ops [q79_6])) (.ops [q79_7]))
def verify_reads_l0 : AC := verify_reads_l0'
theorem verify_reads_l0_eq : verify_reads_l0 = verify_reads_l0' := rfl
@[go_sem] def q79_8 : List AI := [
 .j 44 (.faddr 0 (.t 4)),
 .j 45 (.load 1 false (.t 44)),
 .j 46 (.bin .eql (.t 45) (.z 22))]
@[go_sem] def q79_9 : List AI := [
 .j 47 (.faddr 8 (.t 3)),
 .j 48 (.load 1 false (.t 47)),
 .j 49 (.faddr 2 (.t 4)),
 .j 50 (.load 1 false (.t 49)),
 .j 51 (.iaddr 11 (.t 48) (.t 50)),
 .j 52 (.faddr 9 (.t 51)),
 .j 53 (.load 1 false (.t 52)),
 .j 54 (.len 0 (.t 53)),
 .j 55 (.mov (.z 0))]
@[go_sem] def q79_10 : List AI := [
 .j 56 (.bin .lss (.t 55) (.t 54))]
@[go_sem] def q79_11 : List AI := [
 .j 57 (.iaddr 3 (.t 53) (.t 55)),
 .j 58 (.load 3 true (.t 57)),
 .j 11 (.box 790011 3 (.c (.agg [(.str []), (.bool false), (.int .i64 0)]))),
 .e (.store 3 (.t 11) (.t 58))]
@[go_sem] def q79_12 : List AI := [
 .j 59 (.faddr 1 (.t 11)),
 .j 60 (.load 1 false (.t 59))]
@[go_sem] def q79_13 : List AI := [
 .j 61 (.mov (.t 7)),
 .j 62 (.faddr 2 (.t 11)),
 .j 63 (.load 1 false (.t 62)),
 .j 64 (.mkisl 1 [(.t 63)]),
 .j 65 (.app 790065 1 (.t 61) (.t 64)),
 .j 7 (.mov (.t 65))]
@[go_sem] def q79_14 : List AI := [
 .j 66 (.bin .add (.t 55) (.z 1)),
 .j 55 (.mov (.t 66))]
@[go_sem] def verify_reads_l1' : AC := .seq (.ops [q79_10]) (.seq (.cond (.t 56) (.skip) (.exit 2)) (.seq (.block 3 (.seq (.ops [q79_11]) (.seq (.ops [q79_12]) (.cond (.t 60) (.ops [q79_13]) (.skip))))) (.ops [q79_14])))
def verify_reads_l1 : AC := verify_reads_l1'
theorem verify_reads_l1_eq : verify_reads_l1 = verify_reads_l1' := rfl
@[go_sem] def q79_15 : List AI := [
 .j 67 (.mov (.t 7)),
 .j 68 (.mkfn 105 [(.t 5)]),
 .j 69 (.call 62 [(.t 67), (.t 68)]),
 .j 70 (.un .not (.t 69)),
 .j 6 (.mov (.t 70))]
@[go_sem] def verify_reads_c : AC := .seq (.ops [q79_0]) (.seq (.ops [q79_1]) (.seq (.seq (.ops [q79_2]) (.cond (.t 28) (.seq (.ops [q79_3]) (.ret)) (.skip))) (.seq (.seq (.ops [q79_4]) (.block 0 (.loop verify_reads_l0))) (.seq (.seq (.ops [q79_8]) (.cond (.t 46) (.seq (.ops [q79_9]) (.block 2 (.loop verify_reads_l1))) (.skip))) (.seq (.ops [q79_15]) (.ret))))))
theorem verify_reads_ok : compF Tryz.prog 79 = some (71, verify_reads_c, [.t 6]) := by kernel_rfl

@[go_sem] def q80_0 : List AI := [
 .j 3 (.mov (.c (.bool false)))]
@[go_sem] def q80_1 : List AI := [
 .j 4 (.mov (.t 0)),
 .j 5 (.faddr 1 (.t 1)),
 .j 6 (.load 1 false (.t 5)),
 .j 7 (.bin .geq (.t 4) (.t 6)),
 .j 3 (.mov (.t 7))]
@[go_sem] def verify_violates_1_c : AC := .seq (.ops [q80_0]) (.seq (.ops [q80_1]) (.ret))
theorem verify_violates_1_ok : compF Tryz.prog 80 = some (8, verify_violates_1_c, [.t 3]) := by kernel_rfl

@[go_sem] def q81_0 : List AI := [
 .j 4 (.mov (.c (.bool false)))]
@[go_sem] def q81_1 : List AI := [
 .j 6 (.mov (.t 0)),
 .j 7 (.len 0 (.t 6)),
 .j 8 (.mov (.t 1)),
 .j 9 (.len 0 (.t 8)),
 .j 10 (.bin .neq (.t 7) (.t 9))]
@[go_sem] def q81_2 : List AI := [
 .j 4 (.mov (.c (.bool false)))]
@[go_sem] def q81_3 : List AI := [
 .j 11 (.mov (.t 0)),
 .j 12 (.len 0 (.t 11)),
 .j 13 (.mov (.z 0))]
@[go_sem] def q81_4 : List AI := [
 .j 14 (.bin .lss (.t 13) (.t 12))]
@[go_sem] def q81_5 : List AI := [
 .j 15 (.mov (.t 13)),
 .j 5 (.mov (.t 15))]
@[go_sem] def q81_6 : List AI := [
 .j 16 (.mov (.t 0)),
 .j 17 (.mov (.t 5)),
 .j 18 (.iaddr 1 (.t 16) (.t 17)),
 .j 19 (.load 1 false (.t 18)),
 .j 20 (.mov (.t 1)),
 .j 21 (.mov (.t 5)),
 .j 22 (.iaddr 1 (.t 20) (.t 21)),
 .j 23 (.load 1 false (.t 22)),
 .j 24 (.bin .neq (.t 19) (.t 23))]
@[go_sem] def q81_7 : List AI := [
 .j 4 (.mov (.c (.bool false)))]
@[go_sem] def q81_8 : List AI := [
 .j 25 (.bin .add (.t 13) (.z 1)),
 .j 13 (.mov (.t 25))]
@[go_sem] def slices_Equal_int_int_l0' : AC := .seq (.ops [q81_4]) (.seq (.cond (.t 14) (.skip) (.exit 0)) (.seq (.block 1 (.seq (.ops [q81_5]) (.seq (.ops [q81_6]) (.cond (.t 24) (.seq (.ops [q81_7]) (.ret)) (.skip))))) (.ops [q81_8])))
def slices_Equal_int_int_l0 : AC := slices_Equal_int_int_l0'
theorem slices_Equal_int_int_l0_eq : slices_Equal_int_int_l0 = slices_Equal_int_int_l0' := rfl
@[go_sem] def q81_9 : List AI := [
 .j 4 (.mov (.c (.bool true)))]
@[go_sem] def slices_Equal_int_int_c : AC := .seq (.ops [q81_0]) (.seq (.seq (.ops [q81_1]) (.cond (.t 10) (.seq (.ops [q81_2]) (.ret)) (.skip))) (.seq (.seq (.ops [q81_3]) (.block 0 (.loop slices_Equal_int_int_l0))) (.seq (.ops [q81_9]) (.ret))))
theorem slices_Equal_int_int_ok : compF Tryz.prog 81 = some (26, slices_Equal_int_int_c, [.t 4]) := by kernel_rfl

@[go_sem] def q82_0 : List AI := [
 .j 4 (.mov (.z 0))]
@[go_sem] def q82_1 : List AI := [
 .j 6 (.mov (.t 0)),
 .j 7 (.len 0 (.t 6)),
 .j 8 (.mov (.z 0))]
@[go_sem] def q82_2 : List AI := [
 .j 9 (.bin .lss (.t 8) (.t 7))]
@[go_sem] def q82_3 : List AI := [
 .j 10 (.mov (.t 8)),
 .j 5 (.mov (.t 10))]
@[go_sem] def q82_4 : List AI := [
 .j 11 (.mov (.t 1)),
 .j 12 (.mov (.t 0)),
 .j 13 (.mov (.t 5)),
 .j 14 (.iaddr 3 (.t 12) (.t 13)),
 .j 15 (.load 3 true (.t 14)),
 .j 16 (.callv (.t 11) [(.t 15)])]
@[go_sem] def q82_5 : List AI := [
 .j 17 (.mov (.t 5)),
 .j 4 (.mov (.t 17))]
@[go_sem] def q82_6 : List AI := [
 .j 18 (.bin .add (.t 8) (.z 1)),
 .j 8 (.mov (.t 18))]
@[go_sem] def slices_IndexFunc_api_Up_api_Up_l0' : AC := .seq (.ops [q82_2]) (.seq (.cond (.t 9) (.skip) (.exit 0)) (.seq (.block 1 (.seq (.ops [q82_3]) (.seq (.ops [q82_4]) (.cond (.t 16) (.seq (.ops [q82_5]) (.ret)) (.skip))))) (.ops [q82_6])))
def slices_IndexFunc_api_Up_api_Up_l0 : AC := slices_IndexFunc_api_Up_api_Up_l0'
theorem slices_IndexFunc_api_Up_api_Up_l0_eq : slices_IndexFunc_api_Up_api_Up_l0 = slices_IndexFunc_api_Up_api_Up_l0' := rfl
@[go_sem] def q82_7 : List AI := [
 .j 4 (.mov (.z (-1)))]
@[go_sem] def slices_IndexFunc_api_Up_api_Up_c : AC := .seq (.ops [q82_0]) (.seq (.seq (.ops [q82_1]) (.block 0 (.loop slices_IndexFunc_api_Up_api_Up_l0))) (.seq (.ops [q82_7]) (.ret)))
theorem slices_IndexFunc_api_Up_api_Up_ok : compF Tryz.prog 82 = some (19, slices_IndexFunc_api_Up_api_Up_c, [.t 4]) := by kernel_rfl

@[go_sem] def q83_0 : List AI := [
 .j 4 (.mov (.z 0))]
@[go_sem] def q83_1 : List AI := [
 .j 6 (.mov (.t 0)),
 .j 7 (.len 0 (.t 6)),
 .j 8 (.mov (.z 0))]
@[go_sem] def q83_2 : List AI := [
 .j 9 (.bin .lss (.t 8) (.t 7))]
@[go_sem] def q83_3 : List AI := [
 .j 10 (.mov (.t 8)),
 .j 5 (.mov (.t 10))]
@[go_sem] def q83_4 : List AI := [
 .j 11 (.mov (.t 1)),
 .j 12 (.mov (.t 0)),
 .j 13 (.mov (.t 5)),
 .j 14 (.iaddr 5 (.t 12) (.t 13)),
 .j 15 (.load 5 true (.t 14)),
 .j 16 (.callv (.t 11) [(.t 15)])]
@[go_sem] def q83_5 : List AI := [
 .j 17 (.mov (.t 5)),
 .j 4 (.mov (.t 17))]
@[go_sem] def q83_6 : List AI := [
 .j 18 (.bin .add (.t 8) (.z 1)),
 .j 8 (.mov (.t 18))]
@[go_sem] def slices_IndexFunc_api_Var_api_Var_l0' : AC := .seq (.ops [q83_2]) (.seq (.cond (.t 9) (.skip) (.exit 0)) (.seq (.block 1 (.seq (.ops [q83_3]) (.seq (.ops [q83_4]) (.cond (.t 16) (.seq (.ops [q83_5]) (.ret)) (.skip))))) (.ops [q83_6])))
def slices_IndexFunc_api_Var_api_Var_l0 : AC := slices_IndexFunc_api_Var_api_Var_l0'
theorem slices_IndexFunc_api_Var_api_Var_l0_eq : slices_IndexFunc_api_Var_api_Var_l0 = slices_IndexFunc_api_Var_api_Var_l0' := rfl
@[go_sem] def q83_7 : List AI := [
 .j 4 (.mov (.z (-1)))]
@[go_sem] def slices_IndexFunc_api_Var_api_Var_c : AC := .seq (.ops [q83_0]) (.seq (.seq (.ops [q83_1]) (.block 0 (.loop slices_IndexFunc_api_Var_api_Var_l0))) (.seq (.ops [q83_7]) (.ret)))
theorem slices_IndexFunc_api_Var_api_Var_ok : compF Tryz.prog 83 = some (19, slices_IndexFunc_api_Var_api_Var_c, [.t 4]) := by kernel_rfl

@[go_sem] def q84_0 : List AI := [
 .j 4 (.mov (.z 0))]
@[go_sem] def q84_1 : List AI := [
 .j 6 (.mov (.t 0)),
 .j 7 (.len 0 (.t 6)),
 .j 8 (.mov (.z 0))]
@[go_sem] def q84_2 : List AI := [
 .j 9 (.bin .lss (.t 8) (.t 7))]
@[go_sem] def q84_3 : List AI := [
 .j 10 (.mov (.t 8)),
 .j 5 (.mov (.t 10))]
@[go_sem] def q84_4 : List AI := [
 .j 11 (.mov (.t 1)),
 .j 12 (.mov (.t 0)),
 .j 13 (.mov (.t 5)),
 .j 14 (.iaddr 1 (.t 12) (.t 13)),
 .j 15 (.load 1 false (.t 14)),
 .j 16 (.callv (.t 11) [(.t 15)])]
@[go_sem] def q84_5 : List AI := [
 .j 17 (.mov (.t 5)),
 .j 4 (.mov (.t 17))]
@[go_sem] def q84_6 : List AI := [
 .j 18 (.bin .add (.t 8) (.z 1)),
 .j 8 (.mov (.t 18))]
@[go_sem] def slices_IndexFunc_int_int_l0' : AC := .seq (.ops [q84_2]) (.seq (.cond (.t 9) (.skip) (.exit 0)) (.seq (.block 1 (.seq (.ops [q84_3]) (.seq (.ops [q84_4]) (.cond (.t 16) (.seq (.ops [q84_5]) (.ret)) (.skip))))) (.ops [q84_6])))
def slices_IndexFunc_int_int_l0 : AC := slices_IndexFunc_int_int_l0'
theorem slices_IndexFunc_int_int_l0_eq : slices_IndexFunc_int_int_l0 = slices_IndexFunc_int_int_l0' := rfl
@[go_sem] def q84_7 : List AI := [
 .j 4 (.mov (.z (-1)))]
@[go_sem] def slices_IndexFunc_int_int_c : AC := .seq (.ops [q84_0]) (.seq (.seq (.ops [q84_1]) (.block 0 (.loop slices_IndexFunc_int_int_l0))) (.seq (.ops [q84_7]) (.ret)))
theorem slices_IndexFunc_int_int_ok : compF Tryz.prog 84 = some (19, slices_IndexFunc_int_int_c, [.t 4]) := by kernel_rfl

@[go_sem] def q85_0 : List AI := [
 .j 1 (.box 850001 2 (.t 0)),
 .j 2 (.mov (.c (.bool false)))]
@[go_sem] def q85_1 : List AI := [
 .j 3 (.faddr 1 (.t 1)),
 .j 4 (.load 1 false (.t 3)),
 .j 5 (.bin .geq (.t 4) (.z 1)),
 .j 6 (.mov (.t 5)),
 .k 7 6 true (.faddr 1 (.t 1)),
 .k 8 6 true (.load 1 false (.t 7)),
 .k 9 6 true (.bin .leq (.t 8) (.z 2147483647)),
 .j 10 (.pick (.t 6) (.t 9) (.c (.bool false))),
 .j 11 (.mov (.t 10)),
 .k 12 11 true (.faddr 0 (.t 1)),
 .k 13 11 true (.load 1 false (.t 12)),
 .k 14 11 true (.bin .geq (.t 13) (.z (-2147483647))),
 .j 15 (.pick (.t 11) (.t 14) (.c (.bool false))),
 .j 16 (.mov (.t 15)),
 .k 17 16 true (.faddr 0 (.t 1)),
 .k 18 16 true (.load 1 false (.t 17)),
 .k 19 16 true (.bin .leq (.t 18) (.z 2147483647)),
 .j 20 (.pick (.t 16) (.t 19) (.c (.bool false))),
 .j 21 (.mov (.t 20)),
 .k 22 21 true (.faddr 0 (.t 1)),
 .k 23 21 true (.load 1 false (.t 22)),
 .k 24 21 true (.faddr 0 (.t 1)),
 .k 25 21 true (.load 1 false (.t 24)),
 .k 26 21 true (.un .neg (.t 25)),
 .k 27 21 true (.mm true [(.t 23), (.t 26)]),
 .k 28 21 true (.faddr 1 (.t 1)),
 .k 29 21 true (.load 1 false (.t 28)),
 .k 30 21 true (.call 106 [(.t 27), (.t 29)]),
 .k 31 21 true (.bin .eql (.t 30) (.z 1)),
 .j 32 (.pick (.t 21) (.t 31) (.c (.bool false))),
 .j 2 (.mov (.t 32))]
@[go_sem] def rational_Valid_c : AC := .seq (.ops [q85_0]) (.seq (.ops [q85_1]) (.ret))
theorem rational_Valid_ok : compF Tryz.prog 85 = some (33, rational_Valid_c, [.t 2]) := by kernel_rfl

@[go_sem] def q86_0 : List AI := [
 .j 2 (.box 860002 6 (.c (.agg [(.str []), (.int .i64 0), (.int .i64 0), (.int .i64 0), (.int .i64 0), (.int .i64 0)]))),
 .j 3 (.mov (.c (.bool false)))]
@[go_sem] def q86_1 : List AI := [
 .j 6 (.call 107 [(.c (.str [109, 111, 118, 101, 32, 99, 111, 110, 115, 116, 32, 110, 105, 108, 32, 98, 111, 111, 108, 32, 117, 112, 103, 101, 116, 32, 117, 112, 115, 101, 116, 32, 103, 108, 111, 98, 97, 108, 32, 115, 101, 116, 103, 108, 111, 98, 32, 103, 101, 116, 32, 115, 101, 116, 32, 115, 101, 108, 102, 32, 117, 110, 97, 114, 121, 32, 98, 105, 110, 97, 114, 121, 32, 106, 117, 109, 112, 32, 116, 101, 115, 116, 32, 99, 97, 108, 108, 32, 116, 97, 105, 108, 32, 114, 101, 116, 117, 114, 110, 32, 118, 97, 114, 97, 114, 103, 32, 116, 97, 98, 108, 101, 32, 97, 112, 112, 101, 110, 100, 32, 99, 108, 111, 115, 117, 114, 101, 32, 112, 114, 101, 112, 32, 108, 111, 111, 112, 32, 105, 116, 101, 114, 32, 110, 101, 120, 116, 32, 99, 108, 111, 115, 101, 32, 109, 97, 114, 107, 32, 115, 116, 97, 116]))]),
 .j 4 (.mov (.t 6))]
@[go_sem] def q86_2 : List AI := [
 .j 7 (.mov (.t 0)),
 .j 8 (.bin .lss (.t 7) (.z 1)),
 .j 9 (.mov (.t 8)),
 .k 10 9 false (.mov (.t 0)),
 .k 11 9 false (.mov (.t 4)),
 .k 12 9 false (.len 0 (.t 11)),
 .k 13 9 false (.bin .gtr (.t 10) (.t 12)),
 .j 14 (.pick (.t 9) (.c (.bool true)) (.t 13))]
@[go_sem] def q86_3 : List AI := [
 .j 15 (.build [(.str []), (.int .i64 0), (.int .i64 0), (.int .i64 0), (.int .i64 0), (.int .i64 0)] []),
 .e (.store 6 (.t 2) (.t 15)),
 .j 3 (.mov (.c (.bool false)))]
@[go_sem] def q86_4 : List AI := [
 .j 16 (.mov (.t 0)),
 .j 17 (.call 108 [(.t 16)]),
 .j 5 (.box 860005 6 (.c (.agg [(.str []), (.int .i64 0), (.int .i64 0), (.int .i64 0), (.int .i64 0), (.int .i64 0)]))),
 .e (.store 6 (.t 5) (.t 17))]
@[go_sem] def q86_5 : List AI := [
 .j 18 (.mov (.t 4)),
 .j 19 (.mov (.t 0)),
 .j 20 (.bin .sub (.t 19) (.z 1)),
 .j 21 (.iaddr 1 (.t 18) (.t 20)),
 .j 22 (.load 1 false (.t 21)),
 .j 23 (.faddr 0 (.t 5)),
 .e (.store 1 (.t 23) (.t 22))]
@[go_sem] def q86_6 : List AI := [
 .j 24 (.load 6 true (.t 5)),
 .e (.store 6 (.t 2) (.t 24)),
 .j 3 (.mov (.c (.bool true)))]
@[go_sem] def opcode_of_c : AC := .seq (.ops [q86_0]) (.seq (.ops [q86_1]) (.seq (.seq (.ops [q86_2]) (.cond (.t 14) (.seq (.ops [q86_3]) (.ret)) (.skip))) (.seq (.ops [q86_4]) (.seq (.ops [q86_5]) (.seq (.ops [q86_6]) (.ret))))))
theorem opcode_of_ok : compF Tryz.prog 86 = some (25, opcode_of_c, [.c 2 6 true, .t 3]) := by kernel_rfl

@[go_sem] def q87_0 : List AI := [
 .j 2 (.box 870002 6 (.t 0)),
 .j 3 (.box 870003 5 (.t 1)),
 .j 4 (.box 870004 4 (.c (.agg [(.int .i64 0), (.int .i64 0), (.int .i64 0), (.int .i64 0)]))),
 .j 5 (.box 870005 4 (.c (.agg [(.int .i64 0), (.int .i64 0), (.int .i64 0), (.int .i64 0)])))]
@[go_sem] def q87_1_0 : List AI := [
 .j 6 (.faddr 1 (.t 2)),
 .j 7 (.load 1 false (.t 6)),
 .j 8 (.faddr 2 (.t 2)),
 .j 9 (.load 1 false (.t 8)),
 .j 10 (.faddr 3 (.t 2)),
 .j 11 (.load 1 false (.t 10)),
 .j 12 (.faddr 4 (.t 2)),
 .j 13 (.load 1 false (.t 12)),
 .j 14 (.build [(.int .i64 0), (.int .i64 0), (.int .i64 0), (.int .i64 0)] [(0, 1, (.t 7)), (1, 1, (.t 9)), (2, 1, (.t 11)), (3, 1, (.t 13))]),
 .j 15 (.faddr 1 (.t 3)),
 .j 16 (.load 1 false (.t 15)),
 .j 17 (.faddr 2 (.t 3)),
 .j 18 (.load 1 false (.t 17)),
 .j 19 (.faddr 3 (.t 3)),
 .j 20 (.load 1 false (.t 19)),
 .j 21 (.faddr 4 (.t 3)),
 .j 22 (.load 1 false (.t 21)),
 .j 23 (.build [(.int .i64 0), (.int .i64 0), (.int .i64 0), (.int .i64 0)] [(0, 1, (.t 16)), (1, 1, (.t 18)), (2, 1, (.t 20)), (3, 1, (.t 22))]),
 .e (.store 4 (.t 4) (.t 14)),
 .e (.store 4 (.t 5) (.t 23))]
@[go_sem] def q87_1_1 : List AI := [
 .j 6 (.faddr 1 (.t 2)),
 .j 7 (.load 1 false (.t 6)),
 .j 8 (.faddr 2 (.t 2)),
 .j 9 (.load 1 false (.t 8)),
 .j 10 (.faddr 3 (.t 2)),
 .j 11 (.load 1 false (.t 10)),
 .j 12 (.faddr 4 (.t 2)),
 .j 13 (.load 1 false (.t 12)),
 .j 14 (.build [(.int .i64 0), (.int .i64 0), (.int .i64 0), (.int .i64 0)] [(0, 1, (.t 7)), (1, 1, (.t 9)), (2, 1, (.t 11)), (3, 1, (.t 13))]),
 .j 15 (.faddr 1 (.t 3)),
 .j 16 (.load 1 false (.t 15)),
 .j 17 (.faddr 2 (.t 3)),
 .j 18 (.load 1 false (.t 17)),
 .j 19 (.faddr 3 (.t 3)),
 .j 20 (.load 1 false (.t 19)),
 .j 21 (.faddr 4 (.t 3)),
 .e (.store 4 (.t 4) (.t 14)),
 .j 22 (.load 1 false (.t 21)),
 .j 23 (.build [(.int .i64 0), (.int .i64 0), (.int .i64 0), (.int .i64 0)] [(0, 1, (.t 16)), (1, 1, (.t 18)), (2, 1, (.t 20)), (3, 1, (.t 22))]),
 .e (.store 4 (.t 5) (.t 23))]
@[go_sem] def q87_1_2 : List AI := [
 .j 6 (.faddr 1 (.t 2)),
 .j 7 (.load 1 false (.t 6)),
 .j 8 (.faddr 2 (.t 2)),
 .j 9 (.load 1 false (.t 8)),
 .j 10 (.faddr 3 (.t 2)),
 .j 11 (.load 1 false (.t 10)),
 .j 12 (.faddr 4 (.t 2)),
 .j 13 (.load 1 false (.t 12)),
 .j 14 (.build [(.int .i64 0), (.int .i64 0), (.int .i64 0), (.int .i64 0)] [(0, 1, (.t 7)), (1, 1, (.t 9)), (2, 1, (.t 11)), (3, 1, (.t 13))]),
 .j 15 (.faddr 1 (.t 3)),
 .j 16 (.load 1 false (.t 15)),
 .j 17 (.faddr 2 (.t 3)),
 .j 18 (.load 1 false (.t 17)),
 .j 19 (.faddr 3 (.t 3)),
 .j 21 (.faddr 4 (.t 3)),
 .j 22 (.load 1 false (.t 21)),
 .e (.store 4 (.t 4) (.t 14)),
 .j 20 (.load 1 false (.t 19)),
 .j 23 (.build [(.int .i64 0), (.int .i64 0), (.int .i64 0), (.int .i64 0)] [(0, 1, (.t 16)), (1, 1, (.t 18)), (2, 1, (.t 20)), (3, 1, (.t 22))]),
 .e (.store 4 (.t 5) (.t 23))]
@[go_sem] def q87_1_3 : List AI := [
 .j 6 (.faddr 1 (.t 2)),
 .j 7 (.load 1 false (.t 6)),
 .j 8 (.faddr 2 (.t 2)),
 .j 9 (.load 1 false (.t 8)),
 .j 10 (.faddr 3 (.t 2)),
 .j 11 (.load 1 false (.t 10)),
 .j 12 (.faddr 4 (.t 2)),
 .j 13 (.load 1 false (.t 12)),
 .j 14 (.build [(.int .i64 0), (.int .i64 0), (.int .i64 0), (.int .i64 0)] [(0, 1, (.t 7)), (1, 1, (.t 9)), (2, 1, (.t 11)), (3, 1, (.t 13))]),
 .j 15 (.faddr 1 (.t 3)),
 .j 16 (.load 1 false (.t 15)),
 .j 17 (.faddr 2 (.t 3)),
 .j 18 (.load 1 false (.t 17)),
 .j 19 (.faddr 3 (.t 3)),
 .j 21 (.faddr 4 (.t 3)),
 .e (.store 4 (.t 4) (.t 14)),
 .j 20 (.load 1 false (.t 19)),
 .j 22 (.load 1 false (.t 21)),
 .j 23 (.build [(.int .i64 0), (.int .i64 0), (.int .i64 0), (.int .i64 0)] [(0, 1, (.t 16)), (1, 1, (.t 18)), (2, 1, (.t 20)), (3, 1, (.t 22))]),
 .e (.store 4 (.t 5) (.t 23))]
@[go_sem] def q87_1_4 : List AI := [
 .j 6 (.faddr 1 (.t 2)),
 .j 7 (.load 1 false (.t 6)),
 .j 8 (.faddr 2 (.t 2)),
 .j 9 (.load 1 false (.t 8)),
 .j 10 (.faddr 3 (.t 2)),
 .j 11 (.load 1 false (.t 10)),
 .j 12 (.faddr 4 (.t 2)),
 .j 13 (.load 1 false (.t 12)),
 .j 14 (.build [(.int .i64 0), (.int .i64 0), (.int .i64 0), (.int .i64 0)] [(0, 1, (.t 7)), (1, 1, (.t 9)), (2, 1, (.t 11)), (3, 1, (.t 13))]),
 .j 15 (.faddr 1 (.t 3)),
 .j 16 (.load 1 false (.t 15)),
 .j 17 (.faddr 2 (.t 3)),
 .j 19 (.faddr 3 (.t 3)),
 .j 20 (.load 1 false (.t 19)),
 .j 21 (.faddr 4 (.t 3)),
 .j 22 (.load 1 false (.t 21)),
 .e (.store 4 (.t 4) (.t 14)),
 .j 18 (.load 1 false (.t 17)),
 .j 23 (.build [(.int .i64 0), (.int .i64 0), (.int .i64 0), (.int .i64 0)] [(0, 1, (.t 16)), (1, 1, (.t 18)), (2, 1, (.t 20)), (3, 1, (.t 22))]),
 .e (.store 4 (.t 5) (.t 23))]
@[go_sem] def q87_1_5 : List AI := [
 .j 6 (.faddr 1 (.t 2)),
 .j 7 (.load 1 false (.t 6)),
 .j 8 (.faddr 2 (.t 2)),
 .j 9 (.load 1 false (.t 8)),
 .j 10 (.faddr 3 (.t 2)),
 .j 11 (.load 1 false (.t 10)),
 .j 12 (.faddr 4 (.t 2)),
 .j 13 (.load 1 false (.t 12)),
 .j 14 (.build [(.int .i64 0), (.int .i64 0), (.int .i64 0), (.int .i64 0)] [(0, 1, (.t 7)), (1, 1, (.t 9)), (2, 1, (.t 11)), (3, 1, (.t 13))]),
 .j 15 (.faddr 1 (.t 3)),
 .j 16 (.load 1 false (.t 15)),
 .j 17 (.faddr 2 (.t 3)),
 .j 19 (.faddr 3 (.t 3)),
 .j 20 (.load 1 false (.t 19)),
 .j 21 (.faddr 4 (.t 3)),
 .e (.store 4 (.t 4) (.t 14)),
 .j 18 (.load 1 false (.t 17)),
 .j 22 (.load 1 false (.t 21)),
 .j 23 (.build [(.int .i64 0), (.int .i64 0), (.int .i64 0), (.int .i64 0)] [(0, 1, (.t 16)), (1, 1, (.t 18)), (2, 1, (.t 20)), (3, 1, (.t 22))]),
 .e (.store 4 (.t 5) (.t 23))]
@[go_sem] def q87_1_6 : List AI := [
 .j 6 (.faddr 1 (.t 2)),
 .j 7 (.load 1 false (.t 6)),
 .j 8 (.faddr 2 (.t 2)),
 .j 9 (.load 1 false (.t 8)),
 .j 10 (.faddr 3 (.t 2)),
 .j 11 (.load 1 false (.t 10)),
 .j 12 (.faddr 4 (.t 2)),
 .j 13 (.load 1 false (.t 12)),
 .j 14 (.build [(.int .i64 0), (.int .i64 0), (.int .i64 0), (.int .i64 0)] [(0, 1, (.t 7)), (1, 1, (.t 9)), (2, 1, (.t 11)), (3, 1, (.t 13))]),
 .j 15 (.faddr 1 (.t 3)),
 .j 16 (.load 1 false (.t 15)),
 .j 17 (.faddr 2 (.t 3)),
 .j 19 (.faddr 3 (.t 3)),
 .j 21 (.faddr 4 (.t 3)),
 .j 22 (.load 1 false (.t 21)),
 .e (.store 4 (.t 4) (.t 14)),
 .j 18 (.load 1 false (.t 17)),
 .j 20 (.load 1 false (.t 19)),
 .j 23 (.build [(.int .i64 0), (.int .i64 0), (.int .i64 0), (.int .i64 0)] [(0, 1, (.t 16)), (1, 1, (.t 18)), (2, 1, (.t 20)), (3, 1, (.t 22))]),
 .e (.store 4 (.t 5) (.t 23))]
@[go_sem] def q87_1_7 : List AI := [
 .j 6 (.faddr 1 (.t 2)),
 .j 7 (.load 1 false (.t 6)),
 .j 8 (.faddr 2 (.t 2)),
 .j 9 (.load 1 false (.t 8)),
 .j 10 (.faddr 3 (.t 2)),
 .j 11 (.load 1 false (.t 10)),
 .j 12 (.faddr 4 (.t 2)),
 .j 13 (.load 1 false (.t 12)),
 .j 14 (.build [(.int .i64 0), (.int .i64 0), (.int .i64 0), (.int .i64 0)] [(0, 1, (.t 7)), (1, 1, (.t 9)), (2, 1, (.t 11)), (3, 1, (.t 13))]),
 .j 15 (.faddr 1 (.t 3)),
 .j 16 (.load 1 false (.t 15)),
 .j 17 (.faddr 2 (.t 3)),
 .j 19 (.faddr 3 (.t 3)),
 .j 21 (.faddr 4 (.t 3)),
 .e (.store 4 (.t 4) (.t 14)),
 .j 18 (.load 1 false (.t 17)),
 .j 20 (.load 1 false (.t 19)),
 .j 22 (.load 1 false (.t 21)),
 .j 23 (.build [(.int .i64 0), (.int .i64 0), (.int .i64 0), (.int .i64 0)] [(0, 1, (.t 16)), (1, 1, (.t 18)), (2, 1, (.t 20)), (3, 1, (.t 22))]),
 .e (.store 4 (.t 5) (.t 23))]
@[go_sem] def q87_1_8 : List AI := [
 .j 6 (.faddr 1 (.t 2)),
 .j 7 (.load 1 false (.t 6)),
 .j 8 (.faddr 2 (.t 2)),
 .j 9 (.load 1 false (.t 8)),
 .j 10 (.faddr 3 (.t 2)),
 .j 11 (.load 1 false (.t 10)),
 .j 12 (.faddr 4 (.t 2)),
 .j 13 (.load 1 false (.t 12)),
 .j 14 (.build [(.int .i64 0), (.int .i64 0), (.int .i64 0), (.int .i64 0)] [(0, 1, (.t 7)), (1, 1, (.t 9)), (2, 1, (.t 11)), (3, 1, (.t 13))]),
 .j 15 (.faddr 1 (.t 3)),
 .j 17 (.faddr 2 (.t 3)),
 .j 18 (.load 1 false (.t 17)),
 .j 19 (.faddr 3 (.t 3)),
 .j 20 (.load 1 false (.t 19)),
 .j 21 (.faddr 4 (.t 3)),
 .j 22 (.load 1 false (.t 21)),
 .e (.store 4 (.t 4) (.t 14)),
 .j 16 (.load 1 false (.t 15)),
 .j 23 (.build [(.int .i64 0), (.int .i64 0), (.int .i64 0), (.int .i64 0)] [(0, 1, (.t 16)), (1, 1, (.t 18)), (2, 1, (.t 20)), (3, 1, (.t 22))]),
 .e (.store 4 (.t 5) (.t 23))]
@[go_sem] def q87_1_9 : List AI := [
 .j 6 (.faddr 1 (.t 2)),
 .j 7 (.load 1 false (.t 6)),
 .j 8 (.faddr 2 (.t 2)),
 .j 9 (.load 1 false (.t 8)),
 .j 10 (.faddr 3 (.t 2)),
 .j 11 (.load 1 false (.t 10)),
 .j 12 (.faddr 4 (.t 2)),
 .j 13 (.load 1 false (.t 12)),
 .j 14 (.build [(.int .i64 0), (.int .i64 0), (.int .i64 0), (.int .i64 0)] [(0, 1, (.t 7)), (1, 1, (.t 9)), (2, 1, (.t 11)), (3, 1, (.t 13))]),
 .j 15 (.faddr 1 (.t 3)),
 .j 17 (.faddr 2 (.t 3)),
 .j 18 (.load 1 false (.t 17)),
 .j 19 (.faddr 3 (.t 3)),
 .j 20 (.load 1 false (.t 19)),
 .j 21 (.faddr 4 (.t 3)),
 .e (.store 4 (.t 4) (.t 14)),
 .j 16 (.load 1 false (.t 15)),
 .j 22 (.load 1 false (.t 21)),
 .j 23 (.build [(.int .i64 0), (.int .i64 0), (.int .i64 0), (.int .i64 0)] [(0, 1, (.t 16)), (1, 1, (.t 18)), (2, 1, (.t 20)), (3, 1, (.t 22))]),
 .e (.store 4 (.t 5) (.t 23))]
@[go_sem] def q87_1_10 : List AI := [
 .j 6 (.faddr 1 (.t 2)),
 .j 7 (.load 1 false (.t 6)),
 .j 8 (.faddr 2 (.t 2)),
 .j 9 (.load 1 false (.t 8)),
 .j 10 (.faddr 3 (.t 2)),
 .j 11 (.load 1 false (.t 10)),
 .j 12 (.faddr 4 (.t 2)),
 .j 13 (.load 1 false (.t 12)),
 .j 14 (.build [(.int .i64 0), (.int .i64 0), (.int .i64 0), (.int .i64 0)] [(0, 1, (.t 7)), (1, 1, (.t 9)), (2, 1, (.t 11)), (3, 1, (.t 13))]),
 .j 15 (.faddr 1 (.t 3)),
 .j 17 (.faddr 2 (.t 3)),
 .j 18 (.load 1 false (.t 17)),
 .j 19 (.faddr 3 (.t 3)),
 .j 21 (.faddr 4 (.t 3)),
 .j 22 (.load 1 false (.t 21)),
 .e (.store 4 (.t 4) (.t 14)),
 .j 16 (.load 1 false (.t 15)),
 .j 20 (.load 1 false (.t 19)),
 .j 23 (.build [(.int .i64 0), (.int .i64 0), (.int .i64 0), (.int .i64 0)] [(0, 1, (.t 16)), (1, 1, (.t 18)), (2, 1, (.t 20)), (3, 1, (.t 22))]),
 .e (.store 4 (.t 5) (.t 23))]
@[go_sem] def q87_1_11 : List AI := [
 .j 6 (.faddr 1 (.t 2)),
 .j 7 (.load 1 false (.t 6)),
 .j 8 (.faddr 2 (.t 2)),
 .j 9 (.load 1 false (.t 8)),
 .j 10 (.faddr 3 (.t 2)),
 .j 11 (.load 1 false (.t 10)),
 .j 12 (.faddr 4 (.t 2)),
 .j 13 (.load 1 false (.t 12)),
 .j 14 (.build [(.int .i64 0), (.int .i64 0), (.int .i64 0), (.int .i64 0)] [(0, 1, (.t 7)), (1, 1, (.t 9)), (2, 1, (.t 11)), (3, 1, (.t 13))]),
 .j 15 (.faddr 1 (.t 3)),
 .j 17 (.faddr 2 (.t 3)),
 .j 18 (.load 1 false (.t 17)),
 .j 19 (.faddr 3 (.t 3)),
 .j 21 (.faddr 4 (.t 3)),
 .e (.store 4 (.t 4) (.t 14)),
 .j 16 (.load 1 false (.t 15)),
 .j 20 (.load 1 false (.t 19)),
 .j 22 (.load 1 false (.t 21)),
 .j 23 (.build [(.int .i64 0), (.int .i64 0), (.int .i64 0), (.int .i64 0)] [(0, 1, (.t 16)), (1, 1, (.t 18)), (2, 1, (.t 20)), (3, 1, (.t 22))]),
 .e (.store 4 (.t 5) (.t 23))]
@[go_sem] def q87_1_12 : List AI := [
 .j 6 (.faddr 1 (.t 2)),
 .j 7 (.load 1 false (.t 6)),
 .j 8 (.faddr 2 (.t 2)),
 .j 9 (.load 1 false (.t 8)),
 .j 10 (.faddr 3 (.t 2)),
 .j 11 (.load 1 false (.t 10)),
 .j 12 (.faddr 4 (.t 2)),
 .j 13 (.load 1 false (.t 12)),
 .j 14 (.build [(.int .i64 0), (.int .i64 0), (.int .i64 0), (.int .i64 0)] [(0, 1, (.t 7)), (1, 1, (.t 9)), (2, 1, (.t 11)), (3, 1, (.t 13))]),
 .j 15 (.faddr 1 (.t 3)),
 .j 17 (.faddr 2 (.t 3)),
 .j 19 (.faddr 3 (.t 3)),
 .j 20 (.load 1 false (.t 19)),
 .j 21 (.faddr 4 (.t 3)),
 .j 22 (.load 1 false (.t 21)),
 .e (.store 4 (.t 4) (.t 14)),
 .j 16 (.load 1 false (.t 15)),
 .j 18 (.load 1 false (.t 17)),
 .j 23 (.build [(.int .i64 0), (.int .i64 0), (.int .i64 0), (.int .i64 0)] [(0, 1, (.t 16)), (1, 1, (.t 18)), (2, 1, (.t 20)), (3, 1, (.t 22))]),
 .e (.store 4 (.t 5) (.t 23))]
@[go_sem] def q87_1_13 : List AI := [
 .j 6 (.faddr 1 (.t 2)),
 .j 7 (.load 1 false (.t 6)),
 .j 8 (.faddr 2 (.t 2)),
 .j 9 (.load 1 false (.t 8)),
 .j 10 (.faddr 3 (.t 2)),
 .j 11 (.load 1 false (.t 10)),
 .j 12 (.faddr 4 (.t 2)),
 .j 13 (.load 1 false (.t 12)),
 .j 14 (.build [(.int .i64 0), (.int .i64 0), (.int .i64 0), (.int .i64 0)] [(0, 1, (.t 7)), (1, 1, (.t 9)), (2, 1, (.t 11)), (3, 1, (.t 13))]),
 .j 15 (.faddr 1 (.t 3)),
 .j 17 (.faddr 2 (.t 3)),
 .j 19 (.faddr 3 (.t 3)),
 .j 20 (.load 1 false (.t 19)),
 .j 21 (.faddr 4 (.t 3)),
 .e (.store 4 (.t 4) (.t 14)),
 .j 16 (.load 1 false (.t 15)),
 .j 18 (.load 1 false (.t 17)),
 .j 22 (.load 1 false (.t 21)),
 .j 23 (.build [(.int .i64 0), (.int .i64 0), (.int .i64 0), (.int .i64 0)] [(0, 1, (.t 16)), (1, 1, (.t 18)), (2, 1, (.t 20)), (3, 1, (.t 22))]),
 .e (.store 4 (.t 5) (.t 23))]
@[go_sem] def q87_1_14 : List AI := [
 .j 6 (.faddr 1 (.t 2)),
 .j 7 (.load 1 false (.t 6)),
 .j 8 (.faddr 2 (.t 2)),
 .j 9 (.load 1 false (.t 8)),
 .j 10 (.faddr 3 (.t 2)),
 .j 11 (.load 1 false (.t 10)),
 .j 12 (.faddr 4 (.t 2)),
 .j 13 (.load 1 false (.t 12)),
 .j 14 (.build [(.int .i64 0), (.int .i64 0), (.int .i64 0), (.int .i64 0)] [(0, 1, (.t 7)), (1, 1, (.t 9)), (2, 1, (.t 11)), (3, 1, (.t 13))]),
 .j 15 (.faddr 1 (.t 3)),
 .j 17 (.faddr 2 (.t 3)),
 .j 19 (.faddr 3 (.t 3)),
 .j 21 (.faddr 4 (.t 3)),
 .j 22 (.load 1 false (.t 21)),
 .e (.store 4 (.t 4) (.t 14)),
 .j 16 (.load 1 false (.t 15)),
 .j 18 (.load 1 false (.t 17)),
 .j 20 (.load 1 false (.t 19)),
 .j 23 (.build [(.int .i64 0), (.int .i64 0), (.int .i64 0), (.int .i64 0)] [(0, 1, (.t 16)), (1, 1, (.t 18)), (2, 1, (.t 20)), (3, 1, (.t 22))]),
 .e (.store 4 (.t 5) (.t 23))]
@[go_sem] def q87_1_15 : List AI := [
 .j 6 (.faddr 1 (.t 2)),
 .j 7 (.load 1 false (.t 6)),
 .j 8 (.faddr 2 (.t 2)),
 .j 9 (.load 1 false (.t 8)),
 .j 10 (.faddr 3 (.t 2)),
 .j 11 (.load 1 false (.t 10)),
 .j 12 (.faddr 4 (.t 2)),
 .j 13 (.load 1 false (.t 12)),
 .j 14 (.build [(.int .i64 0), (.int .i64 0), (.int .i64 0), (.int .i64 0)] [(0, 1, (.t 7)), (1, 1, (.t 9)), (2, 1, (.t 11)), (3, 1, (.t 13))]),
 .j 15 (.faddr 1 (.t 3)),
 .j 17 (.faddr 2 (.t 3)),
 .j 19 (.faddr 3 (.t 3)),
 .j 21 (.faddr 4 (.t 3)),
 .e (.store 4 (.t 4) (.t 14)),
 .j 16 (.load 1 false (.t 15)),
 .j 18 (.load 1 false (.t 17)),
 .j 20 (.load 1 false (.t 19)),
 .j 22 (.load 1 false (.t 21)),
 .j 23 (.build [(.int .i64 0), (.int .i64 0), (.int .i64 0), (.int .i64 0)] [(0, 1, (.t 16)), (1, 1, (.t 18)), (2, 1, (.t 20)), (3, 1, (.t 22))]),
 .e (.store 4 (.t 5) (.t 23))]
@[go_sem] def opcode_fields_c : AC := .seq (.ops [q87_0]) (.seq (.ops [q87_1_0, q87_1_1, q87_1_2, q87_1_3, q87_1_4, q87_1_5, q87_1_6, q87_1_7, q87_1_8, q87_1_9, q87_1_10, q87_1_11, q87_1_12, q87_1_13, q87_1_14, q87_1_15]) (.ret))
theorem opcode_fields_ok : compF Tryz.prog 87 = some (24, opcode_fields_c, [.c 4 4 true, .c 5 4 true]) := by kernel_rfl

@[go_sem] def q88_0 : List AI := [
 .j 2 (.mov (.z 0)),
 .j 3 (.mov (.z 0))]
@[go_sem] def q88_1 : List AI := [
 .j 4 (.mov (.t 0))]
@[go_sem] def q88_2 : List AI := [
 .j 6 (.bin .eql (.t 4) (.z 1)),
 .j 5 (.mov (.t 6))]
@[go_sem] def q88_3 : List AI := [
 .j 2 (.mov (.z 0)),
 .j 3 (.mov (.z 4095))]
@[go_sem] def q88_4 : List AI := [
 .j 8 (.bin .eql (.t 4) (.z 2)),
 .j 7 (.mov (.t 8))]
@[go_sem] def q88_5 : List AI := [
 .j 2 (.mov (.z 0)),
 .j 3 (.mov (.z 4095))]
@[go_sem] def q88_6 : List AI := [
 .j 10 (.bin .eql (.t 4) (.z 3)),
 .j 9 (.mov (.t 10))]
@[go_sem] def q88_7 : List AI := [
 .j 2 (.mov (.z 0)),
 .j 3 (.mov (.z 59))]
@[go_sem] def q88_8 : List AI := [
 .j 12 (.bin .eql (.t 4) (.z 4)),
 .j 11 (.mov (.t 12))]
@[go_sem] def q88_9 : List AI := [
 .j 2 (.mov (.z 0)),
 .j 3 (.mov (.z 1023))]
@[go_sem] def q88_10 : List AI := [
 .j 14 (.bin .eql (.t 4) (.z 5)),
 .j 13 (.mov (.t 14))]
@[go_sem] def q88_11 : List AI := [
 .j 2 (.mov (.z 0)),
 .j 3 (.mov (.z 16383))]
@[go_sem] def q88_12 : List AI := [
 .j 16 (.bin .eql (.t 4) (.z 6)),
 .j 15 (.mov (.t 16))]
@[go_sem] def q88_13 : List AI := [
 .j 2 (.mov (.z (-1))),
 .j 3 (.mov (.z 200))]
@[go_sem] def q88_14 : List AI := [
 .j 18 (.bin .eql (.t 4) (.z 7)),
 .j 17 (.mov (.t 18))]
@[go_sem] def q88_15 : List AI := [
 .j 2 (.mov (.z (-1))),
 .j 3 (.mov (.z 4096))]
@[go_sem] def q88_16 : List AI := [
 .j 20 (.bin .eql (.t 4) (.z 8)),
 .j 19 (.mov (.t 20))]
@[go_sem] def q88_17 : List AI := [
 .j 2 (.mov (.z 0)),
 .j 3 (.mov (.z 1))]
@[go_sem] def q88_18 : List AI := [
 .j 22 (.bin .eql (.t 4) (.z 9)),
 .j 21 (.mov (.t 22))]
@[go_sem] def q88_19 : List AI := [
 .j 2 (.mov (.z 20)),
 .j 3 (.mov (.z 23))]
@[go_sem] def q88_20 : List AI := [
 .j 24 (.bin .eql (.t 4) (.z 10)),
 .j 23 (.mov (.t 24))]
@[go_sem] def q88_21 : List AI := [
 .j 2 (.mov (.z 1)),
 .j 3 (.mov (.z 19))]
@[go_sem] def q88_22 : List AI := [
 .j 26 (.bin .eql (.t 4) (.z 11)),
 .j 25 (.mov (.t 26))]
@[go_sem] def q88_23 : List AI := [
 .j 2 (.mov (.z 1)),
 .j 3 (.mov (.z 200))]
@[go_sem] def q88_24 : List AI := [
 .j 28 (.bin .eql (.t 4) (.z 12)),
 .j 27 (.mov (.t 28))]
@[go_sem] def q88_25 : List AI := [
 .j 2 (.mov (.z 1)),
 .j 3 (.mov (.z 32767))]
@[go_sem] def q88_26 : List AI := [
 .j 2 (.mov (.z 0)),
 .j 3 (.mov (.z 0))]
@[go_sem] def opcode_between_c : AC := .seq (.ops [q88_0]) (.seq (.seq (.ops [q88_1]) (.block 0 (.seq (.ops [q88_2]) (.cond (.t 5) (.seq (.ops [q88_3]) (.ret)) (.seq (.ops [q88_4]) (.cond (.t 7) (.seq (.ops [q88_5]) (.ret)) (.seq (.ops [q88_6]) (.cond (.t 9) (.seq (.ops [q88_7]) (.ret)) (.seq (.ops [q88_8]) (.cond (.t 11) (.seq (.ops [q88_9]) (.ret)) (.seq (.ops [q88_10]) (.cond (.t 13) (.seq (.ops [q88_11]) (.ret)) (.seq (.ops [q88_12]) (.cond (.t 15) (.seq (.ops [q88_13]) (.ret)) (.seq (.ops [q88_14]) (.cond (.t 17) (.seq (.ops [q88_15]) (.ret)) (.seq (.ops [q88_16]) (.cond (.t 19) (.seq (.ops [q88_17]) (.ret)) (.seq (.ops [q88_18]) (.cond (.t 21) (.seq (.ops [q88_19]) (.ret)) (.seq (.ops [q88_20]) (.cond (.t 23) (.seq (.ops [q88_21]) (.ret)) (.seq (.ops [q88_22]) (.cond (.t 25) (.seq (.ops [q88_23]) (.ret)) (.seq (.ops [q88_24]) (.cond (.t 27) (.seq (.ops [q88_25]) (.ret)) (.skip))))))))))))))))))))))))))) (.seq (.ops [q88_26]) (.ret)))
theorem opcode_between_ok : compF Tryz.prog 88 = some (29, opcode_between_c, [.t 2, .t 3]) := by kernel_rfl

@[go_sem] def q89_0 : List AI := [
 .j 2 (.box 890002 6 (.t 0)),
 .j 3 (.box 890003 5 (.t 1)),
 .j 4 (.mov (.z 0))]
@[go_sem] def q89_1 : List AI := [
 .j 6 (.faddr 1 (.t 3)),
 .j 7 (.load 1 false (.t 6)),
 .j 8 (.faddr 5 (.t 2)),
 .j 9 (.load 1 false (.t 8)),
 .j 10 (.bin .add (.t 7) (.t 9)),
 .j 5 (.mov (.t 10))]
@[go_sem] def q89_2 : List AI := [
 .j 11 (.faddr 0 (.t 3)),
 .j 12 (.load 1 false (.t 11))]
@[go_sem] def q89_3 : List AI := [
 .j 14 (.bin .eql (.t 12) (.z 16)),
 .j 13 (.mov (.t 14))]
@[go_sem] def q89_4 : List AI := [
 .j 15 (.faddr 1 (.t 3)),
 .j 16 (.load 1 false (.t 15)),
 .j 17 (.faddr 2 (.t 3)),
 .j 18 (.load 1 false (.t 17)),
 .j 19 (.bin .add (.t 16) (.t 18)),
 .j 20 (.faddr 1 (.t 3)),
 .j 21 (.load 1 false (.t 20)),
 .j 22 (.faddr 3 (.t 3)),
 .j 23 (.load 1 false (.t 22)),
 .j 24 (.bin .add (.t 21) (.t 23)),
 .j 25 (.bin .sub (.t 24) (.z 1)),
 .j 26 (.mm true [(.t 19), (.t 25)]),
 .j 5 (.mov (.t 26))]
@[go_sem] def q89_5 : List AI := [
 .j 28 (.bin .eql (.t 12) (.z 17)),
 .j 27 (.mov (.t 28))]
@[go_sem] def q89_6 : List AI := [
 .j 29 (.bin .eql (.t 12) (.z 21)),
 .j 27 (.mov (.t 29))]
@[go_sem] def q89_7 : List AI := [
 .j 30 (.faddr 1 (.t 3)),
 .j 31 (.load 1 false (.t 30)),
 .j 32 (.faddr 2 (.t 3)),
 .j 33 (.load 1 false (.t 32)),
 .j 34 (.bin .add (.t 31) (.t 33)),
 .j 5 (.mov (.t 34))]
@[go_sem] def q89_8 : List AI := [
 .j 36 (.bin .eql (.t 12) (.z 18)),
 .j 35 (.mov (.t 36))]
@[go_sem] def q89_9 : List AI := [
 .j 37 (.bin .eql (.t 12) (.z 19)),
 .j 35 (.mov (.t 37))]
@[go_sem] def q89_10 : List AI := [
 .j 38 (.faddr 1 (.t 3)),
 .j 39 (.load 1 false (.t 38)),
 .j 40 (.faddr 2 (.t 3)),
 .j 41 (.load 1 false (.t 40)),
 .j 42 (.bin .add (.t 39) (.t 41)),
 .j 43 (.bin .sub (.t 42) (.z 1)),
 .j 5 (.mov (.t 43))]
@[go_sem] def q89_11 : List AI := [
 .j 45 (.bin .eql (.t 12) (.z 25)),
 .j 44 (.mov (.t 45))]
@[go_sem] def q89_12 : List AI := [
 .j 46 (.faddr 1 (.t 3)),
 .j 47 (.load 1 false (.t 46)),
 .j 48 (.bin .add (.t 47) (.z 2)),
 .j 49 (.faddr 3 (.t 3)),
 .j 50 (.load 1 false (.t 49)),
 .j 51 (.bin .add (.t 48) (.t 50)),
 .j 5 (.mov (.t 51))]
@[go_sem] def q89_13 : List AI := [
 .j 52 (.mov (.t 5)),
 .j 4 (.mov (.t 52))]
@[go_sem] def opcode_last_c : AC := .seq (.ops [q89_0]) (.seq (.ops [q89_1]) (.seq (.seq (.ops [q89_2]) (.block 0 (.seq (.ops [q89_3]) (.cond (.t 13) (.ops [q89_4]) (.seq (.seq (.ops [q89_5]) (.cond (.t 27) (.skip) (.ops [q89_6]))) (.cond (.t 27) (.ops [q89_7]) (.seq (.seq (.ops [q89_8]) (.cond (.t 35) (.skip) (.ops [q89_9]))) (.cond (.t 35) (.ops [q89_10]) (.seq (.ops [q89_11]) (.cond (.t 44) (.ops [q89_12]) (.skip))))))))))) (.seq (.ops [q89_13]) (.ret))))
theorem opcode_last_ok : compF Tryz.prog 89 = some (53, opcode_last_c, [.t 4]) := by kernel_rfl

@[go_sem] def q90_0 : List AI := [
 .j 2 (.mov (.c .nils))]
@[go_sem] def q90_1 : List AI := [
 .j 3 (.mov (.t 0)),
 .j 4 (.call 47 [(.t 3)])]
@[go_sem] def q90_2 : List AI := [
 .j 5 (.mov (.t 0)),
 .j 6 (.call 48 [(.t 5)]),
 .j 2 (.mov (.t 6))]
@[go_sem] def opcode_sorted_c : AC := .seq (.ops [q90_0]) (.seq (.ops [q90_1]) (.seq (.ops [q90_2]) (.ret)))
theorem opcode_sorted_ok : compF Tryz.prog 90 = some (7, opcode_sorted_c, [.t 2]) := by kernel_rfl

@[go_sem] def q91_0 : List AI := [
 .j 4 (.mov (.c .nils)),
 .j 5 (.mov (.z 0))]
@[go_sem] def q91_1 : List AI := [
 .j 8 (.mov (.t 1)),
 .j 9 (.bin .lss (.t 8) (.z 0))]
@[go_sem] def q91_2 : List AI := [
 .j 10 (.mov (.t 0)),
 .j 4 (.mov (.c .nils)),
 .j 5 (.mov (.t 10))]
@[go_sem] def q91_3 : List AI := [
 .j 6 (.mov (.c .nils))]
@[go_sem] def q91_4 : List AI := [
 .j 11 (.mov (.t 1)),
 .j 12 (.mov (.z 0))]
@[go_sem] def q91_5 : List AI := [
 .j 13 (.bin .lss (.t 12) (.t 11))]
@[go_sem] def q91_6 : List AI := [
 .j 14 (.mov (.t 12)),
 .j 7 (.mov (.t 14))]
@[go_sem] def q91_7 : List AI := [
 .j 15 (.mov (.t 6)),
 .j 16 (.mov (.t 0)),
 .j 17 (.mov (.t 7)),
 .j 18 (.bin .add (.t 16) (.t 17)),
 .j 19 (.mkisl 1 [(.t 18)]),
 .j 20 (.app 910020 1 (.t 15) (.t 19)),
 .j 6 (.mov (.t 20))]
@[go_sem] def q91_8 : List AI := [
 .j 21 (.bin .add (.t 12) (.z 1)),
 .j 12 (.mov (.t 21))]
@[go_sem] def opcode_span_l0' : AC := .seq (.ops [q91_5]) (.seq (.cond (.t 13) (.skip) (.exit 0)) (.seq (.block 1 (.seq (.ops [q91_6]) (.ops [q91_7]))) (.ops [q91_8])))
def opcode_span_l0 : AC := opcode_span_l0'
theorem opcode_span_l0_eq : opcode_span_l0 = opcode_span_l0' := rfl
@[go_sem] def q91_9 : List AI := [
 .j 22 (.mov (.t 6)),
 .j 4 (.mov (.t 22)),
 .j 5 (.mov (.z (-1)))]
@[go_sem] def opcode_span_c : AC := .seq (.ops [q91_0]) (.seq (.seq (.ops [q91_1]) (.cond (.t 9) (.seq (.ops [q91_2]) (.ret)) (.skip))) (.seq (.ops [q91_3]) (.seq (.seq (.ops [q91_4]) (.block 0 (.loop opcode_span_l0))) (.seq (.ops [q91_9]) (.ret)))))
theorem opcode_span_ok : compF Tryz.prog 91 = some (23, opcode_span_c, [.t 4, .t 5]) := by kernel_rfl

@[go_sem] def q92_0 : List AI := [
 .j 3 (.mov (.c (.bool false)))]
@[go_sem] def q92_1 : List AI := [
 .j 4 (.mov (.t 0)),
 .j 5 (.faddr 4 (.t 1)),
 .j 6 (.load 1 false (.t 5)),
 .j 7 (.bin .geq (.t 4) (.t 6)),
 .j 3 (.mov (.t 7))]
@[go_sem] def proto_within_1_c : AC := .seq (.ops [q92_0]) (.seq (.ops [q92_1]) (.ret))
theorem proto_within_1_ok : compF Tryz.prog 92 = some (8, proto_within_1_c, [.t 3]) := by kernel_rfl

@[go_sem] def q93_0 : List AI := [
 .j 1 (.box 930001 5 (.t 0)),
 .j 2 (.mov (.z 0)),
 .j 3 (.mov (.c (.bool false)))]
@[go_sem] def q93_1 : List AI := [
 .j 4 (.faddr 0 (.t 1)),
 .j 5 (.load 1 false (.t 4))]
@[go_sem] def q93_2 : List AI := [
 .j 7 (.bin .eql (.t 5) (.z 2)),
 .j 6 (.mov (.t 7))]
@[go_sem] def q93_3 : List AI := [
 .j 8 (.faddr 2 (.t 1)),
 .j 9 (.load 1 false (.t 8)),
 .j 2 (.mov (.t 9)),
 .j 3 (.mov (.c (.bool false)))]
@[go_sem] def q93_4 : List AI := [
 .j 11 (.bin .eql (.t 5) (.z 7)),
 .j 10 (.mov (.t 11))]
@[go_sem] def q93_5 : List AI := [
 .j 12 (.faddr 2 (.t 1)),
 .j 13 (.load 1 false (.t 12)),
 .j 2 (.mov (.t 13)),
 .j 3 (.mov (.c (.bool true)))]
@[go_sem] def q93_6 : List AI := [
 .j 15 (.bin .eql (.t 5) (.z 8)),
 .j 14 (.mov (.t 15))]
@[go_sem] def q93_7 : List AI := [
 .j 16 (.faddr 1 (.t 1)),
 .j 17 (.load 1 false (.t 16)),
 .j 2 (.mov (.t 17)),
 .j 3 (.mov (.c (.bool true)))]
@[go_sem] def q93_8 : List AI := [
 .j 19 (.bin .eql (.t 5) (.z 11)),
 .j 18 (.mov (.t 19))]
@[go_sem] def q93_9 : List AI := [
 .j 20 (.faddr 3 (.t 1)),
 .j 21 (.load 1 false (.t 20)),
 .j 2 (.mov (.t 21)),
 .j 3 (.mov (.c (.bool true)))]
@[go_sem] def q93_10 : List AI := [
 .j 2 (.mov (.z (-1))),
 .j 3 (.mov (.c (.bool false)))]
@[go_sem] def proto_constant_c : AC := .seq (.ops [q93_0]) (.seq (.seq (.ops [q93_1]) (.block 0 (.seq (.ops [q93_2]) (.cond (.t 6) (.seq (.ops [q93_3]) (.ret)) (.seq (.ops [q93_4]) (.cond (.t 10) (.seq (.ops [q93_5]) (.ret)) (.seq (.ops [q93_6]) (.cond (.t 14) (.seq (.ops [q93_7]) (.ret)) (.seq (.ops [q93_8]) (.cond (.t 18) (.seq (.ops [q93_9]) (.ret)) (.skip))))))))))) (.seq (.ops [q93_10]) (.ret)))
theorem proto_constant_ok : compF Tryz.prog 93 = some (22, proto_constant_c, [.t 2, .t 3]) := by kernel_rfl

@[go_sem] def q105_0 : List AI := [
 .j 3 (.mov (.c (.bool false)))]
@[go_sem] def q105_1 : List AI := [
 .j 4 (.faddr 0 (.t 1)),
 .j 5 (.load 1 false (.t 4)),
 .j 6 (.mov (.t 0)),
 .j 7 (.iaddr 1 (.t 5) (.t 6)),
 .j 8 (.load 1 false (.t 7)),
 .j 9 (.un .not (.t 8)),
 .j 3 (.mov (.t 9))]
@[go_sem] def verify_reads_1_c : AC := .seq (.ops [q105_0]) (.seq (.ops [q105_1]) (.ret))
theorem verify_reads_1_ok : compF Tryz.prog 105 = some (10, verify_reads_1_c, [.t 3]) := by kernel_rfl

@[go_sem] def q106_0 : List AI := [
 .j 4 (.mov (.z 0))]
@[go_sem] def q106_1 : List AI := [
 .j 5 (.mov (.t 1)),
 .j 6 (.bin .neq (.t 5) (.z 0))]
@[go_sem] def q106_2 : List AI := [
 .j 7 (.mov (.t 1)),
 .j 8 (.mov (.t 0)),
 .j 9 (.mov (.t 1)),
 .j 10 (.bin .rem (.t 8) (.t 9)),
 .j 0 (.mov (.t 7)),
 .j 1 (.mov (.t 10))]
@[go_sem] def rational_gcd_l0' : AC := .seq (.seq (.ops [q106_1]) (.cond (.t 6) (.skip) (.exit 0))) (.block 1 (.ops [q106_2]))
def rational_gcd_l0 : AC := rational_gcd_l0'
theorem rational_gcd_l0_eq : rational_gcd_l0 = rational_gcd_l0' := rfl
@[go_sem] def q106_3 : List AI := [
 .j 11 (.mov (.t 0)),
 .j 4 (.mov (.t 11))]
@[go_sem] def rational_gcd_c : AC := .seq (.ops [q106_0]) (.seq (.block 0 (.loop rational_gcd_l0)) (.seq (.ops [q106_3]) (.ret)))
theorem rational_gcd_ok : compF Tryz.prog 106 = some (12, rational_gcd_c, [.t 4]) := by kernel_rfl

@[go_sem] def q107_0 : List AI := [
 .j 2 (.mov (.c .nils))]
@[go_sem] def q107_1 : List AI := [
 .j 3 (.mov (.z 0))]
@[go_sem] def q107_2 : List AI := [
 .j 4 (.mov (.z 1))]
@[go_sem] def q107_3 : List AI := [
 .j 5 (.mov (.c (.int .u8 0)))]
@[go_sem] def q107_4 : List AI := [
 .j 6 (.mov (.z 0))]
@[go_sem] def q107_5 : List AI := [
 .j 13 (.mov (.t 6)),
 .j 14 (.mov (.t 0)),
 .j 15 (.len 1 (.t 14)),
 .j 16 (.bin .lss (.t 13) (.t 15))]
@[go_sem] def q107_6 : List AI := [
 .j 19 (.mov (.t 0)),
 .j 20 (.mov (.t 6)),
 .j 21 (.idx (.t 19) (.t 20)),
 .j 7 (.mov (.t 21))]
@[go_sem] def q107_7 : List AI := [
 .j 22 (.mov (.t 5)),
 .j 23 (.mov (.t 7)),
 .j 24 (.bin .or (.t 22) (.t 23)),
 .j 5 (.mov (.t 24))]
@[go_sem] def q107_8 : List AI := [
 .j 25 (.mov (.t 7)),
 .j 26 (.iaddrA 256 1 (.g 0) (.t 25)),
 .j 27 (.load 1 false (.t 26)),
 .j 28 (.conv .i64 (.t 27)),
 .j 8 (.mov (.t 28))]
@[go_sem] def q107_9 : List AI := [
 .j 29 (.mov (.t 3)),
 .j 30 (.mov (.t 4)),
 .j 31 (.mov (.t 8)),
 .j 32 (.un .xor (.t 31)),
 .j 33 (.bin .and (.t 30) (.t 32)),
 .j 34 (.bin .add (.t 29) (.t 33)),
 .j 3 (.mov (.t 34))]
@[go_sem] def q107_10 : List AI := [
 .j 35 (.mov (.t 8)),
 .j 4 (.mov (.t 35))]
@[go_sem] def q107_11 : List AI := [
 .j 17 (.mov (.t 6)),
 .j 18 (.bin .add (.t 17) (.z 1)),
 .j 6 (.mov (.t 18))]
@[go_sem] def strings_Fields_l0' : AC := .seq (.seq (.ops [q107_5]) (.cond (.t 16) (.skip) (.exit 0))) (.seq (.block 1 (.seq (.ops [q107_6]) (.seq (.ops [q107_7]) (.seq (.ops [q107_8]) (.seq (.ops [q107_9]) (.ops [q107_10])))))) (.ops [q107_11]))
def strings_Fields_l0 : AC := strings_Fields_l0'
theorem strings_Fields_l0_eq : strings_Fields_l0 = strings_Fields_l0' := rfl
@[go_sem] def q107_12 : List AI := [
 .j 36 (.mov (.t 5)),
 .j 37 (.bin .geq (.t 36) (.c (.int .u8 128)))]
@[go_sem] def q107_13 : List AI := [
 .j 38 (.mov (.t 0)),
 .j 39 (.call 115 [(.t 38), (.f 116)]),
 .j 2 (.mov (.t 39))]
@[go_sem] def q107_14 : List AI := [
 .j 40 (.mov (.t 3)),
 .j 41 (.mksl 1070041 [(.str [])] (.t 40)),
 .j 9 (.mov (.t 41))]
@[go_sem] def q107_15 : List AI := [
 .j 10 (.mov (.z 0))]
@[go_sem] def q107_16 : List AI := [
 .j 11 (.mov (.z 0))]
@[go_sem] def q107_17 : List AI := [
 .j 12 (.mov (.z 0))]
@[go_sem] def q107_18 : List AI := [
 .j 42 (.mov (.t 12)),
 .j 43 (.mov (.t 0)),
 .j 44 (.len 1 (.t 43)),
 .j 45 (.bin .lss (.t 42) (.t 44)),
 .j 46 (.mov (.t 45)),
 .k 47 46 true (.mov (.t 0)),
 .k 48 46 true (.mov (.t 12)),
 .k 49 46 true (.idx (.t 47) (.t 48)),
 .k 50 46 true (.iaddrA 256 1 (.g 0) (.t 49)),
 .k 51 46 true (.load 1 false (.t 50)),
 .k 52 46 true (.bin .neq (.t 51) (.c (.int .u8 0))),
 .j 53 (.pick (.t 46) (.t 52) (.c (.bool false)))]
@[go_sem] def q107_19 : List AI := [
 .j 54 (.mov (.t 12)),
 .j 55 (.bin .add (.t 54) (.z 1)),
 .j 12 (.mov (.t 55))]
@[go_sem] def strings_Fields_l1' : AC := .seq (.seq (.ops [q107_18]) (.cond (.t 53) (.skip) (.exit 2))) (.block 3 (.ops [q107_19]))
def strings_Fields_l1 : AC := strings_Fields_l1'
theorem strings_Fields_l1_eq : strings_Fields_l1 = strings_Fields_l1' := rfl
@[go_sem] def q107_20 : List AI := [
 .j 56 (.mov (.t 12)),
 .j 11 (.mov (.t 56))]
@[go_sem] def q107_21 : List AI := [
 .j 57 (.mov (.t 12)),
 .j 58 (.mov (.t 0)),
 .j 59 (.len 1 (.t 58)),
 .j 60 (.bin .lss (.t 57) (.t 59))]
@[go_sem] def q107_22 : List AI := [
 .j 61 (.mov (.t 0)),
 .j 62 (.mov (.t 12)),
 .j 63 (.idx (.t 61) (.t 62)),
 .j 64 (.iaddrA 256 1 (.g 0) (.t 63)),
 .j 65 (.load 1 false (.t 64)),
 .j 66 (.bin .eql (.t 65) (.c (.int .u8 0)))]
@[go_sem] def q107_23 : List AI := [
 .j 67 (.mov (.t 12)),
 .j 68 (.bin .add (.t 67) (.z 1)),
 .j 12 (.mov (.t 68))]
@[go_sem] def q107_24 : List AI := [
 .j 69 (.mov (.t 9)),
 .j 70 (.mov (.t 10)),
 .j 71 (.mov (.t 0)),
 .j 72 (.mov (.t 11)),
 .j 73 (.mov (.t 12)),
 .j 74 (.sls (.t 71) (some (.t 72)) (some (.t 73))),
 .j 75 (.iaddr 1 (.t 69) (.t 70)),
 .e (.store 1 (.t 75) (.t 74))]
@[go_sem] def q107_25 : List AI := [
 .j 76 (.mov (.t 10)),
 .j 77 (.bin .add (.t 76) (.z 1)),
 .j 10 (.mov (.t 77))]
@[go_sem] def q107_26 : List AI := [
 .j 78 (.mov (.t 12)),
 .j 79 (.bin .add (.t 78) (.z 1)),
 .j 12 (.mov (.t 79))]
@[go_sem] def q107_27 : List AI := [
 .j 80 (.mov (.t 12)),
 .j 81 (.mov (.t 0)),
 .j 82 (.len 1 (.t 81)),
 .j 83 (.bin .lss (.t 80) (.t 82)),
 .j 84 (.mov (.t 83)),
 .k 85 84 true (.mov (.t 0)),
 .k 86 84 true (.mov (.t 12)),
 .k 87 84 true (.idx (.t 85) (.t 86)),
 .k 88 84 true (.iaddrA 256 1 (.g 0) (.t 87)),
 .k 89 84 true (.load 1 false (.t 88)),
 .k 90 84 true (.bin .neq (.t 89) (.c (.int .u8 0))),
 .j 91 (.pick (.t 84) (.t 90) (.c (.bool false)))]
@[go_sem] def q107_28 : List AI := [
 .j 92 (.mov (.t 12)),
 .j 93 (.bin .add (.t 92) (.z 1)),
 .j 12 (.mov (.t 93))]
@[go_sem] def strings_Fields_l3' : AC := .seq (.seq (.ops [q107_27]) (.cond (.t 91) (.skip) (.exit 6))) (.block 7 (.ops [q107_28]))
def strings_Fields_l3 : AC := strings_Fields_l3'
theorem strings_Fields_l3_eq : strings_Fields_l3 = strings_Fields_l3' := rfl
@[go_sem] def q107_29 : List AI := [
 .j 94 (.mov (.t 12)),
 .j 11 (.mov (.t 94))]
@[go_sem] def strings_Fields_l2' : AC := .seq (.seq (.ops [q107_21]) (.cond (.t 60) (.skip) (.exit 4))) (.block 5 (.seq (.seq (.ops [q107_22]) (.cond (.t 66) (.seq (.ops [q107_23]) (.exit 5)) (.skip))) (.seq (.ops [q107_24]) (.seq (.ops [q107_25]) (.seq (.ops [q107_26]) (.seq (.block 6 (.loop strings_Fields_l3)) (.ops [q107_29])))))))
def strings_Fields_l2 : AC := strings_Fields_l2'
theorem strings_Fields_l2_eq : strings_Fields_l2 = strings_Fields_l2' := rfl
@[go_sem] def q107_30 : List AI := [
 .j 95 (.mov (.t 11)),
 .j 96 (.mov (.t 0)),
 .j 97 (.len 1 (.t 96)),
 .j 98 (.bin .lss (.t 95) (.t 97))]
@[go_sem] def q107_31 : List AI := [
 .j 99 (.mov (.t 9)),
 .j 100 (.mov (.t 10)),
 .j 101 (.mov (.t 0)),
 .j 102 (.mov (.t 11)),
 .j 103 (.sls (.t 101) (some (.t 102)) none),
 .j 104 (.iaddr 1 (.t 99) (.t 100)),
 .e (.store 1 (.t 104) (.t 103))]
@[go_sem] def q107_32 : List AI := [
 .j 105 (.mov (.t 9)),
 .j 2 (.mov (.t 105))]
@[go_sem] def strings_Fields_c : AC := .seq (.ops [q107_0]) (.seq (.ops [q107_1]) (.seq (.ops [q107_2]) (.seq (.ops [q107_3]) (.seq (.seq (.ops [q107_4]) (.block 0 (.loop strings_Fields_l0))) (.seq (.seq (.ops [q107_12]) (.cond (.t 37) (.seq (.ops [q107_13]) (.ret)) (.skip))) (.seq (.ops [q107_14]) (.seq (.ops [q107_15]) (.seq (.ops [q107_16]) (.seq (.ops [q107_17]) (.seq (.block 2 (.loop strings_Fields_l1)) (.seq (.ops [q107_20]) (.seq (.block 4 (.loop strings_Fields_l2)) (.seq (.seq (.ops [q107_30]) (.cond (.t 98) (.ops [q107_31]) (.skip))) (.seq (.ops [q107_32]) (.ret)))))))))))))))
theorem strings_Fields_ok : compF Tryz.prog 107 = some (106, strings_Fields_c, [.t 2]) := by kernel_rfl

@[go_sem] def q108_0 : List AI := [
 .j 2 (.box 1080002 6 (.c (.agg [(.str []), (.int .i64 0), (.int .i64 0), (.int .i64 0), (.int .i64 0), (.int .i64 0)])))]
@[go_sem] def q108_1 : List AI := [
 .j 3 (.mov (.t 0))]
@[go_sem] def q108_2 : List AI := [
 .j 5 (.bin .eql (.t 3) (.z 1)),
 .j 4 (.mov (.t 5))]
@[go_sem] def q108_3 : List AI := [
 .j 6 (.build [(.str []), (.int .i64 0), (.int .i64 0), (.int .i64 0), (.int .i64 0), (.int .i64 0)] [(1, 1, (.z 1)), (2, 1, (.z 1))]),
 .e (.store 6 (.t 2) (.t 6))]
@[go_sem] def q108_4 : List AI := [
 .j 8 (.bin .eql (.t 3) (.z 2)),
 .j 7 (.mov (.t 8))]
@[go_sem] def q108_5 : List AI := [
 .j 9 (.bin .eql (.t 3) (.z 7)),
 .j 7 (.mov (.t 9))]
@[go_sem] def q108_6 : List AI := [
 .j 10 (.build [(.str []), (.int .i64 0), (.int .i64 0), (.int .i64 0), (.int .i64 0), (.int .i64 0)] [(1, 1, (.z 1)), (2, 1, (.z 2))]),
 .e (.store 6 (.t 2) (.t 10))]
@[go_sem] def q108_7 : List AI := [
 .j 12 (.bin .eql (.t 3) (.z 3)),
 .j 11 (.mov (.t 12))]
@[go_sem] def q108_8 : List AI := [
 .j 13 (.build [(.str []), (.int .i64 0), (.int .i64 0), (.int .i64 0), (.int .i64 0), (.int .i64 0)] [(1, 1, (.z 1)), (2, 1, (.z 1))]),
 .e (.store 6 (.t 2) (.t 13))]
@[go_sem] def q108_9 : List AI := [
 .j 15 (.bin .eql (.t 3) (.z 4)),
 .j 14 (.mov (.t 15))]
@[go_sem] def q108_10 : List AI := [
 .j 16 (.build [(.str []), (.int .i64 0), (.int .i64 0), (.int .i64 0), (.int .i64 0), (.int .i64 0)] [(1, 1, (.z 1)), (2, 1, (.z 8))]),
 .e (.store 6 (.t 2) (.t 16))]
@[go_sem] def q108_11 : List AI := [
 .j 18 (.bin .eql (.t 3) (.z 5)),
 .j 17 (.mov (.t 18))]
@[go_sem] def q108_12 : List AI := [
 .j 19 (.build [(.str []), (.int .i64 0), (.int .i64 0), (.int .i64 0), (.int .i64 0), (.int .i64 0)] [(1, 1, (.z 1)), (2, 1, (.z 3))]),
 .e (.store 6 (.t 2) (.t 19))]
@[go_sem] def q108_13 : List AI := [
 .j 21 (.bin .eql (.t 3) (.z 6)),
 .j 20 (.mov (.t 21))]
@[go_sem] def q108_14 : List AI := [
 .j 22 (.build [(.str []), (.int .i64 0), (.int .i64 0), (.int .i64 0), (.int .i64 0), (.int .i64 0)] [(1, 1, (.z 3)), (2, 1, (.z 1))]),
 .e (.store 6 (.t 2) (.t 22))]
@[go_sem] def q108_15 : List AI := [
 .j 24 (.bin .eql (.t 3) (.z 8)),
 .j 23 (.mov (.t 24))]
@[go_sem] def q108_16 : List AI := [
 .j 25 (.build [(.str []), (.int .i64 0), (.int .i64 0), (.int .i64 0), (.int .i64 0), (.int .i64 0)] [(1, 1, (.z 2)), (2, 1, (.z 1))]),
 .e (.store 6 (.t 2) (.t 25))]
@[go_sem] def q108_17 : List AI := [
 .j 27 (.bin .eql (.t 3) (.z 9)),
 .j 26 (.mov (.t 27))]
@[go_sem] def q108_18 : List AI := [
 .j 28 (.bin .eql (.t 3) (.z 10)),
 .j 26 (.mov (.t 28))]
@[go_sem] def q108_19 : List AI := [
 .j 29 (.build [(.str []), (.int .i64 0), (.int .i64 0), (.int .i64 0), (.int .i64 0), (.int .i64 0)] [(1, 1, (.z 1)), (2, 1, (.z 1)), (3, 1, (.z 1))]),
 .e (.store 6 (.t 2) (.t 29))]
@[go_sem] def q108_20 : List AI := [
 .j 31 (.bin .eql (.t 3) (.z 11)),
 .j 30 (.mov (.t 31))]
@[go_sem] def q108_21 : List AI := [
 .j 32 (.build [(.str []), (.int .i64 0), (.int .i64 0), (.int .i64 0), (.int .i64 0), (.int .i64 0)] [(1, 1, (.z 1)), (2, 1, (.z 1)), (3, 1, (.z 2)), (5, 1, (.z 1))]),
 .e (.store 6 (.t 2) (.t 32))]
@[go_sem] def q108_22 : List AI := [
 .j 34 (.bin .eql (.t 3) (.z 12)),
 .j 33 (.mov (.t 34))]
@[go_sem] def q108_23 : List AI := [
 .j 35 (.build [(.str []), (.int .i64 0), (.int .i64 0), (.int .i64 0), (.int .i64 0), (.int .i64 0)] [(1, 1, (.z 1)), (2, 1, (.z 1)), (3, 1, (.z 9))]),
 .e (.store 6 (.t 2) (.t 35))]
@[go_sem] def q108_24 : List AI := [
 .j 37 (.bin .eql (.t 3) (.z 13)),
 .j 36 (.mov (.t 37))]
@[go_sem] def q108_25 : List AI := [
 .j 38 (.build [(.str []), (.int .i64 0), (.int .i64 0), (.int .i64 0), (.int .i64 0), (.int .i64 0)] [(1, 1, (.z 1)), (2, 1, (.z 1)), (3, 1, (.z 1)), (4, 1, (.z 10))]),
 .e (.store 6 (.t 2) (.t 38))]
@[go_sem] def q108_26 : List AI := [
 .j 40 (.bin .eql (.t 3) (.z 14)),
 .j 39 (.mov (.t 40))]
@[go_sem] def q108_27 : List AI := [
 .j 41 (.build [(.str []), (.int .i64 0), (.int .i64 0), (.int .i64 0), (.int .i64 0), (.int .i64 0)] [(2, 1, (.z 5))]),
 .e (.store 6 (.t 2) (.t 41))]
@[go_sem] def q108_28 : List AI := [
 .j 43 (.bin .eql (.t 3) (.z 15)),
 .j 42 (.mov (.t 43))]
@[go_sem] def q108_29 : List AI := [
 .j 44 (.build [(.str []), (.int .i64 0), (.int .i64 0), (.int .i64 0), (.int .i64 0), (.int .i64 0)] [(1, 1, (.z 1)), (2, 1, (.z 5)), (3, 1, (.z 8))]),
 .e (.store 6 (.t 2) (.t 44))]
@[go_sem] def q108_30 : List AI := [
 .j 46 (.bin .eql (.t 3) (.z 16)),
 .j 45 (.mov (.t 46))]
@[go_sem] def q108_31 : List AI := [
 .j 47 (.build [(.str []), (.int .i64 0), (.int .i64 0), (.int .i64 0), (.int .i64 0), (.int .i64 0)] [(1, 1, (.z 1)), (2, 1, (.z 7)), (3, 1, (.z 6))]),
 .e (.store 6 (.t 2) (.t 47))]
@[go_sem] def q108_32 : List AI := [
 .j 49 (.bin .eql (.t 3) (.z 17)),
 .j 48 (.mov (.t 49))]
@[go_sem] def q108_33 : List AI := [
 .j 50 (.bin .eql (.t 3) (.z 18)),
 .j 48 (.mov (.t 50))]
@[go_sem] def q108_34 : List AI := [
 .j 51 (.build [(.str []), (.int .i64 0), (.int .i64 0), (.int .i64 0), (.int .i64 0), (.int .i64 0)] [(1, 1, (.z 1)), (2, 1, (.z 7))]),
 .e (.store 6 (.t 2) (.t 51))]
@[go_sem] def q108_35 : List AI := [
 .j 53 (.bin .eql (.t 3) (.z 19)),
 .j 52 (.mov (.t 53))]
@[go_sem] def q108_36 : List AI := [
 .j 54 (.build [(.str []), (.int .i64 0), (.int .i64 0), (.int .i64 0), (.int .i64 0), (.int .i64 0)] [(1, 1, (.z 1)), (2, 1, (.z 6))]),
 .e (.store 6 (.t 2) (.t 54))]
@[go_sem] def q108_37 : List AI := [
 .j 56 (.bin .eql (.t 3) (.z 21)),
 .j 55 (.mov (.t 56))]
@[go_sem] def q108_38 : List AI := [
 .j 57 (.build [(.str []), (.int .i64 0), (.int .i64 0), (.int .i64 0), (.int .i64 0), (.int .i64 0)] [(1, 1, (.z 1)), (2, 1, (.z 7)), (3, 1, (.z 12))]),
 .e (.store 6 (.t 2) (.t 57))]
@[go_sem] def q108_39 : List AI := [
 .j 59 (.bin .eql (.t 3) (.z 22)),
 .j 58 (.mov (.t 59))]
@[go_sem] def q108_40 : List AI := [
 .j 60 (.build [(.str []), (.int .i64 0), (.int .i64 0), (.int .i64 0), (.int .i64 0), (.int .i64 0)] [(1, 1, (.z 1)), (2, 1, (.z 4))]),
 .e (.store 6 (.t 2) (.t 60))]
@[go_sem] def q108_41 : List AI := [
 .j 62 (.bin .eql (.t 3) (.z 23)),
 .j 61 (.mov (.t 62))]
@[go_sem] def q108_42 : List AI := [
 .j 63 (.bin .eql (.t 3) (.z 24)),
 .j 61 (.mov (.t 63))]
@[go_sem] def q108_43 : List AI := [
 .j 64 (.bin .eql (.t 3) (.z 26)),
 .j 61 (.mov (.t 64))]
@[go_sem] def q108_44 : List AI := [
 .j 65 (.build [(.str []), (.int .i64 0), (.int .i64 0), (.int .i64 0), (.int .i64 0), (.int .i64 0)] [(1, 1, (.z 1)), (2, 1, (.z 5)), (5, 1, (.z 3))]),
 .e (.store 6 (.t 2) (.t 65))]
@[go_sem] def q108_45 : List AI := [
 .j 67 (.bin .eql (.t 3) (.z 25)),
 .j 66 (.mov (.t 67))]
@[go_sem] def q108_46 : List AI := [
 .j 68 (.build [(.str []), (.int .i64 0), (.int .i64 0), (.int .i64 0), (.int .i64 0), (.int .i64 0)] [(1, 1, (.z 1)), (3, 1, (.z 11)), (5, 1, (.z 3))]),
 .e (.store 6 (.t 2) (.t 68))]
@[go_sem] def q108_47 : List AI := [
 .j 70 (.bin .eql (.t 3) (.z 20)),
 .j 69 (.mov (.t 70))]
@[go_sem] def q108_48 : List AI := [
 .j 71 (.bin .eql (.t 3) (.z 27)),
 .j 69 (.mov (.t 71))]
@[go_sem] def q108_49 : List AI := [
 .j 72 (.bin .eql (.t 3) (.z 28)),
 .j 69 (.mov (.t 72))]
@[go_sem] def q108_50 : List AI := [
 .j 73 (.build [(.str []), (.int .i64 0), (.int .i64 0), (.int .i64 0), (.int .i64 0), (.int .i64 0)] [(1, 1, (.z 1))]),
 .e (.store 6 (.t 2) (.t 73))]
@[go_sem] def q108_51 : List AI := [
 .j 74 (.build [(.str []), (.int .i64 0), (.int .i64 0), (.int .i64 0), (.int .i64 0), (.int .i64 0)] [(1, 1, (.z 8))]),
 .e (.store 6 (.t 2) (.t 74))]
@[go_sem] def opcode_shape_c : AC := .seq (.ops [q108_0]) (.seq (.seq (.ops [q108_1]) (.block 0 (.seq (.ops [q108_2]) (.cond (.t 4) (.seq (.ops [q108_3]) (.ret)) (.seq (.seq (.ops [q108_4]) (.cond (.t 7) (.skip) (.ops [q108_5]))) (.cond (.t 7) (.seq (.ops [q108_6]) (.ret)) (.seq (.ops [q108_7]) (.cond (.t 11) (.seq (.ops [q108_8]) (.ret)) (.seq (.ops [q108_9]) (.cond (.t 14) (.seq (.ops [q108_10]) (.ret)) (.seq (.ops [q108_11]) (.cond (.t 17) (.seq (.ops [q108_12]) (.ret)) (.seq (.ops [q108_13]) (.cond (.t 20) (.seq (.ops [q108_14]) (.ret)) (.seq (.ops [q108_15]) (.cond (.t 23) (.seq (.ops [q108_16]) (.ret)) (.seq (.seq (.ops [q108_17]) (.cond (.t 26) (.skip) (.ops [q108_18]))) (.cond (.t 26) (.seq (.ops [q108_19]) (.ret)) (.seq (.ops [q108_20]) (.cond (.t 30) (.seq (.ops [q108_21]) (.ret)) (.seq (.ops [q108_22]) (.cond (.t 33) (.seq (.ops [q108_23]) (.ret)) (.seq (.ops [q108_24]) (.cond (.t 36) (.seq (.ops [q108_25]) (.ret)) (.seq (.ops [q108_26]) (.cond (.t 39) (.seq (.ops [q108_27]) (.ret)) (.seq (.ops [q108_28]) (.cond (.t 42) (.seq (.ops [q108_29]) (.ret)) (.seq (.ops [q108_30]) (.cond (.t 45) (.seq (.ops [q108_31]) (.ret)) (.seq (.seq (.ops [q108_32]) (.cond (.t 48) (.skip) (.ops [q108_33]))) (.cond (.t 48) (.seq (.ops [q108_34]) (.ret)) (.seq (.ops [q108_35]) (.cond (.t 52) (.seq (.ops [q108_36]) (.ret)) (.seq (.ops [q108_37]) (.cond (.t 55) (.seq (.ops [q108_38]) (.ret)) (.seq (.ops [q108_39]) (.cond (.t 58) (.seq (.ops [q108_40]) (.ret)) (.seq (.seq (.ops [q108_41]) (.cond (.t 61) (.skip) (.seq (.ops [q108_42]) (.cond (.t 61) (.skip) (.ops [q108_43]))))) (.cond (.t 61) (.seq (.ops [q108_44]) (.ret)) (.seq (.ops [q108_45]) (.cond (.t 66) (.seq (.ops [q108_46]) (.ret)) (.seq (.seq (.ops [q108_47]) (.cond (.t 69) (.skip) (.seq (.ops [q108_48]) (.cond (.t 69) (.skip) (.ops [q108_49]))))) (.cond (.t 69) (.seq (.ops [q108_50]) (.ret)) (.skip))))))))))))))))))))))))))))))))))))))))))))) (.seq (.ops [q108_51]) (.ret)))
theorem opcode_shape_ok : compF Tryz.prog 108 = some (75, opcode_shape_c, [.c 2 6 true]) := by kernel_rfl



/-- The functions by number. -/
def exT : List (FuncId × Nat × AC × List RV) := [
  (3, 75, scriptinglaw36_VerifyJumps_c, [.t 2]),
  (4, 124, scriptinglaw36_VerifyReads_c, [.t 2]),
  (5, 10, scriptinglaw36_large_c, [.t 2]),
  (6, 13, verify_Check_c, [.t 2]),
  (7, 18, scriptinglaw36_lives_c, [.t 0]),
  (8, 66, scriptingref35_Reach_c, [.t 2]),
  (9, 63, scriptingref35_Next_c, [.t 4]),
  (10, 41, verify_States_c, [.t 2, .t 3]),
  (11, 90, scriptingref32_Reads_c, [.t 2, .t 3]),
  (12, 51, scriptinglaw33_Large_c, [.t 2]),
  (13, 23, verify_Explain_c, [.t 2, .t 3, .t 4]),
  (14, 14, scriptingref32_Target_c, [.t 2, .t 3]),
  (15, 16, scriptingref32_Falls_c, [.t 2]),
  (16, 49, scriptingref35_Put_c, [.t 4]),
  (17, 16, proto_Check_c, [.c 2 1 false]),
  (18, 56, verify_states_c, [.t 4]),
  (19, 30, verify_edges_c, [.t 2]),
  (20, 73, scriptingref32_Check_c, [.t 2]),
  (21, 19, scriptingref32_set_c, [.t 2]),
  (22, 16, scriptingref32_open_c, [.t 6, .t 7]),
  (23, 42, verify_search_c, [.t 4, .t 5, .t 6]),
  (24, 20, proto_depth_c, [.t 2]),
  (25, 4, proto_Each_c, [.t 2]),
  (26, 74, proto_single_c, [.t 2]),
  (27, 20, verify_entry_c, [.c 2 3 true]),
  (28, 67, verify_passed_c, [.c 6 3 true]),
  (29, 32, verify_join_c, [.t 4]),
  (30, 65, flow_Next_c, [.t 4]),
  (31, 65, scriptingref32_data_c, [.c 2 13 true]),
  (32, 12, scriptingref32_fields_c, [.c 2 4 true]),
  (33, 46, scriptingref32_limit_c, [.t 2]),
  (34, 49, scriptingref32_put_c, [.t 4]),
  (35, 20, scriptingref32_span_c, [.t 6]),
  (36, 21, verify_first_c, [.t 2]),
  (37, 8, slices_Clone_int_int_c, [.t 2]),
  (38, 7, proto_Each_1_c, []),
  (39, 23, proto_walk_c, [.t 4]),
  (40, 42, proto_copied_c, [.c 2 11 true]),
  (41, 53, proto_limits_c, [.t 2]),
  (42, 118, proto_form_c, [.t 2]),
  (43, 60, proto_instruction_c, [.t 4]),
  (44, 75, verify_effect_c, [.c 4 3 true]),
  (45, 14, opcode_Target_c, [.t 2, .t 3]),
  (46, 16, opcode_Falls_c, [.t 2]),
  (47, 11, slices_Sort_int_int_c, []),
  (48, 61, slices_Compact_int_int_c, [.t 2]),
  (49, 17, scriptingref32_ab_c, [.c 8 13 true]),
  (50, 23, scriptingref32_abc_c, [.c 8 13 true]),
  (51, 70, scriptingref32_later_c, [.c 2 13 true]),
  (52, 109, verify_violates_c, [.t 6]),
  (53, 8, slices_Clone_api_Instr_api_Instr_c, [.t 2]),
  (54, 8, slices_Clone_api_Value_api_Value_c, [.t 2]),
  (55, 8, slices_Clone_api_Up_api_Up_c, [.t 2]),
  (56, 8, slices_Clone_api_Var_api_Var_c, [.t 2]),
  (57, 6, proto_limits_1_c, [.t 2]),
  (58, 9, slices_ContainsFunc_api_Up_api_Up_c, [.t 4]),
  (59, 8, proto_limits_2_c, [.t 3]),
  (60, 9, slices_ContainsFunc_api_Var_api_Var_c, [.t 4]),
  (61, 8, proto_limits_3_c, [.t 3]),
  (62, 9, slices_ContainsFunc_int_int_c, [.t 4]),
  (63, 5, proto_form_1_c, [.t 2]),
  (64, 6, proto_form_2_c, [.t 2]),
  (65, 74, value_Valid_c, [.t 2]),
  (66, 85, opcode_Check_c, [.t 2]),
  (67, 88, opcode_Reads_c, [.t 2, .t 3]),
  (68, 92, opcode_Writes_c, [.t 2, .t 3]),
  (69, 17, proto_within_c, [.t 6]),
  (70, 63, proto_refers_c, [.t 4]),
  (71, 8, slices_Clone_bool_bool_c, [.t 2]),
  (72, 15, verify_unset_c, []),
  (73, 42, slices_DeleteFunc_int_int_c, [.t 4]),
  (74, 8, verify_effect_1_c, [.t 3]),
  (77, 10, scriptingref32_a_c, [.c 4 13 true]),
  (78, 5, scriptingref32_none_c, [.c 2 13 true]),
  (79, 71, verify_reads_c, [.t 6]),
  (80, 8, verify_violates_1_c, [.t 3]),
  (81, 26, slices_Equal_int_int_c, [.t 4]),
  (82, 19, slices_IndexFunc_api_Up_api_Up_c, [.t 4]),
  (83, 19, slices_IndexFunc_api_Var_api_Var_c, [.t 4]),
  (84, 19, slices_IndexFunc_int_int_c, [.t 4]),
  (85, 33, rational_Valid_c, [.t 2]),
  (86, 25, opcode_of_c, [.c 2 6 true, .t 3]),
  (87, 24, opcode_fields_c, [.c 4 4 true, .c 5 4 true]),
  (88, 29, opcode_between_c, [.t 2, .t 3]),
  (89, 53, opcode_last_c, [.t 4]),
  (90, 7, opcode_sorted_c, [.t 2]),
  (91, 23, opcode_span_c, [.t 4, .t 5]),
  (92, 8, proto_within_1_c, [.t 3]),
  (93, 22, proto_constant_c, [.t 2, .t 3]),
  (105, 10, verify_reads_1_c, [.t 3]),
  (106, 12, rational_gcd_c, [.t 4]),
  (107, 106, strings_Fields_c, [.t 2]),
  (108, 75, opcode_shape_c, [.c 2 6 true])]
theorem exT_ok : TabOK Tryz.prog exT := 
  (TabOK.cons scriptinglaw36_VerifyJumps_ok 
  (TabOK.cons scriptinglaw36_VerifyReads_ok 
  (TabOK.cons scriptinglaw36_large_ok 
  (TabOK.cons verify_Check_ok 
  (TabOK.cons scriptinglaw36_lives_ok 
  (TabOK.cons scriptingref35_Reach_ok 
  (TabOK.cons scriptingref35_Next_ok 
  (TabOK.cons verify_States_ok 
  (TabOK.cons scriptingref32_Reads_ok 
  (TabOK.cons scriptinglaw33_Large_ok 
  (TabOK.cons verify_Explain_ok 
  (TabOK.cons scriptingref32_Target_ok 
  (TabOK.cons scriptingref32_Falls_ok 
  (TabOK.cons scriptingref35_Put_ok 
  (TabOK.cons proto_Check_ok 
  (TabOK.cons verify_states_ok 
  (TabOK.cons verify_edges_ok 
  (TabOK.cons scriptingref32_Check_ok 
  (TabOK.cons scriptingref32_set_ok 
  (TabOK.cons scriptingref32_open_ok 
  (TabOK.cons verify_search_ok 
  (TabOK.cons proto_depth_ok 
  (TabOK.cons proto_Each_ok 
  (TabOK.cons proto_single_ok 
  (TabOK.cons verify_entry_ok 
  (TabOK.cons verify_passed_ok 
  (TabOK.cons verify_join_ok 
  (TabOK.cons flow_Next_ok 
  (TabOK.cons scriptingref32_data_ok 
  (TabOK.cons scriptingref32_fields_ok 
  (TabOK.cons scriptingref32_limit_ok 
  (TabOK.cons scriptingref32_put_ok 
  (TabOK.cons scriptingref32_span_ok 
  (TabOK.cons verify_first_ok 
  (TabOK.cons slices_Clone_int_int_ok 
  (TabOK.cons proto_Each_1_ok 
  (TabOK.cons proto_walk_ok 
  (TabOK.cons proto_copied_ok 
  (TabOK.cons proto_limits_ok 
  (TabOK.cons proto_form_ok 
  (TabOK.cons proto_instruction_ok 
  (TabOK.cons verify_effect_ok 
  (TabOK.cons opcode_Target_ok 
  (TabOK.cons opcode_Falls_ok 
  (TabOK.cons slices_Sort_int_int_ok 
  (TabOK.cons slices_Compact_int_int_ok 
  (TabOK.cons scriptingref32_ab_ok 
  (TabOK.cons scriptingref32_abc_ok 
  (TabOK.cons scriptingref32_later_ok 
  (TabOK.cons verify_violates_ok 
  (TabOK.cons slices_Clone_api_Instr_api_Instr_ok 
  (TabOK.cons slices_Clone_api_Value_api_Value_ok 
  (TabOK.cons slices_Clone_api_Up_api_Up_ok 
  (TabOK.cons slices_Clone_api_Var_api_Var_ok 
  (TabOK.cons proto_limits_1_ok 
  (TabOK.cons slices_ContainsFunc_api_Up_api_Up_ok 
  (TabOK.cons proto_limits_2_ok 
  (TabOK.cons slices_ContainsFunc_api_Var_api_Var_ok 
  (TabOK.cons proto_limits_3_ok 
  (TabOK.cons slices_ContainsFunc_int_int_ok 
  (TabOK.cons proto_form_1_ok 
  (TabOK.cons proto_form_2_ok 
  (TabOK.cons value_Valid_ok 
  (TabOK.cons opcode_Check_ok 
  (TabOK.cons opcode_Reads_ok 
  (TabOK.cons opcode_Writes_ok 
  (TabOK.cons proto_within_ok 
  (TabOK.cons proto_refers_ok 
  (TabOK.cons slices_Clone_bool_bool_ok 
  (TabOK.cons verify_unset_ok 
  (TabOK.cons slices_DeleteFunc_int_int_ok 
  (TabOK.cons verify_effect_1_ok 
  (TabOK.cons scriptingref32_a_ok 
  (TabOK.cons scriptingref32_none_ok 
  (TabOK.cons verify_reads_ok 
  (TabOK.cons verify_violates_1_ok 
  (TabOK.cons slices_Equal_int_int_ok 
  (TabOK.cons slices_IndexFunc_api_Up_api_Up_ok 
  (TabOK.cons slices_IndexFunc_api_Var_api_Var_ok 
  (TabOK.cons slices_IndexFunc_int_int_ok 
  (TabOK.cons rational_Valid_ok 
  (TabOK.cons opcode_of_ok 
  (TabOK.cons opcode_fields_ok 
  (TabOK.cons opcode_between_ok 
  (TabOK.cons opcode_last_ok 
  (TabOK.cons opcode_sorted_ok 
  (TabOK.cons opcode_span_ok 
  (TabOK.cons proto_within_1_ok 
  (TabOK.cons proto_constant_ok 
  (TabOK.cons verify_reads_1_ok 
  (TabOK.cons rational_gcd_ok 
  (TabOK.cons strings_Fields_ok 
  (TabOK.cons opcode_shape_ok TabOK.nil)))))))))))))))))))))))))))))))))))))))))))))))))))))))))))))))))))))))))))))))))))))))))))))

end Go.Proofs.YtkcehagdbecolaaGreatDoor
