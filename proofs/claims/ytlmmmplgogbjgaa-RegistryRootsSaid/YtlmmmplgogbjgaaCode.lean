/-
  The code of the functions that this seat reaches, translated into abstract code (printed by a program, each proved to be the translation). No condition.
-/
import Derived.Test.YtlmmmplgogbjgaaExe
import Derived.Test.YtlmmmplgogbjgaaChecked
set_option maxRecDepth 1000000
namespace Go.Proofs.Ytlmmmplgogbjgaa
open Go.Abs

@[go_sem] def q3_0 : List AI := [
 .j 2 (.mov (.c (.bool false)))]
@[go_sem] def q3_1 : List AI := [
 .j 6 (.mov (.t 0)),
 .j 7 (.call 5 [(.t 6)])]
@[go_sem] def q3_2 : List AI := [
 .j 8 (.call 6 []),
 .j 2 (.mov (.t 8))]
@[go_sem] def q3_3 : List AI := [
 .j 9 (.call 7 []),
 .j 10 (.call 8 []),
 .j 3 (.mov (.t 9)),
 .j 4 (.mov (.t 10))]
@[go_sem] def q3_4 : List AI := [
 .j 11 (.mov (.t 3)),
 .j 12 (.eqp 0 false (.t 11) (.c .nilp))]
@[go_sem] def q3_5 : List AI := [
 .j 2 (.mov (.c (.bool false)))]
@[go_sem] def q3_6 : List AI := [
 .j 5 (.mov (.z 0))]
@[go_sem] def q3_7 : List AI := [
 .j 13 (.mov (.t 5)),
 .j 14 (.mov (.t 0)),
 .j 15 (.len 0 (.t 14)),
 .j 16 (.bin .lss (.t 13) (.t 15))]
@[go_sem] def q3_8 : List AI := [
 .j 19 (.mov (.t 3)),
 .j 20 (.mov (.t 4)),
 .j 21 (.mov (.t 0)),
 .j 22 (.mov (.t 5)),
 .j 23 (.iaddr 8 (.t 21) (.t 22)),
 .j 24 (.load 8 true (.t 23)),
 .j 25 (.call 9 [(.t 19), (.t 20), (.t 24)]),
 .j 26 (.un .not (.t 25)),
 .j 27 (.mov (.t 26)),
 .k 28 27 false (.mov (.t 3)),
 .k 29 27 false (.mov (.t 4)),
 .k 30 27 false (.call 10 [(.t 28), (.t 29)]),
 .k 31 27 false (.un .not (.t 30)),
 .j 32 (.pick (.t 27) (.c (.bool true)) (.t 31))]
@[go_sem] def q3_9 : List AI := [
 .j 2 (.mov (.c (.bool false)))]
@[go_sem] def q3_10 : List AI := [
 .j 17 (.mov (.t 5)),
 .j 18 (.bin .add (.t 17) (.z 1)),
 .j 5 (.mov (.t 18))]
@[go_sem] def scriptinglaw18_RegistryPlays_l0' : AC := .seq (.seq (.ops [q3_7]) (.cond (.t 16) (.skip) (.exit 0))) (.seq (.block 1 (.seq (.ops [q3_8]) (.cond (.t 32) (.seq (.ops [q3_9]) (.ret)) (.skip)))) (.ops [q3_10]))
def scriptinglaw18_RegistryPlays_l0 : AC := scriptinglaw18_RegistryPlays_l0'
theorem scriptinglaw18_RegistryPlays_l0_eq : scriptinglaw18_RegistryPlays_l0 = scriptinglaw18_RegistryPlays_l0' := rfl
@[go_sem] def q3_11 : List AI := [
 .j 33 (.call 6 []),
 .j 2 (.mov (.t 33))]
@[go_sem] def scriptinglaw18_RegistryPlays_c : AC := .seq (.ops [q3_0]) (.seq (.seq (.ops [q3_1]) (.cond (.t 7) (.seq (.ops [q3_2]) (.ret)) (.skip))) (.seq (.ops [q3_3]) (.seq (.seq (.ops [q3_4]) (.cond (.t 12) (.seq (.ops [q3_5]) (.ret)) (.skip))) (.seq (.seq (.ops [q3_6]) (.block 0 (.loop scriptinglaw18_RegistryPlays_l0))) (.seq (.ops [q3_11]) (.ret))))))
theorem scriptinglaw18_RegistryPlays_ok : compF Try.prog 3 = some (34, scriptinglaw18_RegistryPlays_c, [.t 2]) := by kernel_rfl

@[go_sem] def q4_0 : List AI := [
 .j 2 (.mov (.c (.bool false)))]
@[go_sem] def q4_1 : List AI := [
 .j 14 (.mov (.t 0)),
 .j 15 (.call 5 [(.t 14)])]
@[go_sem] def q4_2 : List AI := [
 .j 16 (.call 6 []),
 .j 2 (.mov (.t 16))]
@[go_sem] def q4_3 : List AI := [
 .j 18 (.mov (.t 0)),
 .j 19 (.call 11 [(.t 18)]),
 .j 17 (.mov (.t 19)),
 .j 20 (.ext 0 (.t 17)),
 .j 21 (.ext 1 (.t 17)),
 .j 22 (.ext 2 (.t 17)),
 .j 3 (.mov (.t 20)),
 .j 4 (.mov (.t 21)),
 .j 5 (.mov (.t 22))]
@[go_sem] def q4_4 : List AI := [
 .j 23 (.mov (.t 5)),
 .j 24 (.un .not (.t 23))]
@[go_sem] def q4_5 : List AI := [
 .j 2 (.mov (.c (.bool false)))]
@[go_sem] def q4_6 : List AI := [
 .j 6 (.mov (.c .nils))]
@[go_sem] def q4_7 : List AI := [
 .j 7 (.mov (.z 0))]
@[go_sem] def q4_8 : List AI := [
 .j 25 (.mov (.t 7)),
 .j 26 (.mov (.t 0)),
 .j 27 (.len 0 (.t 26)),
 .j 28 (.bin .lss (.t 25) (.t 27))]
@[go_sem] def q4_9 : List AI := [
 .j 32 (.mov (.t 3)),
 .j 33 (.mov (.t 7)),
 .j 34 (.bin .add (.t 33) (.z 1)),
 .j 35 (.call 12 [(.t 32), (.t 34)]),
 .j 31 (.mov (.t 35)),
 .j 36 (.ext 0 (.t 31)),
 .j 37 (.ext 1 (.t 31)),
 .j 8 (.box 40008 5 (.c (.agg [(.int .i64 0), (.int .i64 0), (.int .i64 0), (.str []), (.int .i64 0)]))),
 .e (.store 5 (.t 8) (.t 36)),
 .j 9 (.mov (.t 37))]
@[go_sem] def q4_10 : List AI := [
 .j 39 (.mov (.t 3)),
 .j 40 (.mov (.t 0)),
 .j 41 (.mov (.t 7)),
 .j 42 (.iaddr 8 (.t 40) (.t 41)),
 .j 43 (.faddr 2 (.t 42)),
 .j 44 (.load 1 false (.t 43)),
 .j 45 (.call 13 [(.t 39), (.t 44)]),
 .j 38 (.mov (.t 45)),
 .j 46 (.ext 0 (.t 38)),
 .j 47 (.ext 1 (.t 38)),
 .j 10 (.box 40010 5 (.c (.agg [(.int .i64 0), (.int .i64 0), (.int .i64 0), (.str []), (.int .i64 0)]))),
 .e (.store 5 (.t 10) (.t 46)),
 .j 11 (.mov (.t 47))]
@[go_sem] def q4_11_0 : List AI := [
 .j 48 (.mov (.t 6)),
 .j 49 (.load 5 true (.t 8)),
 .j 51 (.load 5 true (.t 10)),
 .j 50 (.call 14 [(.t 48), (.t 49)]),
 .j 52 (.call 14 [(.t 50), (.t 51)]),
 .j 6 (.mov (.t 52))]
@[go_sem] def q4_11_1 : List AI := [
 .j 48 (.mov (.t 6)),
 .j 49 (.load 5 true (.t 8)),
 .j 50 (.call 14 [(.t 48), (.t 49)]),
 .j 51 (.load 5 true (.t 10)),
 .j 52 (.call 14 [(.t 50), (.t 51)]),
 .j 6 (.mov (.t 52))]
@[go_sem] def q4_12 : List AI := [
 .j 29 (.mov (.t 7)),
 .j 30 (.bin .add (.t 29) (.z 1)),
 .j 7 (.mov (.t 30))]
@[go_sem] def scriptinglaw18_RegistryRoots_l0' : AC := .seq (.seq (.ops [q4_8]) (.cond (.t 28) (.skip) (.exit 0))) (.seq (.block 1 (.seq (.ops [q4_9]) (.seq (.ops [q4_10]) (.ops [q4_11_0, q4_11_1])))) (.ops [q4_12]))
def scriptinglaw18_RegistryRoots_l0 : AC := scriptinglaw18_RegistryRoots_l0'
theorem scriptinglaw18_RegistryRoots_l0_eq : scriptinglaw18_RegistryRoots_l0 = scriptinglaw18_RegistryRoots_l0' := rfl
@[go_sem] def q4_13 : List AI := [
 .j 53 (.mov (.t 3)),
 .j 54 (.call 15 [(.t 53)]),
 .j 12 (.mov (.t 54))]
@[go_sem] def q4_14 : List AI := [
 .j 13 (.mov (.z 0))]
@[go_sem] def q4_15 : List AI := [
 .j 55 (.mov (.t 13)),
 .j 56 (.mov (.t 12)),
 .j 57 (.len 0 (.t 56)),
 .j 58 (.bin .lss (.t 55) (.t 57))]
@[go_sem] def q4_16 : List AI := [
 .j 61 (.mov (.t 6)),
 .j 62 (.mov (.t 12)),
 .j 63 (.mov (.t 13)),
 .j 64 (.iaddr 1 (.t 62) (.t 63)),
 .j 65 (.load 1 false (.t 64)),
 .j 66 (.call 16 [(.t 61), (.t 65)]),
 .j 67 (.un .not (.t 66)),
 .j 68 (.mov (.t 67)),
 .k 69 68 false (.mov (.t 13)),
 .k 70 68 false (.bin .gtr (.t 69) (.z 0)),
 .k 71 68 false (.mov (.t 70)),
 .k 72 71 true (.mov (.t 12)),
 .k 73 71 true (.mov (.t 13)),
 .k 74 71 true (.iaddr 1 (.t 72) (.t 73)),
 .k 75 71 true (.load 1 false (.t 74)),
 .k 76 71 true (.mov (.t 12)),
 .k 77 71 true (.mov (.t 13)),
 .k 78 71 true (.bin .sub (.t 77) (.z 1)),
 .k 79 71 true (.iaddr 1 (.t 76) (.t 78)),
 .k 80 71 true (.load 1 false (.t 79)),
 .k 81 71 true (.bin .leq (.t 75) (.t 80)),
 .k 82 68 false (.pick (.t 71) (.t 81) (.c (.bool false))),
 .j 83 (.pick (.t 68) (.c (.bool true)) (.t 82))]
@[go_sem] def q4_17 : List AI := [
 .j 2 (.mov (.c (.bool false)))]
@[go_sem] def q4_18 : List AI := [
 .j 59 (.mov (.t 13)),
 .j 60 (.bin .add (.t 59) (.z 1)),
 .j 13 (.mov (.t 60))]
@[go_sem] def scriptinglaw18_RegistryRoots_l1' : AC := .seq (.seq (.ops [q4_15]) (.cond (.t 58) (.skip) (.exit 2))) (.seq (.block 3 (.seq (.ops [q4_16]) (.cond (.t 83) (.seq (.ops [q4_17]) (.ret)) (.skip)))) (.ops [q4_18]))
def scriptinglaw18_RegistryRoots_l1 : AC := scriptinglaw18_RegistryRoots_l1'
theorem scriptinglaw18_RegistryRoots_l1_eq : scriptinglaw18_RegistryRoots_l1 = scriptinglaw18_RegistryRoots_l1' := rfl
@[go_sem] def q4_19 : List AI := [
 .j 84 (.mov (.t 12)),
 .j 85 (.len 0 (.t 84)),
 .j 86 (.mov (.t 6)),
 .j 87 (.len 0 (.t 86)),
 .j 88 (.bin .eql (.t 85) (.t 87)),
 .j 89 (.mov (.t 88)),
 .k 90 89 true (.call 6 []),
 .j 91 (.pick (.t 89) (.t 90) (.c (.bool false))),
 .j 2 (.mov (.t 91))]
@[go_sem] def scriptinglaw18_RegistryRoots_c : AC := .seq (.ops [q4_0]) (.seq (.seq (.ops [q4_1]) (.cond (.t 15) (.seq (.ops [q4_2]) (.ret)) (.skip))) (.seq (.ops [q4_3]) (.seq (.seq (.ops [q4_4]) (.cond (.t 24) (.seq (.ops [q4_5]) (.ret)) (.skip))) (.seq (.ops [q4_6]) (.seq (.seq (.ops [q4_7]) (.block 0 (.loop scriptinglaw18_RegistryRoots_l0))) (.seq (.ops [q4_13]) (.seq (.seq (.ops [q4_14]) (.block 2 (.loop scriptinglaw18_RegistryRoots_l1))) (.seq (.ops [q4_19]) (.ret)))))))))
theorem scriptinglaw18_RegistryRoots_ok : compF Try.prog 4 = some (92, scriptinglaw18_RegistryRoots_c, [.t 2]) := by kernel_rfl

@[go_sem] def q5_0 : List AI := [
 .j 2 (.mov (.c (.bool false)))]
@[go_sem] def q5_1 : List AI := [
 .j 4 (.mov (.t 0)),
 .j 5 (.len 0 (.t 4)),
 .j 6 (.bin .gtr (.t 5) (.z 300))]
@[go_sem] def q5_2 : List AI := [
 .j 2 (.mov (.c (.bool true)))]
@[go_sem] def q5_3 : List AI := [
 .j 3 (.mov (.z 0))]
@[go_sem] def q5_4 : List AI := [
 .j 7 (.mov (.t 3)),
 .j 8 (.mov (.t 0)),
 .j 9 (.len 0 (.t 8)),
 .j 10 (.bin .lss (.t 7) (.t 9))]
@[go_sem] def q5_5 : List AI := [
 .j 13 (.mov (.t 0)),
 .j 14 (.mov (.t 3)),
 .j 15 (.iaddr 8 (.t 13) (.t 14)),
 .j 16 (.faddr 2 (.t 15)),
 .j 17 (.load 1 false (.t 16)),
 .j 18 (.len 1 (.t 17)),
 .j 19 (.bin .gtr (.t 18) (.z 5000))]
@[go_sem] def q5_6 : List AI := [
 .j 2 (.mov (.c (.bool true)))]
@[go_sem] def q5_7 : List AI := [
 .j 11 (.mov (.t 3)),
 .j 12 (.bin .add (.t 11) (.z 1)),
 .j 3 (.mov (.t 12))]
@[go_sem] def scriptinglaw18_large_l0' : AC := .seq (.seq (.ops [q5_4]) (.cond (.t 10) (.skip) (.exit 0))) (.seq (.block 1 (.seq (.ops [q5_5]) (.cond (.t 19) (.seq (.ops [q5_6]) (.ret)) (.skip)))) (.ops [q5_7]))
def scriptinglaw18_large_l0 : AC := scriptinglaw18_large_l0'
theorem scriptinglaw18_large_l0_eq : scriptinglaw18_large_l0 = scriptinglaw18_large_l0' := rfl
@[go_sem] def q5_8 : List AI := [
 .j 2 (.mov (.c (.bool false)))]
@[go_sem] def scriptinglaw18_large_c : AC := .seq (.ops [q5_0]) (.seq (.seq (.ops [q5_1]) (.cond (.t 6) (.seq (.ops [q5_2]) (.ret)) (.skip))) (.seq (.seq (.ops [q5_3]) (.block 0 (.loop scriptinglaw18_large_l0))) (.seq (.ops [q5_8]) (.ret))))
theorem scriptinglaw18_large_ok : compF Try.prog 5 = some (20, scriptinglaw18_large_c, [.t 2]) := by kernel_rfl

@[go_sem] def q6_0 : List AI := [
 .j 0 (.mov (.c (.bool false)))]
@[go_sem] def q6_1 : List AI := [
 .j 13 (.call 7 []),
 .j 1 (.mov (.t 13))]
@[go_sem] def q6_2 : List AI := [
 .j 14 (.mov (.t 1)),
 .j 15 (.eqp 0 false (.t 14) (.c .nilp))]
@[go_sem] def q6_3 : List AI := [
 .j 0 (.mov (.c (.bool false)))]
@[go_sem] def q6_4 : List AI := [
 .j 16 (.build [(.int .i64 0), (.int .i64 0), (.int .i64 0), (.str []), (.int .i64 0)] [(0, 1, (.z 4)), (4, 1, (.z 7))]),
 .j 2 (.box 60002 5 (.c (.agg [(.int .i64 0), (.int .i64 0), (.int .i64 0), (.str []), (.int .i64 0)]))),
 .e (.store 5 (.t 2) (.t 16))]
@[go_sem] def q6_5 : List AI := [
 .j 18 (.mov (.t 1)),
 .j 19 (.load 5 true (.t 2)),
 .j 20 (.call 17 [(.t 18), (.t 19)]),
 .j 17 (.mov (.t 20)),
 .j 21 (.ext 0 (.t 17)),
 .j 22 (.ext 1 (.t 17)),
 .j 3 (.mov (.t 21)),
 .j 4 (.mov (.t 22))]
@[go_sem] def q6_6 : List AI := [
 .j 24 (.mov (.t 1)),
 .j 25 (.load 5 true (.t 2)),
 .j 26 (.call 17 [(.t 24), (.t 25)]),
 .j 23 (.mov (.t 26)),
 .j 27 (.ext 0 (.t 23)),
 .j 28 (.ext 1 (.t 23)),
 .j 5 (.mov (.t 27)),
 .j 6 (.mov (.t 28))]
@[go_sem] def q6_7 : List AI := [
 .j 30 (.mov (.t 1)),
 .j 31 (.load 5 true (.t 2)),
 .j 32 (.call 17 [(.t 30), (.t 31)]),
 .j 29 (.mov (.t 32)),
 .j 33 (.ext 0 (.t 29)),
 .j 34 (.ext 1 (.t 29)),
 .j 7 (.mov (.t 33)),
 .j 8 (.mov (.t 34))]
@[go_sem] def q6_8 : List AI := [
 .j 35 (.mov (.t 3)),
 .j 36 (.bin .neq (.t 35) (.z 1)),
 .j 37 (.mov (.t 36)),
 .k 38 37 false (.mov (.t 5)),
 .k 39 37 false (.bin .neq (.t 38) (.z 2)),
 .j 40 (.pick (.t 37) (.c (.bool true)) (.t 39)),
 .j 41 (.mov (.t 40)),
 .k 42 41 false (.mov (.t 7)),
 .k 43 41 false (.bin .neq (.t 42) (.z 3)),
 .j 44 (.pick (.t 41) (.c (.bool true)) (.t 43)),
 .j 45 (.mov (.t 44)),
 .k 46 45 false (.mov (.t 1)),
 .k 47 45 false (.call 18 [(.t 46), (.z 1)]),
 .k 48 45 false (.bin .neq (.t 47) (.z 0)),
 .j 49 (.pick (.t 45) (.c (.bool true)) (.t 48)),
 .j 50 (.mov (.t 49)),
 .k 51 50 false (.mov (.t 1)),
 .k 52 50 false (.call 18 [(.t 51), (.z 2)]),
 .k 53 50 false (.bin .neq (.t 52) (.z 0)),
 .j 54 (.pick (.t 50) (.c (.bool true)) (.t 53))]
@[go_sem] def q6_9 : List AI := [
 .j 0 (.mov (.c (.bool false)))]
@[go_sem] def q6_10 : List AI := [
 .j 56 (.mov (.t 1)),
 .j 57 (.load 5 true (.t 2)),
 .j 58 (.call 17 [(.t 56), (.t 57)]),
 .j 55 (.mov (.t 58)),
 .j 59 (.ext 0 (.t 55)),
 .j 60 (.ext 1 (.t 55)),
 .j 9 (.mov (.t 59)),
 .j 10 (.mov (.t 60))]
@[go_sem] def q6_11 : List AI := [
 .j 62 (.mov (.t 1)),
 .j 63 (.load 5 true (.t 2)),
 .j 64 (.call 17 [(.t 62), (.t 63)]),
 .j 61 (.mov (.t 64)),
 .j 65 (.ext 0 (.t 61)),
 .j 66 (.ext 1 (.t 61)),
 .j 11 (.mov (.t 65)),
 .j 12 (.mov (.t 66))]
@[go_sem] def q6_12 : List AI := [
 .j 67 (.mov (.t 9)),
 .j 68 (.bin .eql (.t 67) (.z 2)),
 .j 69 (.mov (.t 68)),
 .k 70 69 true (.mov (.t 11)),
 .k 71 69 true (.bin .eql (.t 70) (.z 1)),
 .j 72 (.pick (.t 69) (.t 71) (.c (.bool false))),
 .j 73 (.mov (.t 72)),
 .k 74 73 true (.mov (.t 1)),
 .k 75 73 true (.call 19 [(.t 74)]),
 .k 76 73 true (.bin .eql (.t 75) (.z 3)),
 .j 77 (.pick (.t 73) (.t 76) (.c (.bool false))),
 .j 0 (.mov (.t 77))]
@[go_sem] def scriptinglaw18_lives_c : AC := .seq (.ops [q6_0]) (.seq (.ops [q6_1]) (.seq (.seq (.ops [q6_2]) (.cond (.t 15) (.seq (.ops [q6_3]) (.ret)) (.skip))) (.seq (.ops [q6_4]) (.seq (.ops [q6_5]) (.seq (.ops [q6_6]) (.seq (.ops [q6_7]) (.seq (.seq (.ops [q6_8]) (.cond (.t 54) (.seq (.ops [q6_9]) (.ret)) (.skip))) (.seq (.ops [q6_10]) (.seq (.ops [q6_11]) (.seq (.ops [q6_12]) (.ret)))))))))))
theorem scriptinglaw18_lives_ok : compF Try.prog 6 = some (78, scriptinglaw18_lives_c, [.t 0]) := by kernel_rfl

@[go_sem] def q7_0 : List AI := [
 .j 0 (.mov (.c .nilp))]
@[go_sem] def q7_1 : List AI := [
 .j 1 (.mkmap 70001),
 .j 2 (.build [.nils, .nils, .nilm] [(2, 1, (.t 1))]),
 .j 3 (.box 70003 3 (.t 2)),
 .j 0 (.mov (.t 3))]
@[go_sem] def registry_New_c : AC := .seq (.ops [q7_0]) (.seq (.ops [q7_1]) (.ret))
theorem registry_New_ok : compF Try.prog 7 = some (4, registry_New_c, [.t 0]) := by kernel_rfl

@[go_sem] def q8_0 : List AI := [
 .j 0 (.mov (.c .nilp))]
@[go_sem] def q8_1 : List AI := [
 .j 1 (.build [.nils, .nils, .nils] []),
 .j 2 (.box 80002 3 (.t 1)),
 .j 0 (.mov (.t 2))]
@[go_sem] def scriptingref18_New_c : AC := .seq (.ops [q8_0]) (.seq (.ops [q8_1]) (.ret))
theorem scriptingref18_New_ok : compF Try.prog 8 = some (3, scriptingref18_New_c, [.t 0]) := by kernel_rfl

@[go_sem] def q9_0 : List AI := [
 .j 5 (.box 90005 8 (.t 2)),
 .j 6 (.mov (.c (.bool false)))]
@[go_sem] def q9_1 : List AI := [
 .j 19 (.faddr 0 (.t 5)),
 .j 20 (.load 1 false (.t 19))]
@[go_sem] def q9_2 : List AI := [
 .j 22 (.bin .eql (.t 20) (.z 0)),
 .j 21 (.mov (.t 22))]
@[go_sem] def q9_3 : List AI := [
 .j 24 (.mov (.t 0)),
 .j 25 (.faddr 3 (.t 5)),
 .j 26 (.load 5 true (.t 25)),
 .j 27 (.call 17 [(.t 24), (.t 26)]),
 .j 23 (.mov (.t 27)),
 .j 28 (.ext 0 (.t 23)),
 .j 29 (.ext 1 (.t 23)),
 .j 7 (.mov (.t 28)),
 .j 8 (.mov (.t 29))]
@[go_sem] def q9_4 : List AI := [
 .j 31 (.mov (.t 1)),
 .j 32 (.faddr 3 (.t 5)),
 .j 33 (.load 5 true (.t 32)),
 .j 34 (.call 20 [(.t 31), (.t 33)]),
 .j 30 (.mov (.t 34)),
 .j 35 (.ext 0 (.t 30)),
 .j 36 (.ext 1 (.t 30)),
 .j 9 (.mov (.t 35)),
 .j 10 (.mov (.t 36))]
@[go_sem] def q9_5 : List AI := [
 .j 37 (.mov (.t 7)),
 .j 38 (.mov (.t 9)),
 .j 39 (.bin .eql (.t 37) (.t 38)),
 .j 40 (.mov (.t 39)),
 .k 41 40 true (.mov (.t 8)),
 .k 42 40 true (.mov (.t 10)),
 .k 43 40 true (.bin .eql (.t 41) (.t 42)),
 .j 44 (.pick (.t 40) (.t 43) (.c (.bool false))),
 .j 6 (.mov (.t 44))]
@[go_sem] def q9_6 : List AI := [
 .j 46 (.bin .eql (.t 20) (.z 1)),
 .j 45 (.mov (.t 46))]
@[go_sem] def q9_7_0 : List AI := [
 .j 47 (.mov (.t 0)),
 .j 48 (.faddr 1 (.t 5)),
 .j 49 (.load 1 false (.t 48)),
 .j 51 (.mov (.t 1)),
 .j 52 (.faddr 1 (.t 5)),
 .j 53 (.load 1 false (.t 52)),
 .j 50 (.call 18 [(.t 47), (.t 49)]),
 .j 54 (.call 21 [(.t 51), (.t 53)]),
 .j 55 (.bin .eql (.t 50) (.t 54)),
 .j 6 (.mov (.t 55))]
@[go_sem] def q9_7_1 : List AI := [
 .j 47 (.mov (.t 0)),
 .j 48 (.faddr 1 (.t 5)),
 .j 49 (.load 1 false (.t 48)),
 .j 51 (.mov (.t 1)),
 .j 52 (.faddr 1 (.t 5)),
 .j 50 (.call 18 [(.t 47), (.t 49)]),
 .j 53 (.load 1 false (.t 52)),
 .j 54 (.call 21 [(.t 51), (.t 53)]),
 .j 55 (.bin .eql (.t 50) (.t 54)),
 .j 6 (.mov (.t 55))]
@[go_sem] def q9_8 : List AI := [
 .j 57 (.bin .eql (.t 20) (.z 2)),
 .j 56 (.mov (.t 57))]
@[go_sem] def q9_9 : List AI := [
 .j 59 (.mov (.t 0)),
 .j 60 (.faddr 1 (.t 5)),
 .j 61 (.load 1 false (.t 60)),
 .j 62 (.call 12 [(.t 59), (.t 61)]),
 .j 58 (.mov (.t 62)),
 .j 63 (.ext 0 (.t 58)),
 .j 64 (.ext 1 (.t 58)),
 .j 11 (.box 90011 5 (.c (.agg [(.int .i64 0), (.int .i64 0), (.int .i64 0), (.str []), (.int .i64 0)]))),
 .e (.store 5 (.t 11) (.t 63)),
 .j 12 (.mov (.t 64))]
@[go_sem] def q9_10 : List AI := [
 .j 66 (.mov (.t 1)),
 .j 67 (.faddr 1 (.t 5)),
 .j 68 (.load 1 false (.t 67)),
 .j 69 (.call 22 [(.t 66), (.t 68)]),
 .j 65 (.mov (.t 69)),
 .j 70 (.ext 0 (.t 65)),
 .j 71 (.ext 1 (.t 65)),
 .j 13 (.box 90013 5 (.c (.agg [(.int .i64 0), (.int .i64 0), (.int .i64 0), (.str []), (.int .i64 0)]))),
 .e (.store 5 (.t 13) (.t 70)),
 .j 14 (.mov (.t 71))]
@[go_sem] def q9_11 : List AI := [
 .j 72 (.load 5 true (.t 11)),
 .j 73 (.load 5 true (.t 13)),
 .j 74 (.eqa false (.agg [(0, 1, (.leaf 1)), (1, 2, (.agg [(0, 1, (.leaf 1)), (1, 1, (.leaf 1))])), (3, 1, (.leaf 2)), (4, 1, (.leaf 1))]) (.t 72) (.t 73)),
 .j 75 (.mov (.t 74)),
 .k 76 75 true (.mov (.t 12)),
 .k 77 75 true (.mov (.t 14)),
 .k 78 75 true (.bin .eql (.t 76) (.t 77)),
 .j 79 (.pick (.t 75) (.t 78) (.c (.bool false))),
 .j 6 (.mov (.t 79))]
@[go_sem] def q9_12 : List AI := [
 .j 81 (.bin .eql (.t 20) (.z 3)),
 .j 80 (.mov (.t 81))]
@[go_sem] def q9_13_0 : List AI := [
 .j 82 (.mov (.t 0)),
 .j 83 (.faddr 2 (.t 5)),
 .j 84 (.load 1 false (.t 83)),
 .j 85 (.faddr 3 (.t 5)),
 .j 86 (.load 5 true (.t 85)),
 .j 88 (.mov (.t 1)),
 .j 89 (.faddr 2 (.t 5)),
 .j 90 (.load 1 false (.t 89)),
 .j 91 (.faddr 3 (.t 5)),
 .j 92 (.load 5 true (.t 91)),
 .j 87 (.call 23 [(.t 82), (.t 84), (.t 86)]),
 .j 93 (.call 24 [(.t 88), (.t 90), (.t 92)]),
 .j 94 (.bin .eql (.t 87) (.t 93)),
 .j 6 (.mov (.t 94))]
@[go_sem] def q9_13_1 : List AI := [
 .j 82 (.mov (.t 0)),
 .j 83 (.faddr 2 (.t 5)),
 .j 84 (.load 1 false (.t 83)),
 .j 85 (.faddr 3 (.t 5)),
 .j 86 (.load 5 true (.t 85)),
 .j 88 (.mov (.t 1)),
 .j 89 (.faddr 2 (.t 5)),
 .j 90 (.load 1 false (.t 89)),
 .j 91 (.faddr 3 (.t 5)),
 .j 87 (.call 23 [(.t 82), (.t 84), (.t 86)]),
 .j 92 (.load 5 true (.t 91)),
 .j 93 (.call 24 [(.t 88), (.t 90), (.t 92)]),
 .j 94 (.bin .eql (.t 87) (.t 93)),
 .j 6 (.mov (.t 94))]
@[go_sem] def q9_13_2 : List AI := [
 .j 82 (.mov (.t 0)),
 .j 83 (.faddr 2 (.t 5)),
 .j 84 (.load 1 false (.t 83)),
 .j 85 (.faddr 3 (.t 5)),
 .j 86 (.load 5 true (.t 85)),
 .j 88 (.mov (.t 1)),
 .j 89 (.faddr 2 (.t 5)),
 .j 91 (.faddr 3 (.t 5)),
 .j 92 (.load 5 true (.t 91)),
 .j 87 (.call 23 [(.t 82), (.t 84), (.t 86)]),
 .j 90 (.load 1 false (.t 89)),
 .j 93 (.call 24 [(.t 88), (.t 90), (.t 92)]),
 .j 94 (.bin .eql (.t 87) (.t 93)),
 .j 6 (.mov (.t 94))]
@[go_sem] def q9_13_3 : List AI := [
 .j 82 (.mov (.t 0)),
 .j 83 (.faddr 2 (.t 5)),
 .j 84 (.load 1 false (.t 83)),
 .j 85 (.faddr 3 (.t 5)),
 .j 86 (.load 5 true (.t 85)),
 .j 88 (.mov (.t 1)),
 .j 89 (.faddr 2 (.t 5)),
 .j 91 (.faddr 3 (.t 5)),
 .j 87 (.call 23 [(.t 82), (.t 84), (.t 86)]),
 .j 90 (.load 1 false (.t 89)),
 .j 92 (.load 5 true (.t 91)),
 .j 93 (.call 24 [(.t 88), (.t 90), (.t 92)]),
 .j 94 (.bin .eql (.t 87) (.t 93)),
 .j 6 (.mov (.t 94))]
@[go_sem] def q9_14 : List AI := [
 .j 96 (.mov (.t 0)),
 .j 97 (.faddr 2 (.t 5)),
 .j 98 (.load 1 false (.t 97)),
 .j 99 (.call 13 [(.t 96), (.t 98)]),
 .j 95 (.mov (.t 99)),
 .j 100 (.ext 0 (.t 95)),
 .j 101 (.ext 1 (.t 95)),
 .j 15 (.box 90015 5 (.c (.agg [(.int .i64 0), (.int .i64 0), (.int .i64 0), (.str []), (.int .i64 0)]))),
 .e (.store 5 (.t 15) (.t 100)),
 .j 16 (.mov (.t 101))]
@[go_sem] def q9_15 : List AI := [
 .j 103 (.mov (.t 1)),
 .j 104 (.faddr 2 (.t 5)),
 .j 105 (.load 1 false (.t 104)),
 .j 106 (.call 25 [(.t 103), (.t 105)]),
 .j 102 (.mov (.t 106)),
 .j 107 (.ext 0 (.t 102)),
 .j 108 (.ext 1 (.t 102)),
 .j 17 (.box 90017 5 (.c (.agg [(.int .i64 0), (.int .i64 0), (.int .i64 0), (.str []), (.int .i64 0)]))),
 .e (.store 5 (.t 17) (.t 107)),
 .j 18 (.mov (.t 108))]
@[go_sem] def q9_16 : List AI := [
 .j 109 (.load 5 true (.t 15)),
 .j 110 (.load 5 true (.t 17)),
 .j 111 (.eqa false (.agg [(0, 1, (.leaf 1)), (1, 2, (.agg [(0, 1, (.leaf 1)), (1, 1, (.leaf 1))])), (3, 1, (.leaf 2)), (4, 1, (.leaf 1))]) (.t 109) (.t 110)),
 .j 112 (.mov (.t 111)),
 .k 113 112 true (.mov (.t 16)),
 .k 114 112 true (.mov (.t 18)),
 .k 115 112 true (.eqp 2 false (.t 113) (.t 114)),
 .j 116 (.pick (.t 112) (.t 115) (.c (.bool false))),
 .j 6 (.mov (.t 116))]
@[go_sem] def scriptinglaw18_step_c : AC := .seq (.ops [q9_0]) (.seq (.seq (.ops [q9_1]) (.block 0 (.seq (.ops [q9_2]) (.cond (.t 21) (.seq (.ops [q9_3]) (.seq (.ops [q9_4]) (.seq (.ops [q9_5]) (.ret)))) (.seq (.ops [q9_6]) (.cond (.t 45) (.seq (.ops [q9_7_0, q9_7_1]) (.ret)) (.seq (.ops [q9_8]) (.cond (.t 56) (.seq (.ops [q9_9]) (.seq (.ops [q9_10]) (.seq (.ops [q9_11]) (.ret)))) (.seq (.ops [q9_12]) (.cond (.t 80) (.seq (.ops [q9_13_0, q9_13_1, q9_13_2, q9_13_3]) (.ret)) (.skip))))))))))) (.seq (.ops [q9_14]) (.seq (.ops [q9_15]) (.seq (.ops [q9_16]) (.ret)))))
theorem scriptinglaw18_step_ok : compF Try.prog 9 = some (117, scriptinglaw18_step_c, [.t 6]) := by kernel_rfl

@[go_sem] def q10_0 : List AI := [
 .j 4 (.mov (.c (.bool false)))]
@[go_sem] def q10_1 : List AI := [
 .j 5 (.mov (.t 0)),
 .j 6 (.call 19 [(.t 5)]),
 .j 7 (.mov (.t 1)),
 .j 8 (.call 26 [(.t 7)]),
 .j 9 (.bin .eql (.t 6) (.t 8)),
 .j 10 (.mov (.t 9)),
 .k 11 10 true (.mov (.t 0)),
 .k 12 10 true (.call 15 [(.t 11)]),
 .k 13 10 true (.mov (.t 1)),
 .k 14 10 true (.call 28 [(.t 13)]),
 .k 15 10 true (.call 27 [(.t 12), (.t 14)]),
 .j 16 (.pick (.t 10) (.t 15) (.c (.bool false))),
 .j 4 (.mov (.t 16))]
@[go_sem] def scriptinglaw18_shown_c : AC := .seq (.ops [q10_0]) (.seq (.ops [q10_1]) (.ret))
theorem scriptinglaw18_shown_ok : compF Try.prog 10 = some (17, scriptinglaw18_shown_c, [.t 4]) := by kernel_rfl

@[go_sem] def q11_0 : List AI := [
 .j 2 (.mov (.c .nilp)),
 .j 3 (.mov (.c .nilp)),
 .j 4 (.mov (.c (.bool false)))]
@[go_sem] def q11_1 : List AI := [
 .j 8 (.call 7 []),
 .j 9 (.call 8 []),
 .j 5 (.mov (.t 8)),
 .j 6 (.mov (.t 9))]
@[go_sem] def q11_2 : List AI := [
 .j 10 (.mov (.t 5)),
 .j 11 (.eqp 0 false (.t 10) (.c .nilp))]
@[go_sem] def q11_3 : List AI := [
 .j 2 (.mov (.c .nilp)),
 .j 3 (.mov (.c .nilp)),
 .j 4 (.mov (.c (.bool false)))]
@[go_sem] def q11_4 : List AI := [
 .j 7 (.mov (.z 0))]
@[go_sem] def q11_5 : List AI := [
 .j 12 (.mov (.t 7)),
 .j 13 (.mov (.t 0)),
 .j 14 (.len 0 (.t 13)),
 .j 15 (.bin .lss (.t 12) (.t 14))]
@[go_sem] def q11_6 : List AI := [
 .j 18 (.mov (.t 5)),
 .j 19 (.mov (.t 6)),
 .j 20 (.mov (.t 0)),
 .j 21 (.mov (.t 7)),
 .j 22 (.iaddr 8 (.t 20) (.t 21)),
 .j 23 (.load 8 true (.t 22)),
 .j 24 (.call 9 [(.t 18), (.t 19), (.t 23)]),
 .j 25 (.un .not (.t 24))]
@[go_sem] def q11_7 : List AI := [
 .j 2 (.mov (.c .nilp)),
 .j 3 (.mov (.c .nilp)),
 .j 4 (.mov (.c (.bool false)))]
@[go_sem] def q11_8 : List AI := [
 .j 16 (.mov (.t 7)),
 .j 17 (.bin .add (.t 16) (.z 1)),
 .j 7 (.mov (.t 17))]
@[go_sem] def scriptinglaw18_made_l0' : AC := .seq (.seq (.ops [q11_5]) (.cond (.t 15) (.skip) (.exit 0))) (.seq (.block 1 (.seq (.ops [q11_6]) (.cond (.t 25) (.seq (.ops [q11_7]) (.ret)) (.skip)))) (.ops [q11_8]))
def scriptinglaw18_made_l0 : AC := scriptinglaw18_made_l0'
theorem scriptinglaw18_made_l0_eq : scriptinglaw18_made_l0 = scriptinglaw18_made_l0' := rfl
@[go_sem] def q11_9 : List AI := [
 .j 26 (.mov (.t 5)),
 .j 27 (.mov (.t 6)),
 .j 2 (.mov (.t 26)),
 .j 3 (.mov (.t 27)),
 .j 4 (.mov (.c (.bool true)))]
@[go_sem] def scriptinglaw18_made_c : AC := .seq (.ops [q11_0]) (.seq (.ops [q11_1]) (.seq (.seq (.ops [q11_2]) (.cond (.t 11) (.seq (.ops [q11_3]) (.ret)) (.skip))) (.seq (.seq (.ops [q11_4]) (.block 0 (.loop scriptinglaw18_made_l0))) (.seq (.ops [q11_9]) (.ret)))))
theorem scriptinglaw18_made_ok : compF Try.prog 11 = some (28, scriptinglaw18_made_c, [.t 2, .t 3, .t 4]) := by kernel_rfl

@[go_sem] def q12_0 : List AI := [
 .j 4 (.box 120004 5 (.c (.agg [(.int .i64 0), (.int .i64 0), (.int .i64 0), (.str []), (.int .i64 0)]))),
 .j 5 (.mov (.z 0))]
@[go_sem] def q12_1 : List AI := [
 .j 7 (.mov (.t 0)),
 .j 8 (.eqp 0 false (.t 7) (.c .nilp)),
 .j 6 (.mov (.t 8))]
@[go_sem] def q12_2 : List AI := [
 .j 9 (.build [(.int .i64 0), (.int .i64 0), (.int .i64 0), (.str []), (.int .i64 0)] []),
 .e (.store 5 (.t 4) (.t 9)),
 .j 5 (.mov (.z 1))]
@[go_sem] def q12_3 : List AI := [
 .j 11 (.mov (.t 1)),
 .j 12 (.bin .eql (.t 11) (.z 0)),
 .j 10 (.mov (.t 12))]
@[go_sem] def q12_4 : List AI := [
 .j 13 (.build [(.int .i64 0), (.int .i64 0), (.int .i64 0), (.str []), (.int .i64 0)] []),
 .e (.store 5 (.t 4) (.t 13)),
 .j 5 (.mov (.z 0))]
@[go_sem] def q12_5 : List AI := [
 .j 15 (.mov (.t 0)),
 .j 16 (.mov (.t 1)),
 .j 17 (.call 29 [(.t 15), (.t 16)]),
 .j 18 (.un .not (.t 17)),
 .j 14 (.mov (.t 18))]
@[go_sem] def q12_6 : List AI := [
 .j 19 (.build [(.int .i64 0), (.int .i64 0), (.int .i64 0), (.str []), (.int .i64 0)] []),
 .e (.store 5 (.t 4) (.t 19)),
 .j 5 (.mov (.z 6))]
@[go_sem] def q12_7 : List AI := [
 .j 20 (.mov (.t 0)),
 .j 21 (.nilck (.t 20)),
 .j 22 (.faddr 0 (.t 21)),
 .j 23 (.load 1 false (.t 22)),
 .j 24 (.mov (.t 1)),
 .j 25 (.bin .sub (.t 24) (.z 1)),
 .j 26 (.iaddr 5 (.t 23) (.t 25)),
 .j 27 (.load 5 true (.t 26)),
 .e (.store 5 (.t 4) (.t 27)),
 .j 5 (.mov (.z 0))]
@[go_sem] def registry_Registry_Value_c : AC := .seq (.ops [q12_0]) (.seq (.block 0 (.seq (.ops [q12_1]) (.cond (.t 6) (.seq (.ops [q12_2]) (.ret)) (.seq (.ops [q12_3]) (.cond (.t 10) (.seq (.ops [q12_4]) (.ret)) (.seq (.ops [q12_5]) (.cond (.t 14) (.seq (.ops [q12_6]) (.ret)) (.skip)))))))) (.seq (.ops [q12_7]) (.ret)))
theorem registry_Registry_Value_ok : compF Try.prog 12 = some (28, registry_Registry_Value_c, [.c 4 5 true, .t 5]) := by kernel_rfl

@[go_sem] def q13_0 : List AI := [
 .j 4 (.box 130004 5 (.c (.agg [(.int .i64 0), (.int .i64 0), (.int .i64 0), (.str []), (.int .i64 0)]))),
 .j 5 (.mov (.c (.bool false)))]
@[go_sem] def q13_1 : List AI := [
 .j 8 (.mov (.t 0)),
 .j 9 (.eqp 0 false (.t 8) (.c .nilp))]
@[go_sem] def q13_2 : List AI := [
 .j 10 (.build [(.int .i64 0), (.int .i64 0), (.int .i64 0), (.str []), (.int .i64 0)] []),
 .e (.store 5 (.t 4) (.t 10)),
 .j 5 (.mov (.c (.bool false)))]
@[go_sem] def q13_3 : List AI := [
 .j 12 (.mov (.t 0)),
 .j 13 (.nilck (.t 12)),
 .j 14 (.faddr 2 (.t 13)),
 .j 15 (.load 1 false (.t 14)),
 .j 16 (.mov (.t 1)),
 .j 17 (.look 1 (.agg [(.int .i64 0), (.int .i64 0), (.int .i64 0), (.str []), (.int .i64 0)]) true (.t 15) (.t 16)),
 .j 11 (.mov (.t 17)),
 .j 18 (.ext 0 (.t 11)),
 .j 19 (.ext 1 (.t 11)),
 .j 6 (.box 130006 5 (.c (.agg [(.int .i64 0), (.int .i64 0), (.int .i64 0), (.str []), (.int .i64 0)]))),
 .e (.store 5 (.t 6) (.t 18)),
 .j 7 (.mov (.t 19))]
@[go_sem] def q13_4 : List AI := [
 .j 20 (.load 5 true (.t 6)),
 .j 21 (.mov (.t 7)),
 .e (.store 5 (.t 4) (.t 20)),
 .j 5 (.mov (.t 21))]
@[go_sem] def registry_Registry_Find_c : AC := .seq (.ops [q13_0]) (.seq (.seq (.ops [q13_1]) (.cond (.t 9) (.seq (.ops [q13_2]) (.ret)) (.skip))) (.seq (.ops [q13_3]) (.seq (.ops [q13_4]) (.ret))))
theorem registry_Registry_Find_ok : compF Try.prog 13 = some (22, registry_Registry_Find_c, [.c 4 5 true, .t 5]) := by kernel_rfl

@[go_sem] def q14_0 : List AI := [
 .j 3 (.box 140003 5 (.t 1)),
 .j 4 (.mov (.c .nils))]
@[go_sem] def q14_1 : List AI := [
 .j 6 (.faddr 0 (.t 3)),
 .j 7 (.load 1 false (.t 6)),
 .j 8 (.bin .eql (.t 7) (.z 4)),
 .j 9 (.mov (.t 8)),
 .k 10 9 false (.faddr 0 (.t 3)),
 .k 11 9 false (.load 1 false (.t 10)),
 .k 12 9 false (.bin .eql (.t 11) (.z 5)),
 .j 13 (.pick (.t 9) (.c (.bool true)) (.t 12)),
 .j 14 (.mov (.t 13)),
 .k 15 14 false (.faddr 0 (.t 3)),
 .k 16 14 false (.load 1 false (.t 15)),
 .k 17 14 false (.bin .eql (.t 16) (.z 7)),
 .j 18 (.pick (.t 14) (.c (.bool true)) (.t 17)),
 .j 19 (.mov (.t 18)),
 .k 20 19 false (.faddr 0 (.t 3)),
 .k 21 19 false (.load 1 false (.t 20)),
 .k 22 19 false (.bin .eql (.t 21) (.z 8)),
 .j 23 (.pick (.t 19) (.c (.bool true)) (.t 22)),
 .j 5 (.mov (.t 23))]
@[go_sem] def q14_2 : List AI := [
 .j 24 (.mov (.t 5)),
 .j 25 (.un .not (.t 24)),
 .j 26 (.mov (.t 25)),
 .k 27 26 false (.mov (.t 0)),
 .k 28 26 false (.faddr 4 (.t 3)),
 .k 29 26 false (.load 1 false (.t 28)),
 .k 30 26 false (.call 16 [(.t 27), (.t 29)]),
 .j 31 (.pick (.t 26) (.c (.bool true)) (.t 30))]
@[go_sem] def q14_3 : List AI := [
 .j 32 (.mov (.t 0)),
 .j 4 (.mov (.t 32))]
@[go_sem] def q14_4_0 : List AI := [
 .j 34 (.mov (.t 0)),
 .j 36 (.faddr 4 (.t 3)),
 .j 37 (.load 1 false (.t 36)),
 .j 38 (.mkisl 1 [(.t 37)]),
 .j 33 (.mkrow 140033 1 []),
 .j 35 (.app 140035 1 (.t 33) (.t 34)),
 .j 39 (.app 140039 1 (.t 35) (.t 38)),
 .j 4 (.mov (.t 39))]
@[go_sem] def q14_4_1 : List AI := [
 .j 34 (.mov (.t 0)),
 .j 36 (.faddr 4 (.t 3)),
 .j 33 (.mkrow 140033 1 []),
 .j 37 (.load 1 false (.t 36)),
 .j 38 (.mkisl 1 [(.t 37)]),
 .j 35 (.app 140035 1 (.t 33) (.t 34)),
 .j 39 (.app 140039 1 (.t 35) (.t 38)),
 .j 4 (.mov (.t 39))]
@[go_sem] def q14_4_2 : List AI := [
 .j 34 (.mov (.t 0)),
 .j 36 (.faddr 4 (.t 3)),
 .j 33 (.mkrow 140033 1 []),
 .j 35 (.app 140035 1 (.t 33) (.t 34)),
 .j 37 (.load 1 false (.t 36)),
 .j 38 (.mkisl 1 [(.t 37)]),
 .j 39 (.app 140039 1 (.t 35) (.t 38)),
 .j 4 (.mov (.t 39))]
@[go_sem] def scriptinglaw18_with_c : AC := .seq (.ops [q14_0]) (.seq (.ops [q14_1]) (.seq (.seq (.ops [q14_2]) (.cond (.t 31) (.seq (.ops [q14_3]) (.ret)) (.skip))) (.seq (.ops [q14_4_0, q14_4_1, q14_4_2]) (.ret))))
theorem scriptinglaw18_with_ok : compF Try.prog 14 = some (40, scriptinglaw18_with_c, [.t 4]) := by kernel_rfl

@[go_sem] def q15_0 : List AI := [
 .j 2 (.mov (.c .nils))]
@[go_sem] def q15_1 : List AI := [
 .j 6 (.mov (.t 0)),
 .j 7 (.eqp 0 false (.t 6) (.c .nilp))]
@[go_sem] def q15_2 : List AI := [
 .j 2 (.mov (.c .nils))]
@[go_sem] def q15_3 : List AI := [
 .j 3 (.mov (.c .nils))]
@[go_sem] def q15_4 : List AI := [
 .j 8 (.mov (.t 0)),
 .j 9 (.nilck (.t 8)),
 .j 10 (.faddr 2 (.t 9)),
 .j 11 (.load 1 false (.t 10)),
 .j 12 (.rgm 150012 (.t 11))]
@[go_sem] def q15_5 : List AI := [
 .j 13 (.nxm (.t 12)),
 .j 14 (.ext 0 (.t 13))]
@[go_sem] def q15_6 : List AI := [
 .j 15 (.ent (.t 12)),
 .j 16 (.ext 1 (.t 15)),
 .j 5 (.box 150005 5 (.c (.agg [(.int .i64 0), (.int .i64 0), (.int .i64 0), (.str []), (.int .i64 0)]))),
 .e (.store 5 (.t 5) (.t 16))]
@[go_sem] def q15_7 : List AI := [
 .j 17 (.mov (.t 3)),
 .j 18 (.load 5 true (.t 5)),
 .j 19 (.mkisl 5 [(.t 18)]),
 .j 20 (.app 150020 5 (.t 17) (.t 19)),
 .j 3 (.mov (.t 20))]
@[go_sem] def registry_Registry_Roots_l0' : AC := .seq (.ops [q15_5]) (.seq (.cond (.t 14) (.skip) (.exit 0)) (.block 1 (.seq (.ops [q15_6]) (.ops [q15_7]))))
def registry_Registry_Roots_l0 : AC := registry_Registry_Roots_l0'
theorem registry_Registry_Roots_l0_eq : registry_Registry_Roots_l0 = registry_Registry_Roots_l0' := rfl
@[go_sem] def q15_8 : List AI := [
 .j 21 (.mov (.t 0)),
 .j 22 (.nilck (.t 21)),
 .j 23 (.faddr 0 (.t 22)),
 .j 24 (.load 1 false (.t 23)),
 .j 25 (.mov (.t 3)),
 .j 26 (.mkrow 150026 1 [(.t 24), (.t 25)]),
 .j 27 (.call 30 [(.t 26)]),
 .j 2 (.mov (.t 27))]
@[go_sem] def registry_Registry_Roots_c : AC := .seq (.ops [q15_0]) (.seq (.seq (.ops [q15_1]) (.cond (.t 7) (.seq (.ops [q15_2]) (.ret)) (.skip))) (.seq (.ops [q15_3]) (.seq (.seq (.ops [q15_4]) (.block 0 (.loop registry_Registry_Roots_l0))) (.seq (.ops [q15_8]) (.ret)))))
theorem registry_Registry_Roots_ok : compF Try.prog 15 = some (28, registry_Registry_Roots_c, [.t 2]) := by kernel_rfl

@[go_sem] def q16_0 : List AI := [
 .j 4 (.mov (.c (.bool false)))]
@[go_sem] def q16_1 : List AI := [
 .j 5 (.mov (.z 0))]
@[go_sem] def q16_2 : List AI := [
 .j 6 (.mov (.t 5)),
 .j 7 (.mov (.t 0)),
 .j 8 (.len 0 (.t 7)),
 .j 9 (.bin .lss (.t 6) (.t 8))]
@[go_sem] def q16_3 : List AI := [
 .j 12 (.mov (.t 0)),
 .j 13 (.mov (.t 5)),
 .j 14 (.iaddr 1 (.t 12) (.t 13)),
 .j 15 (.load 1 false (.t 14)),
 .j 16 (.mov (.t 1)),
 .j 17 (.bin .eql (.t 15) (.t 16))]
@[go_sem] def q16_4 : List AI := [
 .j 4 (.mov (.c (.bool true)))]
@[go_sem] def q16_5 : List AI := [
 .j 10 (.mov (.t 5)),
 .j 11 (.bin .add (.t 10) (.z 1)),
 .j 5 (.mov (.t 11))]
@[go_sem] def scriptinglaw18_has_l0' : AC := .seq (.seq (.ops [q16_2]) (.cond (.t 9) (.skip) (.exit 0))) (.seq (.block 1 (.seq (.ops [q16_3]) (.cond (.t 17) (.seq (.ops [q16_4]) (.ret)) (.skip)))) (.ops [q16_5]))
def scriptinglaw18_has_l0 : AC := scriptinglaw18_has_l0'
theorem scriptinglaw18_has_l0_eq : scriptinglaw18_has_l0 = scriptinglaw18_has_l0' := rfl
@[go_sem] def q16_6 : List AI := [
 .j 4 (.mov (.c (.bool false)))]
@[go_sem] def scriptinglaw18_has_c : AC := .seq (.ops [q16_0]) (.seq (.seq (.ops [q16_1]) (.block 0 (.loop scriptinglaw18_has_l0))) (.seq (.ops [q16_6]) (.ret)))
theorem scriptinglaw18_has_ok : compF Try.prog 16 = some (18, scriptinglaw18_has_c, [.t 4]) := by kernel_rfl

@[go_sem] def q17_0 : List AI := [
 .j 3 (.box 170003 5 (.t 1)),
 .j 4 (.mov (.z 0)),
 .j 5 (.mov (.z 0))]
@[go_sem] def q17_1 : List AI := [
 .j 10 (.mov (.t 0)),
 .j 11 (.eqp 0 false (.t 10) (.c .nilp)),
 .j 9 (.mov (.t 11))]
@[go_sem] def q17_2 : List AI := [
 .j 4 (.mov (.z 0)),
 .j 5 (.mov (.z 1))]
@[go_sem] def q17_3 : List AI := [
 .j 13 (.load 5 true (.t 3)),
 .j 14 (.call 31 [(.t 13)]),
 .j 15 (.un .not (.t 14)),
 .j 12 (.mov (.t 15))]
@[go_sem] def q17_4 : List AI := [
 .j 4 (.mov (.z 0)),
 .j 5 (.mov (.z 2))]
@[go_sem] def q17_5 : List AI := [
 .j 17 (.faddr 0 (.t 3)),
 .j 18 (.load 1 false (.t 17)),
 .j 19 (.bin .eql (.t 18) (.z 0)),
 .j 16 (.mov (.t 19))]
@[go_sem] def q17_6 : List AI := [
 .j 4 (.mov (.z 0)),
 .j 5 (.mov (.z 0))]
@[go_sem] def q17_7 : List AI := [
 .j 21 (.mov (.t 0)),
 .j 22 (.nilck (.t 21)),
 .j 23 (.faddr 0 (.t 22)),
 .j 24 (.load 1 false (.t 23)),
 .j 25 (.len 0 (.t 24)),
 .j 26 (.mov (.t 0)),
 .j 27 (.nilck (.t 26)),
 .j 28 (.faddr 1 (.t 27)),
 .j 29 (.load 1 false (.t 28)),
 .j 30 (.len 0 (.t 29)),
 .j 31 (.bin .sub (.t 25) (.t 30)),
 .j 32 (.bin .eql (.t 31) (.z 1000)),
 .j 20 (.mov (.t 32))]
@[go_sem] def q17_8 : List AI := [
 .j 4 (.mov (.z 0)),
 .j 5 (.mov (.z 17))]
@[go_sem] def q17_9 : List AI := [
 .j 34 (.mov (.t 0)),
 .j 35 (.nilck (.t 34)),
 .j 36 (.faddr 1 (.t 35)),
 .j 37 (.load 1 false (.t 36)),
 .j 38 (.len 0 (.t 37)),
 .j 39 (.bin .eql (.t 38) (.z 0)),
 .j 33 (.mov (.t 39))]
@[go_sem] def q17_10 : List AI := [
 .j 40 (.mov (.t 0)),
 .j 41 (.mov (.t 0)),
 .j 42 (.nilck (.t 41)),
 .j 43 (.faddr 0 (.t 42)),
 .j 44 (.load 1 false (.t 43)),
 .j 45 (.load 5 true (.t 3)),
 .j 46 (.mkisl 5 [(.t 45)]),
 .j 47 (.app 170047 5 (.t 44) (.t 46)),
 .j 48 (.nilck (.t 40)),
 .j 49 (.faddr 0 (.t 48)),
 .e (.store 1 (.t 49) (.t 47))]
@[go_sem] def q17_11 : List AI := [
 .j 50 (.mov (.t 0)),
 .j 51 (.nilck (.t 50)),
 .j 52 (.faddr 0 (.t 51)),
 .j 53 (.load 1 false (.t 52)),
 .j 54 (.len 0 (.t 53)),
 .j 4 (.mov (.t 54)),
 .j 5 (.mov (.z 0))]
@[go_sem] def q17_12 : List AI := [
 .j 55 (.mov (.t 0)),
 .j 56 (.nilck (.t 55)),
 .j 57 (.faddr 1 (.t 56)),
 .j 58 (.load 1 false (.t 57)),
 .j 59 (.len 0 (.t 58)),
 .j 60 (.bin .sub (.t 59) (.z 1)),
 .j 6 (.mov (.t 60))]
@[go_sem] def q17_13 : List AI := [
 .j 61 (.mov (.t 0)),
 .j 62 (.nilck (.t 61)),
 .j 63 (.faddr 1 (.t 62)),
 .j 64 (.load 1 false (.t 63)),
 .j 65 (.mov (.t 6)),
 .j 66 (.iaddr 1 (.t 64) (.t 65)),
 .j 67 (.load 1 false (.t 66)),
 .j 7 (.mov (.t 67))]
@[go_sem] def q17_14 : List AI := [
 .j 68 (.mov (.t 6)),
 .j 69 (.mksl 170069 [(.int .i64 0)] (.t 68)),
 .j 8 (.mov (.t 69))]
@[go_sem] def q17_15 : List AI := [
 .j 70 (.mov (.t 8)),
 .j 71 (.mov (.t 0)),
 .j 72 (.nilck (.t 71)),
 .j 73 (.faddr 1 (.t 72)),
 .j 74 (.load 1 false (.t 73)),
 .j 75 (.copy 1 (.t 70) (.t 74))]
@[go_sem] def q17_16 : List AI := [
 .j 76 (.mov (.t 0)),
 .j 77 (.mov (.t 8)),
 .j 78 (.nilck (.t 76)),
 .j 79 (.faddr 1 (.t 78)),
 .e (.store 1 (.t 79) (.t 77))]
@[go_sem] def q17_17 : List AI := [
 .j 80 (.mov (.t 0)),
 .j 81 (.nilck (.t 80)),
 .j 82 (.faddr 0 (.t 81)),
 .j 83 (.load 1 false (.t 82)),
 .j 84 (.mov (.t 7)),
 .j 85 (.bin .sub (.t 84) (.z 1)),
 .j 86 (.load 5 true (.t 3)),
 .j 87 (.iaddr 5 (.t 83) (.t 85)),
 .e (.store 5 (.t 87) (.t 86))]
@[go_sem] def q17_18 : List AI := [
 .j 88 (.mov (.t 7)),
 .j 4 (.mov (.t 88)),
 .j 5 (.mov (.z 0))]
@[go_sem] def registry_Registry_Ref_c : AC := .seq (.ops [q17_0]) (.seq (.block 0 (.seq (.ops [q17_1]) (.cond (.t 9) (.seq (.ops [q17_2]) (.ret)) (.seq (.ops [q17_3]) (.cond (.t 12) (.seq (.ops [q17_4]) (.ret)) (.seq (.ops [q17_5]) (.cond (.t 16) (.seq (.ops [q17_6]) (.ret)) (.seq (.ops [q17_7]) (.cond (.t 20) (.seq (.ops [q17_8]) (.ret)) (.seq (.ops [q17_9]) (.cond (.t 33) (.seq (.ops [q17_10]) (.seq (.ops [q17_11]) (.ret))) (.skip)))))))))))) (.seq (.ops [q17_12]) (.seq (.ops [q17_13]) (.seq (.ops [q17_14]) (.seq (.ops [q17_15]) (.seq (.ops [q17_16]) (.seq (.ops [q17_17]) (.seq (.ops [q17_18]) (.ret)))))))))
theorem registry_Registry_Ref_ok : compF Try.prog 17 = some (89, registry_Registry_Ref_c, [.t 4, .t 5]) := by kernel_rfl

@[go_sem] def q18_0 : List AI := [
 .j 4 (.mov (.z 0))]
@[go_sem] def q18_1 : List AI := [
 .j 6 (.mov (.t 0)),
 .j 7 (.eqp 0 false (.t 6) (.c .nilp)),
 .j 5 (.mov (.t 7))]
@[go_sem] def q18_2 : List AI := [
 .j 4 (.mov (.z 1))]
@[go_sem] def q18_3 : List AI := [
 .j 9 (.mov (.t 1)),
 .j 10 (.bin .eql (.t 9) (.z 0)),
 .j 8 (.mov (.t 10))]
@[go_sem] def q18_4 : List AI := [
 .j 4 (.mov (.z 0))]
@[go_sem] def q18_5 : List AI := [
 .j 12 (.mov (.t 0)),
 .j 13 (.mov (.t 1)),
 .j 14 (.call 29 [(.t 12), (.t 13)]),
 .j 15 (.un .not (.t 14)),
 .j 11 (.mov (.t 15))]
@[go_sem] def q18_6 : List AI := [
 .j 4 (.mov (.z 6))]
@[go_sem] def q18_7 : List AI := [
 .j 16 (.mov (.t 0)),
 .j 17 (.nilck (.t 16)),
 .j 18 (.faddr 0 (.t 17)),
 .j 19 (.load 1 false (.t 18)),
 .j 20 (.mov (.t 1)),
 .j 21 (.bin .sub (.t 20) (.z 1)),
 .j 22 (.build [(.int .i64 0), (.int .i64 0), (.int .i64 0), (.str []), (.int .i64 0)] []),
 .j 23 (.iaddr 5 (.t 19) (.t 21)),
 .e (.store 5 (.t 23) (.t 22))]
@[go_sem] def q18_8 : List AI := [
 .j 24 (.mov (.t 0)),
 .j 25 (.mov (.t 0)),
 .j 26 (.nilck (.t 25)),
 .j 27 (.faddr 1 (.t 26)),
 .j 28 (.load 1 false (.t 27)),
 .j 29 (.mov (.t 1)),
 .j 30 (.mkisl 1 [(.t 29)]),
 .j 31 (.app 180031 1 (.t 28) (.t 30)),
 .j 32 (.nilck (.t 24)),
 .j 33 (.faddr 1 (.t 32)),
 .e (.store 1 (.t 33) (.t 31))]
@[go_sem] def q18_9 : List AI := [
 .j 4 (.mov (.z 0))]
@[go_sem] def registry_Registry_Unref_c : AC := .seq (.ops [q18_0]) (.seq (.block 0 (.seq (.ops [q18_1]) (.cond (.t 5) (.seq (.ops [q18_2]) (.ret)) (.seq (.ops [q18_3]) (.cond (.t 8) (.seq (.ops [q18_4]) (.ret)) (.seq (.ops [q18_5]) (.cond (.t 11) (.seq (.ops [q18_6]) (.ret)) (.skip)))))))) (.seq (.ops [q18_7]) (.seq (.ops [q18_8]) (.seq (.ops [q18_9]) (.ret)))))
theorem registry_Registry_Unref_ok : compF Try.prog 18 = some (34, registry_Registry_Unref_c, [.t 4]) := by kernel_rfl

@[go_sem] def q19_0 : List AI := [
 .j 2 (.mov (.z 0))]
@[go_sem] def q19_1 : List AI := [
 .j 3 (.mov (.t 0)),
 .j 4 (.eqp 0 false (.t 3) (.c .nilp))]
@[go_sem] def q19_2 : List AI := [
 .j 2 (.mov (.z 0))]
@[go_sem] def q19_3 : List AI := [
 .j 5 (.mov (.t 0)),
 .j 6 (.nilck (.t 5)),
 .j 7 (.faddr 0 (.t 6)),
 .j 8 (.load 1 false (.t 7)),
 .j 9 (.len 0 (.t 8)),
 .j 10 (.mov (.t 0)),
 .j 11 (.nilck (.t 10)),
 .j 12 (.faddr 1 (.t 11)),
 .j 13 (.load 1 false (.t 12)),
 .j 14 (.len 0 (.t 13)),
 .j 15 (.bin .sub (.t 9) (.t 14)),
 .j 16 (.mov (.t 0)),
 .j 17 (.nilck (.t 16)),
 .j 18 (.faddr 2 (.t 17)),
 .j 19 (.load 1 false (.t 18)),
 .j 20 (.len 2 (.t 19)),
 .j 21 (.bin .add (.t 15) (.t 20)),
 .j 2 (.mov (.t 21))]
@[go_sem] def registry_Registry_Len_c : AC := .seq (.ops [q19_0]) (.seq (.seq (.ops [q19_1]) (.cond (.t 4) (.seq (.ops [q19_2]) (.ret)) (.skip))) (.seq (.ops [q19_3]) (.ret)))
theorem registry_Registry_Len_ok : compF Try.prog 19 = some (22, registry_Registry_Len_c, [.t 2]) := by kernel_rfl

@[go_sem] def q20_0 : List AI := [
 .j 3 (.box 200003 5 (.t 1)),
 .j 4 (.mov (.z 0)),
 .j 5 (.mov (.z 0))]
@[go_sem] def q20_1 : List AI := [
 .j 8 (.mov (.t 0)),
 .j 9 (.eqp 0 false (.t 8) (.c .nilp))]
@[go_sem] def q20_2 : List AI := [
 .j 4 (.mov (.z 0)),
 .j 5 (.mov (.z 1))]
@[go_sem] def q20_3 : List AI := [
 .j 10 (.load 5 true (.t 3)),
 .j 11 (.call 32 [(.t 10)]),
 .j 12 (.un .not (.t 11))]
@[go_sem] def q20_4 : List AI := [
 .j 4 (.mov (.z 0)),
 .j 5 (.mov (.z 2))]
@[go_sem] def q20_5 : List AI := [
 .j 13 (.faddr 0 (.t 3)),
 .j 14 (.load 1 false (.t 13)),
 .j 15 (.bin .eql (.t 14) (.z 0))]
@[go_sem] def q20_6 : List AI := [
 .j 4 (.mov (.z 0)),
 .j 5 (.mov (.z 0))]
@[go_sem] def q20_7 : List AI := [
 .j 16 (.mov (.t 0)),
 .j 17 (.call 33 [(.t 16)]),
 .j 18 (.bin .geq (.t 17) (.z 1000))]
@[go_sem] def q20_8 : List AI := [
 .j 4 (.mov (.z 0)),
 .j 5 (.mov (.z 17))]
@[go_sem] def q20_9 : List AI := [
 .j 19 (.mov (.t 0)),
 .j 20 (.nilck (.t 19)),
 .j 21 (.faddr 1 (.t 20)),
 .j 22 (.load 1 false (.t 21)),
 .j 23 (.len 0 (.t 22)),
 .j 6 (.mov (.t 23))]
@[go_sem] def q20_10 : List AI := [
 .j 24 (.mov (.t 6)),
 .j 25 (.bin .gtr (.t 24) (.z 0))]
@[go_sem] def q20_11 : List AI := [
 .j 26 (.mov (.t 0)),
 .j 27 (.nilck (.t 26)),
 .j 28 (.faddr 1 (.t 27)),
 .j 29 (.load 1 false (.t 28)),
 .j 30 (.mov (.t 6)),
 .j 31 (.bin .sub (.t 30) (.z 1)),
 .j 32 (.iaddr 1 (.t 29) (.t 31)),
 .j 33 (.load 1 false (.t 32)),
 .j 7 (.mov (.t 33))]
@[go_sem] def q20_12 : List AI := [
 .j 34 (.mov (.t 0)),
 .j 35 (.mov (.t 0)),
 .j 36 (.nilck (.t 35)),
 .j 37 (.faddr 1 (.t 36)),
 .j 38 (.load 1 false (.t 37)),
 .j 39 (.mov (.t 6)),
 .j 40 (.bin .sub (.t 39) (.z 1)),
 .j 41 (.slc 1 (.t 38) none (some (.t 40))),
 .j 42 (.nilck (.t 34)),
 .j 43 (.faddr 1 (.t 42)),
 .e (.store 1 (.t 43) (.t 41))]
@[go_sem] def q20_13 : List AI := [
 .j 44 (.mov (.t 0)),
 .j 45 (.nilck (.t 44)),
 .j 46 (.faddr 0 (.t 45)),
 .j 47 (.load 1 false (.t 46)),
 .j 48 (.mov (.t 7)),
 .j 49 (.bin .sub (.t 48) (.z 1)),
 .j 50 (.load 5 true (.t 3)),
 .j 51 (.iaddr 5 (.t 47) (.t 49)),
 .e (.store 5 (.t 51) (.t 50))]
@[go_sem] def q20_14 : List AI := [
 .j 52 (.mov (.t 7)),
 .j 4 (.mov (.t 52)),
 .j 5 (.mov (.z 0))]
@[go_sem] def q20_15 : List AI := [
 .j 53 (.mov (.t 0)),
 .j 54 (.mov (.t 0)),
 .j 55 (.nilck (.t 54)),
 .j 56 (.faddr 0 (.t 55)),
 .j 57 (.load 1 false (.t 56)),
 .j 58 (.load 5 true (.t 3)),
 .j 59 (.mkisl 5 [(.t 58)]),
 .j 60 (.app 200060 5 (.t 57) (.t 59)),
 .j 61 (.nilck (.t 53)),
 .j 62 (.faddr 0 (.t 61)),
 .e (.store 1 (.t 62) (.t 60))]
@[go_sem] def q20_16 : List AI := [
 .j 63 (.mov (.t 0)),
 .j 64 (.nilck (.t 63)),
 .j 65 (.faddr 0 (.t 64)),
 .j 66 (.load 1 false (.t 65)),
 .j 67 (.len 0 (.t 66)),
 .j 4 (.mov (.t 67)),
 .j 5 (.mov (.z 0))]
@[go_sem] def scriptingref18_Registry_Ref_c : AC := .seq (.ops [q20_0]) (.seq (.seq (.ops [q20_1]) (.cond (.t 9) (.seq (.ops [q20_2]) (.ret)) (.skip))) (.seq (.seq (.ops [q20_3]) (.cond (.t 12) (.seq (.ops [q20_4]) (.ret)) (.skip))) (.seq (.seq (.ops [q20_5]) (.cond (.t 15) (.seq (.ops [q20_6]) (.ret)) (.skip))) (.seq (.seq (.ops [q20_7]) (.cond (.t 18) (.seq (.ops [q20_8]) (.ret)) (.skip))) (.seq (.seq (.ops [q20_9]) (.seq (.ops [q20_10]) (.cond (.t 25) (.seq (.ops [q20_11]) (.seq (.ops [q20_12]) (.seq (.ops [q20_13]) (.seq (.ops [q20_14]) (.ret))))) (.skip)))) (.seq (.ops [q20_15]) (.seq (.ops [q20_16]) (.ret))))))))
theorem scriptingref18_Registry_Ref_ok : compF Try.prog 20 = some (68, scriptingref18_Registry_Ref_c, [.t 4, .t 5]) := by kernel_rfl

@[go_sem] def q21_0 : List AI := [
 .j 4 (.mov (.z 0))]
@[go_sem] def q21_1 : List AI := [
 .j 5 (.mov (.t 0)),
 .j 6 (.eqp 0 false (.t 5) (.c .nilp))]
@[go_sem] def q21_2 : List AI := [
 .j 4 (.mov (.z 1))]
@[go_sem] def q21_3 : List AI := [
 .j 7 (.mov (.t 1)),
 .j 8 (.bin .eql (.t 7) (.z 0))]
@[go_sem] def q21_4 : List AI := [
 .j 4 (.mov (.z 0))]
@[go_sem] def q21_5 : List AI := [
 .j 9 (.mov (.t 0)),
 .j 10 (.mov (.t 1)),
 .j 11 (.call 34 [(.t 9), (.t 10)]),
 .j 12 (.un .not (.t 11))]
@[go_sem] def q21_6 : List AI := [
 .j 4 (.mov (.z 6))]
@[go_sem] def q21_7 : List AI := [
 .j 13 (.mov (.t 0)),
 .j 14 (.nilck (.t 13)),
 .j 15 (.faddr 0 (.t 14)),
 .j 16 (.load 1 false (.t 15)),
 .j 17 (.mov (.t 1)),
 .j 18 (.bin .sub (.t 17) (.z 1)),
 .j 19 (.build [(.int .i64 0), (.int .i64 0), (.int .i64 0), (.str []), (.int .i64 0)] []),
 .j 20 (.iaddr 5 (.t 16) (.t 18)),
 .e (.store 5 (.t 20) (.t 19))]
@[go_sem] def q21_8 : List AI := [
 .j 21 (.mov (.t 0)),
 .j 22 (.mov (.t 0)),
 .j 23 (.nilck (.t 22)),
 .j 24 (.faddr 1 (.t 23)),
 .j 25 (.load 1 false (.t 24)),
 .j 26 (.mov (.t 1)),
 .j 27 (.mkisl 1 [(.t 26)]),
 .j 28 (.app 210028 1 (.t 25) (.t 27)),
 .j 29 (.nilck (.t 21)),
 .j 30 (.faddr 1 (.t 29)),
 .e (.store 1 (.t 30) (.t 28))]
@[go_sem] def q21_9 : List AI := [
 .j 4 (.mov (.z 0))]
@[go_sem] def scriptingref18_Registry_Unref_c : AC := .seq (.ops [q21_0]) (.seq (.seq (.ops [q21_1]) (.cond (.t 6) (.seq (.ops [q21_2]) (.ret)) (.skip))) (.seq (.seq (.ops [q21_3]) (.cond (.t 8) (.seq (.ops [q21_4]) (.ret)) (.skip))) (.seq (.seq (.ops [q21_5]) (.cond (.t 12) (.seq (.ops [q21_6]) (.ret)) (.skip))) (.seq (.ops [q21_7]) (.seq (.ops [q21_8]) (.seq (.ops [q21_9]) (.ret)))))))
theorem scriptingref18_Registry_Unref_ok : compF Try.prog 21 = some (31, scriptingref18_Registry_Unref_c, [.t 4]) := by kernel_rfl

@[go_sem] def q22_0 : List AI := [
 .j 4 (.box 220004 5 (.c (.agg [(.int .i64 0), (.int .i64 0), (.int .i64 0), (.str []), (.int .i64 0)]))),
 .j 5 (.mov (.z 0))]
@[go_sem] def q22_1 : List AI := [
 .j 6 (.mov (.t 0)),
 .j 7 (.eqp 0 false (.t 6) (.c .nilp))]
@[go_sem] def q22_2 : List AI := [
 .j 8 (.build [(.int .i64 0), (.int .i64 0), (.int .i64 0), (.str []), (.int .i64 0)] []),
 .e (.store 5 (.t 4) (.t 8)),
 .j 5 (.mov (.z 1))]
@[go_sem] def q22_3 : List AI := [
 .j 9 (.mov (.t 1)),
 .j 10 (.bin .eql (.t 9) (.z 0))]
@[go_sem] def q22_4 : List AI := [
 .j 11 (.build [(.int .i64 0), (.int .i64 0), (.int .i64 0), (.str []), (.int .i64 0)] []),
 .e (.store 5 (.t 4) (.t 11)),
 .j 5 (.mov (.z 0))]
@[go_sem] def q22_5 : List AI := [
 .j 12 (.mov (.t 0)),
 .j 13 (.mov (.t 1)),
 .j 14 (.call 34 [(.t 12), (.t 13)]),
 .j 15 (.un .not (.t 14))]
@[go_sem] def q22_6 : List AI := [
 .j 16 (.build [(.int .i64 0), (.int .i64 0), (.int .i64 0), (.str []), (.int .i64 0)] []),
 .e (.store 5 (.t 4) (.t 16)),
 .j 5 (.mov (.z 6))]
@[go_sem] def q22_7 : List AI := [
 .j 17 (.mov (.t 0)),
 .j 18 (.nilck (.t 17)),
 .j 19 (.faddr 0 (.t 18)),
 .j 20 (.load 1 false (.t 19)),
 .j 21 (.mov (.t 1)),
 .j 22 (.bin .sub (.t 21) (.z 1)),
 .j 23 (.iaddr 5 (.t 20) (.t 22)),
 .j 24 (.load 5 true (.t 23)),
 .e (.store 5 (.t 4) (.t 24)),
 .j 5 (.mov (.z 0))]
@[go_sem] def scriptingref18_Registry_Value_c : AC := .seq (.ops [q22_0]) (.seq (.seq (.ops [q22_1]) (.cond (.t 7) (.seq (.ops [q22_2]) (.ret)) (.skip))) (.seq (.seq (.ops [q22_3]) (.cond (.t 10) (.seq (.ops [q22_4]) (.ret)) (.skip))) (.seq (.seq (.ops [q22_5]) (.cond (.t 15) (.seq (.ops [q22_6]) (.ret)) (.skip))) (.seq (.ops [q22_7]) (.ret)))))
theorem scriptingref18_Registry_Value_ok : compF Try.prog 22 = some (25, scriptingref18_Registry_Value_c, [.c 4 5 true, .t 5]) := by kernel_rfl

@[go_sem] def q23_0 : List AI := [
 .j 5 (.box 230005 5 (.t 2)),
 .j 6 (.mov (.z 0))]
@[go_sem] def q23_1 : List AI := [
 .j 10 (.mov (.t 0)),
 .j 11 (.eqp 0 false (.t 10) (.c .nilp)),
 .j 9 (.mov (.t 11))]
@[go_sem] def q23_2 : List AI := [
 .j 6 (.mov (.z 1))]
@[go_sem] def q23_3 : List AI := [
 .j 13 (.mov (.t 1)),
 .j 14 (.len 1 (.t 13)),
 .j 15 (.bin .gtr (.t 14) (.z 4096)),
 .j 12 (.mov (.t 15))]
@[go_sem] def q23_4 : List AI := [
 .j 6 (.mov (.z 14))]
@[go_sem] def q23_5 : List AI := [
 .j 17 (.load 5 true (.t 5)),
 .j 18 (.call 31 [(.t 17)]),
 .j 19 (.un .not (.t 18)),
 .j 16 (.mov (.t 19))]
@[go_sem] def q23_6 : List AI := [
 .j 6 (.mov (.z 2))]
@[go_sem] def q23_7 : List AI := [
 .j 21 (.faddr 0 (.t 5)),
 .j 22 (.load 1 false (.t 21)),
 .j 23 (.bin .eql (.t 22) (.z 0)),
 .j 20 (.mov (.t 23))]
@[go_sem] def q23_8 : List AI := [
 .j 24 (.mov (.t 0)),
 .j 25 (.nilck (.t 24)),
 .j 26 (.faddr 2 (.t 25)),
 .j 27 (.load 1 false (.t 26)),
 .j 28 (.mov (.t 1)),
 .e (.mdel 1 (.t 27) (.t 28))]
@[go_sem] def q23_9 : List AI := [
 .j 6 (.mov (.z 0))]
@[go_sem] def q23_10 : List AI := [
 .j 30 (.mov (.t 0)),
 .j 31 (.nilck (.t 30)),
 .j 32 (.faddr 2 (.t 31)),
 .j 33 (.load 1 false (.t 32)),
 .j 34 (.mov (.t 1)),
 .j 35 (.look 1 (.agg [(.int .i64 0), (.int .i64 0), (.int .i64 0), (.str []), (.int .i64 0)]) true (.t 33) (.t 34)),
 .j 29 (.mov (.t 35)),
 .j 36 (.ext 0 (.t 29)),
 .j 37 (.ext 1 (.t 29)),
 .j 7 (.box 230007 5 (.c (.agg [(.int .i64 0), (.int .i64 0), (.int .i64 0), (.str []), (.int .i64 0)]))),
 .e (.store 5 (.t 7) (.t 36)),
 .j 8 (.mov (.t 37))]
@[go_sem] def q23_11 : List AI := [
 .j 38 (.mov (.t 8)),
 .j 39 (.un .not (.t 38)),
 .j 40 (.mov (.t 39)),
 .k 41 40 true (.mov (.t 0)),
 .k 42 40 true (.nilck (.t 41)),
 .k 43 40 true (.faddr 2 (.t 42)),
 .k 44 40 true (.load 1 false (.t 43)),
 .k 45 40 true (.len 2 (.t 44)),
 .k 46 40 true (.bin .geq (.t 45) (.z 1000)),
 .j 47 (.pick (.t 40) (.t 46) (.c (.bool false)))]
@[go_sem] def q23_12 : List AI := [
 .j 6 (.mov (.z 17))]
@[go_sem] def q23_13 : List AI := [
 .j 48 (.mov (.t 0)),
 .j 49 (.nilck (.t 48)),
 .j 50 (.faddr 2 (.t 49)),
 .j 51 (.load 1 false (.t 50)),
 .j 52 (.mov (.t 1)),
 .j 53 (.load 5 true (.t 5)),
 .e (.mput 1 (.t 51) (.t 52) (.t 53))]
@[go_sem] def q23_14 : List AI := [
 .j 6 (.mov (.z 0))]
@[go_sem] def registry_Registry_Put_c : AC := .seq (.ops [q23_0]) (.seq (.block 0 (.seq (.ops [q23_1]) (.cond (.t 9) (.seq (.ops [q23_2]) (.ret)) (.seq (.ops [q23_3]) (.cond (.t 12) (.seq (.ops [q23_4]) (.ret)) (.seq (.ops [q23_5]) (.cond (.t 16) (.seq (.ops [q23_6]) (.ret)) (.seq (.ops [q23_7]) (.cond (.t 20) (.seq (.ops [q23_8]) (.seq (.ops [q23_9]) (.ret))) (.skip)))))))))) (.seq (.seq (.ops [q23_10]) (.seq (.ops [q23_11]) (.cond (.t 47) (.seq (.ops [q23_12]) (.ret)) (.skip)))) (.seq (.ops [q23_13]) (.seq (.ops [q23_14]) (.ret)))))
theorem registry_Registry_Put_ok : compF Try.prog 23 = some (54, registry_Registry_Put_c, [.t 6]) := by kernel_rfl

@[go_sem] def q24_0 : List AI := [
 .j 5 (.box 240005 5 (.t 2)),
 .j 6 (.mov (.z 0))]
@[go_sem] def q24_1 : List AI := [
 .j 9 (.mov (.t 0)),
 .j 10 (.eqp 0 false (.t 9) (.c .nilp))]
@[go_sem] def q24_2 : List AI := [
 .j 6 (.mov (.z 1))]
@[go_sem] def q24_3 : List AI := [
 .j 11 (.mov (.t 1)),
 .j 12 (.len 1 (.t 11)),
 .j 13 (.bin .gtr (.t 12) (.z 4096))]
@[go_sem] def q24_4 : List AI := [
 .j 6 (.mov (.z 14))]
@[go_sem] def q24_5 : List AI := [
 .j 14 (.load 5 true (.t 5)),
 .j 15 (.call 32 [(.t 14)]),
 .j 16 (.un .not (.t 15))]
@[go_sem] def q24_6 : List AI := [
 .j 6 (.mov (.z 2))]
@[go_sem] def q24_7 : List AI := [
 .j 17 (.mov (.t 0)),
 .j 18 (.mov (.t 1)),
 .j 19 (.call 35 [(.t 17), (.t 18)]),
 .j 7 (.mov (.t 19))]
@[go_sem] def q24_8 : List AI := [
 .j 20 (.faddr 0 (.t 5)),
 .j 21 (.load 1 false (.t 20)),
 .j 22 (.bin .eql (.t 21) (.z 0))]
@[go_sem] def q24_9 : List AI := [
 .j 23 (.mov (.t 7)),
 .j 24 (.bin .geq (.t 23) (.z 0))]
@[go_sem] def q24_10 : List AI := [
 .j 25 (.mkrow 240025 6 []),
 .j 26 (.mov (.t 0)),
 .j 27 (.nilck (.t 26)),
 .j 28 (.faddr 2 (.t 27)),
 .j 29 (.load 1 false (.t 28)),
 .j 30 (.mov (.t 7)),
 .j 31 (.slc 6 (.t 29) none (some (.t 30))),
 .j 32 (.app 240032 6 (.t 25) (.t 31)),
 .j 8 (.mov (.t 32))]
@[go_sem] def q24_11 : List AI := [
 .j 33 (.mov (.t 0)),
 .j 34 (.mov (.t 8)),
 .j 35 (.mov (.t 0)),
 .j 36 (.nilck (.t 35)),
 .j 37 (.faddr 2 (.t 36)),
 .j 38 (.load 1 false (.t 37)),
 .j 39 (.mov (.t 7)),
 .j 40 (.bin .add (.t 39) (.z 1)),
 .j 41 (.slc 6 (.t 38) (some (.t 40)) none),
 .j 42 (.app 240042 6 (.t 34) (.t 41)),
 .j 43 (.nilck (.t 33)),
 .j 44 (.faddr 2 (.t 43)),
 .e (.store 1 (.t 44) (.t 42))]
@[go_sem] def q24_12 : List AI := [
 .j 6 (.mov (.z 0))]
@[go_sem] def q24_13 : List AI := [
 .j 45 (.mov (.t 7)),
 .j 46 (.bin .geq (.t 45) (.z 0))]
@[go_sem] def q24_14 : List AI := [
 .j 47 (.mov (.t 0)),
 .j 48 (.nilck (.t 47)),
 .j 49 (.faddr 2 (.t 48)),
 .j 50 (.load 1 false (.t 49)),
 .j 51 (.mov (.t 7)),
 .j 52 (.load 5 true (.t 5)),
 .j 53 (.iaddr 6 (.t 50) (.t 51)),
 .j 54 (.faddr 1 (.t 53)),
 .e (.store 5 (.t 54) (.t 52))]
@[go_sem] def q24_15 : List AI := [
 .j 6 (.mov (.z 0))]
@[go_sem] def q24_16 : List AI := [
 .j 55 (.mov (.t 0)),
 .j 56 (.nilck (.t 55)),
 .j 57 (.faddr 2 (.t 56)),
 .j 58 (.load 1 false (.t 57)),
 .j 59 (.len 0 (.t 58)),
 .j 60 (.bin .geq (.t 59) (.z 1000))]
@[go_sem] def q24_17 : List AI := [
 .j 6 (.mov (.z 17))]
@[go_sem] def q24_18 : List AI := [
 .j 61 (.mov (.t 0)),
 .j 62 (.mov (.t 0)),
 .j 63 (.nilck (.t 62)),
 .j 64 (.faddr 2 (.t 63)),
 .j 65 (.load 1 false (.t 64)),
 .j 66 (.mov (.t 1)),
 .j 67 (.load 5 true (.t 5)),
 .j 68 (.build [(.str []), (.int .i64 0), (.int .i64 0), (.int .i64 0), (.str []), (.int .i64 0)] [(0, 1, (.t 66)), (1, 5, (.t 67))]),
 .j 69 (.mkisl 6 [(.t 68)]),
 .j 70 (.app 240070 6 (.t 65) (.t 69)),
 .j 71 (.nilck (.t 61)),
 .j 72 (.faddr 2 (.t 71)),
 .e (.store 1 (.t 72) (.t 70))]
@[go_sem] def q24_19 : List AI := [
 .j 6 (.mov (.z 0))]
@[go_sem] def scriptingref18_Registry_Put_c : AC := .seq (.ops [q24_0]) (.seq (.seq (.ops [q24_1]) (.cond (.t 10) (.seq (.ops [q24_2]) (.ret)) (.skip))) (.seq (.seq (.ops [q24_3]) (.cond (.t 13) (.seq (.ops [q24_4]) (.ret)) (.skip))) (.seq (.seq (.ops [q24_5]) (.cond (.t 16) (.seq (.ops [q24_6]) (.ret)) (.skip))) (.seq (.ops [q24_7]) (.seq (.seq (.ops [q24_8]) (.cond (.t 22) (.seq (.seq (.ops [q24_9]) (.cond (.t 24) (.seq (.ops [q24_10]) (.ops [q24_11])) (.skip))) (.seq (.ops [q24_12]) (.ret))) (.skip))) (.seq (.seq (.ops [q24_13]) (.cond (.t 46) (.seq (.ops [q24_14]) (.seq (.ops [q24_15]) (.ret))) (.skip))) (.seq (.seq (.ops [q24_16]) (.cond (.t 60) (.seq (.ops [q24_17]) (.ret)) (.skip))) (.seq (.ops [q24_18]) (.seq (.ops [q24_19]) (.ret))))))))))
theorem scriptingref18_Registry_Put_ok : compF Try.prog 24 = some (73, scriptingref18_Registry_Put_c, [.t 6]) := by kernel_rfl

@[go_sem] def q25_0 : List AI := [
 .j 4 (.box 250004 5 (.c (.agg [(.int .i64 0), (.int .i64 0), (.int .i64 0), (.str []), (.int .i64 0)]))),
 .j 5 (.mov (.c (.bool false)))]
@[go_sem] def q25_1 : List AI := [
 .j 7 (.mov (.t 0)),
 .j 8 (.eqp 0 false (.t 7) (.c .nilp))]
@[go_sem] def q25_2 : List AI := [
 .j 9 (.build [(.int .i64 0), (.int .i64 0), (.int .i64 0), (.str []), (.int .i64 0)] []),
 .e (.store 5 (.t 4) (.t 9)),
 .j 5 (.mov (.c (.bool false)))]
@[go_sem] def q25_3 : List AI := [
 .j 10 (.mov (.t 0)),
 .j 11 (.mov (.t 1)),
 .j 12 (.call 35 [(.t 10), (.t 11)]),
 .j 6 (.mov (.t 12))]
@[go_sem] def q25_4 : List AI := [
 .j 13 (.mov (.t 6)),
 .j 14 (.bin .lss (.t 13) (.z 0))]
@[go_sem] def q25_5 : List AI := [
 .j 15 (.build [(.int .i64 0), (.int .i64 0), (.int .i64 0), (.str []), (.int .i64 0)] []),
 .e (.store 5 (.t 4) (.t 15)),
 .j 5 (.mov (.c (.bool false)))]
@[go_sem] def q25_6 : List AI := [
 .j 16 (.mov (.t 0)),
 .j 17 (.nilck (.t 16)),
 .j 18 (.faddr 2 (.t 17)),
 .j 19 (.load 1 false (.t 18)),
 .j 20 (.mov (.t 6)),
 .j 21 (.iaddr 6 (.t 19) (.t 20)),
 .j 22 (.faddr 1 (.t 21)),
 .j 23 (.load 5 true (.t 22)),
 .e (.store 5 (.t 4) (.t 23)),
 .j 5 (.mov (.c (.bool true)))]
@[go_sem] def scriptingref18_Registry_Find_c : AC := .seq (.ops [q25_0]) (.seq (.seq (.ops [q25_1]) (.cond (.t 8) (.seq (.ops [q25_2]) (.ret)) (.skip))) (.seq (.ops [q25_3]) (.seq (.seq (.ops [q25_4]) (.cond (.t 14) (.seq (.ops [q25_5]) (.ret)) (.skip))) (.seq (.ops [q25_6]) (.ret)))))
theorem scriptingref18_Registry_Find_ok : compF Try.prog 25 = some (24, scriptingref18_Registry_Find_c, [.c 4 5 true, .t 5]) := by kernel_rfl

@[go_sem] def q26_0 : List AI := [
 .j 2 (.mov (.z 0))]
@[go_sem] def q26_1 : List AI := [
 .j 3 (.mov (.t 0)),
 .j 4 (.eqp 0 false (.t 3) (.c .nilp))]
@[go_sem] def q26_2 : List AI := [
 .j 2 (.mov (.z 0))]
@[go_sem] def q26_3_0 : List AI := [
 .j 5 (.mov (.t 0)),
 .j 7 (.mov (.t 0)),
 .j 8 (.nilck (.t 7)),
 .j 9 (.faddr 2 (.t 8)),
 .j 10 (.load 1 false (.t 9)),
 .j 11 (.len 0 (.t 10)),
 .j 6 (.call 33 [(.t 5)]),
 .j 12 (.bin .add (.t 6) (.t 11)),
 .j 2 (.mov (.t 12))]
@[go_sem] def q26_3_1 : List AI := [
 .j 5 (.mov (.t 0)),
 .j 7 (.mov (.t 0)),
 .j 8 (.nilck (.t 7)),
 .j 9 (.faddr 2 (.t 8)),
 .j 10 (.load 1 false (.t 9)),
 .j 6 (.call 33 [(.t 5)]),
 .j 11 (.len 0 (.t 10)),
 .j 12 (.bin .add (.t 6) (.t 11)),
 .j 2 (.mov (.t 12))]
@[go_sem] def q26_3_2 : List AI := [
 .j 5 (.mov (.t 0)),
 .j 7 (.mov (.t 0)),
 .j 8 (.nilck (.t 7)),
 .j 9 (.faddr 2 (.t 8)),
 .j 6 (.call 33 [(.t 5)]),
 .j 10 (.load 1 false (.t 9)),
 .j 11 (.len 0 (.t 10)),
 .j 12 (.bin .add (.t 6) (.t 11)),
 .j 2 (.mov (.t 12))]
@[go_sem] def scriptingref18_Registry_Len_c : AC := .seq (.ops [q26_0]) (.seq (.seq (.ops [q26_1]) (.cond (.t 4) (.seq (.ops [q26_2]) (.ret)) (.skip))) (.seq (.ops [q26_3_0, q26_3_1, q26_3_2]) (.ret)))
theorem scriptingref18_Registry_Len_ok : compF Try.prog 26 = some (13, scriptingref18_Registry_Len_c, [.t 2]) := by kernel_rfl

@[go_sem] def q27_0 : List AI := [
 .j 4 (.mov (.c (.bool false)))]
@[go_sem] def q27_1 : List AI := [
 .j 6 (.mov (.t 0)),
 .j 7 (.len 0 (.t 6)),
 .j 8 (.mov (.t 1)),
 .j 9 (.len 0 (.t 8)),
 .j 10 (.bin .neq (.t 7) (.t 9))]
@[go_sem] def q27_2 : List AI := [
 .j 4 (.mov (.c (.bool false)))]
@[go_sem] def q27_3 : List AI := [
 .j 5 (.mov (.z 0))]
@[go_sem] def q27_4 : List AI := [
 .j 11 (.mov (.t 5)),
 .j 12 (.mov (.t 0)),
 .j 13 (.len 0 (.t 12)),
 .j 14 (.bin .lss (.t 11) (.t 13))]
@[go_sem] def q27_5 : List AI := [
 .j 17 (.mov (.t 0)),
 .j 18 (.mov (.t 5)),
 .j 19 (.iaddr 1 (.t 17) (.t 18)),
 .j 20 (.load 1 false (.t 19)),
 .j 21 (.mov (.t 1)),
 .j 22 (.mov (.t 5)),
 .j 23 (.iaddr 1 (.t 21) (.t 22)),
 .j 24 (.load 1 false (.t 23)),
 .j 25 (.bin .neq (.t 20) (.t 24))]
@[go_sem] def q27_6 : List AI := [
 .j 4 (.mov (.c (.bool false)))]
@[go_sem] def q27_7 : List AI := [
 .j 15 (.mov (.t 5)),
 .j 16 (.bin .add (.t 15) (.z 1)),
 .j 5 (.mov (.t 16))]
@[go_sem] def scriptinglaw18_ints_l0' : AC := .seq (.seq (.ops [q27_4]) (.cond (.t 14) (.skip) (.exit 0))) (.seq (.block 1 (.seq (.ops [q27_5]) (.cond (.t 25) (.seq (.ops [q27_6]) (.ret)) (.skip)))) (.ops [q27_7]))
def scriptinglaw18_ints_l0 : AC := scriptinglaw18_ints_l0'
theorem scriptinglaw18_ints_l0_eq : scriptinglaw18_ints_l0 = scriptinglaw18_ints_l0' := rfl
@[go_sem] def q27_8 : List AI := [
 .j 4 (.mov (.c (.bool true)))]
@[go_sem] def scriptinglaw18_ints_c : AC := .seq (.ops [q27_0]) (.seq (.seq (.ops [q27_1]) (.cond (.t 10) (.seq (.ops [q27_2]) (.ret)) (.skip))) (.seq (.seq (.ops [q27_3]) (.block 0 (.loop scriptinglaw18_ints_l0))) (.seq (.ops [q27_8]) (.ret))))
theorem scriptinglaw18_ints_ok : compF Try.prog 27 = some (26, scriptinglaw18_ints_c, [.t 4]) := by kernel_rfl

@[go_sem] def q28_0 : List AI := [
 .j 2 (.mov (.c .nils))]
@[go_sem] def q28_1 : List AI := [
 .j 3 (.mov (.c .nils))]
@[go_sem] def q28_2 : List AI := [
 .j 6 (.mov (.t 0)),
 .j 7 (.eqp 0 false (.t 6) (.c .nilp))]
@[go_sem] def q28_3 : List AI := [
 .j 8 (.mov (.t 3)),
 .j 2 (.mov (.t 8))]
@[go_sem] def q28_4 : List AI := [
 .j 4 (.mov (.z 0))]
@[go_sem] def q28_5 : List AI := [
 .j 9 (.mov (.t 4)),
 .j 10 (.mov (.t 0)),
 .j 11 (.nilck (.t 10)),
 .j 12 (.faddr 0 (.t 11)),
 .j 13 (.load 1 false (.t 12)),
 .j 14 (.len 0 (.t 13)),
 .j 15 (.bin .lss (.t 9) (.t 14))]
@[go_sem] def q28_6 : List AI := [
 .j 18 (.mov (.t 3)),
 .j 19 (.mov (.t 0)),
 .j 20 (.nilck (.t 19)),
 .j 21 (.faddr 0 (.t 20)),
 .j 22 (.load 1 false (.t 21)),
 .j 23 (.mov (.t 4)),
 .j 24 (.iaddr 5 (.t 22) (.t 23)),
 .j 25 (.load 5 true (.t 24)),
 .j 26 (.call 36 [(.t 18), (.t 25)]),
 .j 3 (.mov (.t 26))]
@[go_sem] def q28_7 : List AI := [
 .j 16 (.mov (.t 4)),
 .j 17 (.bin .add (.t 16) (.z 1)),
 .j 4 (.mov (.t 17))]
@[go_sem] def scriptingref18_Registry_Roots_l0' : AC := .seq (.seq (.ops [q28_5]) (.cond (.t 15) (.skip) (.exit 0))) (.seq (.block 1 (.ops [q28_6])) (.ops [q28_7]))
def scriptingref18_Registry_Roots_l0 : AC := scriptingref18_Registry_Roots_l0'
theorem scriptingref18_Registry_Roots_l0_eq : scriptingref18_Registry_Roots_l0 = scriptingref18_Registry_Roots_l0' := rfl
@[go_sem] def q28_8 : List AI := [
 .j 5 (.mov (.z 0))]
@[go_sem] def q28_9 : List AI := [
 .j 27 (.mov (.t 5)),
 .j 28 (.mov (.t 0)),
 .j 29 (.nilck (.t 28)),
 .j 30 (.faddr 2 (.t 29)),
 .j 31 (.load 1 false (.t 30)),
 .j 32 (.len 0 (.t 31)),
 .j 33 (.bin .lss (.t 27) (.t 32))]
@[go_sem] def q28_10 : List AI := [
 .j 36 (.mov (.t 3)),
 .j 37 (.mov (.t 0)),
 .j 38 (.nilck (.t 37)),
 .j 39 (.faddr 2 (.t 38)),
 .j 40 (.load 1 false (.t 39)),
 .j 41 (.mov (.t 5)),
 .j 42 (.iaddr 6 (.t 40) (.t 41)),
 .j 43 (.faddr 1 (.t 42)),
 .j 44 (.load 5 true (.t 43)),
 .j 45 (.call 36 [(.t 36), (.t 44)]),
 .j 3 (.mov (.t 45))]
@[go_sem] def q28_11 : List AI := [
 .j 34 (.mov (.t 5)),
 .j 35 (.bin .add (.t 34) (.z 1)),
 .j 5 (.mov (.t 35))]
@[go_sem] def scriptingref18_Registry_Roots_l1' : AC := .seq (.seq (.ops [q28_9]) (.cond (.t 33) (.skip) (.exit 2))) (.seq (.block 3 (.ops [q28_10])) (.ops [q28_11]))
def scriptingref18_Registry_Roots_l1 : AC := scriptingref18_Registry_Roots_l1'
theorem scriptingref18_Registry_Roots_l1_eq : scriptingref18_Registry_Roots_l1 = scriptingref18_Registry_Roots_l1' := rfl
@[go_sem] def q28_12 : List AI := [
 .j 46 (.mov (.t 3)),
 .j 2 (.mov (.t 46))]
@[go_sem] def scriptingref18_Registry_Roots_c : AC := .seq (.ops [q28_0]) (.seq (.ops [q28_1]) (.seq (.seq (.ops [q28_2]) (.cond (.t 7) (.seq (.ops [q28_3]) (.ret)) (.skip))) (.seq (.seq (.ops [q28_4]) (.block 0 (.loop scriptingref18_Registry_Roots_l0))) (.seq (.seq (.ops [q28_8]) (.block 2 (.loop scriptingref18_Registry_Roots_l1))) (.seq (.ops [q28_12]) (.ret))))))
theorem scriptingref18_Registry_Roots_ok : compF Try.prog 28 = some (47, scriptingref18_Registry_Roots_c, [.t 2]) := by kernel_rfl

@[go_sem] def q29_0 : List AI := [
 .j 4 (.mov (.c (.bool false)))]
@[go_sem] def q29_1 : List AI := [
 .j 5 (.mov (.t 1)),
 .j 6 (.bin .geq (.t 5) (.z 1)),
 .j 7 (.mov (.t 6)),
 .k 8 7 true (.mov (.t 1)),
 .k 9 7 true (.mov (.t 0)),
 .k 10 7 true (.nilck (.t 9)),
 .k 11 7 true (.faddr 0 (.t 10)),
 .k 12 7 true (.load 1 false (.t 11)),
 .k 13 7 true (.len 0 (.t 12)),
 .k 14 7 true (.bin .leq (.t 8) (.t 13)),
 .j 15 (.pick (.t 7) (.t 14) (.c (.bool false))),
 .j 16 (.mov (.t 15)),
 .k 17 16 true (.mov (.t 0)),
 .k 18 16 true (.nilck (.t 17)),
 .k 19 16 true (.faddr 0 (.t 18)),
 .k 20 16 true (.load 1 false (.t 19)),
 .k 21 16 true (.mov (.t 1)),
 .k 22 16 true (.bin .sub (.t 21) (.z 1)),
 .k 23 16 true (.iaddr 5 (.t 20) (.t 22)),
 .k 24 16 true (.faddr 0 (.t 23)),
 .k 25 16 true (.load 1 false (.t 24)),
 .k 26 16 true (.bin .neq (.t 25) (.z 0)),
 .j 27 (.pick (.t 16) (.t 26) (.c (.bool false))),
 .j 4 (.mov (.t 27))]
@[go_sem] def registry_Registry_used_c : AC := .seq (.ops [q29_0]) (.seq (.ops [q29_1]) (.ret))
theorem registry_Registry_used_ok : compF Try.prog 29 = some (28, registry_Registry_used_c, [.t 4]) := by kernel_rfl

@[go_sem] def q30_0 : List AI := [
 .j 2 (.mov (.c .nils))]
@[go_sem] def q30_1 : List AI := [
 .j 3 (.mov (.c .nils))]
@[go_sem] def q30_2 : List AI := [
 .j 6 (.mov (.t 0)),
 .j 7 (.call 37 [(.t 6)]),
 .j 8 (.len 0 (.t 7)),
 .j 9 (.mov (.z 0))]
@[go_sem] def q30_3 : List AI := [
 .j 10 (.bin .lss (.t 9) (.t 8))]
@[go_sem] def q30_4 : List AI := [
 .j 11 (.iaddr 5 (.t 7) (.t 9)),
 .j 12 (.load 5 true (.t 11)),
 .j 5 (.box 300005 5 (.c (.agg [(.int .i64 0), (.int .i64 0), (.int .i64 0), (.str []), (.int .i64 0)]))),
 .e (.store 5 (.t 5) (.t 12))]
@[go_sem] def q30_5 : List AI := [
 .j 13 (.faddr 0 (.t 5)),
 .j 14 (.load 1 false (.t 13))]
@[go_sem] def q30_6 : List AI := [
 .j 16 (.bin .eql (.t 14) (.z 4)),
 .j 15 (.mov (.t 16))]
@[go_sem] def q30_7 : List AI := [
 .j 17 (.bin .eql (.t 14) (.z 5)),
 .j 15 (.mov (.t 17))]
@[go_sem] def q30_8 : List AI := [
 .j 18 (.bin .eql (.t 14) (.z 7)),
 .j 15 (.mov (.t 18))]
@[go_sem] def q30_9 : List AI := [
 .j 19 (.bin .eql (.t 14) (.z 8)),
 .j 15 (.mov (.t 19))]
@[go_sem] def q30_10 : List AI := [
 .j 20 (.mov (.t 3)),
 .j 21 (.faddr 4 (.t 5)),
 .j 22 (.load 1 false (.t 21)),
 .j 23 (.mkisl 1 [(.t 22)]),
 .j 24 (.app 300024 1 (.t 20) (.t 23)),
 .j 3 (.mov (.t 24))]
@[go_sem] def q30_11 : List AI := [
 .j 25 (.bin .add (.t 9) (.z 1)),
 .j 9 (.mov (.t 25))]
@[go_sem] def registry_identities_l0' : AC := .seq (.ops [q30_3]) (.seq (.cond (.t 10) (.skip) (.exit 0)) (.seq (.block 1 (.seq (.ops [q30_4]) (.seq (.ops [q30_5]) (.block 2 (.seq (.seq (.ops [q30_6]) (.cond (.t 15) (.skip) (.seq (.ops [q30_7]) (.cond (.t 15) (.skip) (.seq (.ops [q30_8]) (.cond (.t 15) (.skip) (.ops [q30_9]))))))) (.cond (.t 15) (.ops [q30_10]) (.skip))))))) (.ops [q30_11])))
def registry_identities_l0 : AC := registry_identities_l0'
theorem registry_identities_l0_eq : registry_identities_l0 = registry_identities_l0' := rfl
@[go_sem] def q30_12 : List AI := [
 .j 26 (.mov (.t 3)),
 .j 27 (.call 38 [(.t 26)])]
@[go_sem] def q30_13 : List AI := [
 .j 28 (.mov (.t 3)),
 .j 29 (.call 39 [(.t 28)]),
 .j 2 (.mov (.t 29))]
@[go_sem] def registry_identities_c : AC := .seq (.ops [q30_0]) (.seq (.ops [q30_1]) (.seq (.seq (.ops [q30_2]) (.block 0 (.loop registry_identities_l0))) (.seq (.ops [q30_12]) (.seq (.ops [q30_13]) (.ret)))))
theorem registry_identities_ok : compF Try.prog 30 = some (30, registry_identities_c, [.t 2]) := by kernel_rfl

@[go_sem] def q31_0 : List AI := [
 .j 1 (.box 310001 5 (.t 0)),
 .j 2 (.mov (.c (.bool false)))]
@[go_sem] def q31_1 : List AI := [
 .j 5 (.faddr 0 (.t 1)),
 .j 6 (.load 1 false (.t 5)),
 .j 7 (.build [(.int .i64 0), (.int .i64 0), (.int .i64 0), (.str []), (.int .i64 0)] [(0, 1, (.t 6))]),
 .j 3 (.box 310003 5 (.c (.agg [(.int .i64 0), (.int .i64 0), (.int .i64 0), (.str []), (.int .i64 0)]))),
 .e (.store 5 (.t 3) (.t 7))]
@[go_sem] def q31_2 : List AI := [
 .j 4 (.mov (.c (.bool true)))]
@[go_sem] def q31_3 : List AI := [
 .j 8 (.faddr 0 (.t 1)),
 .j 9 (.load 1 false (.t 8))]
@[go_sem] def q31_4 : List AI := [
 .j 11 (.bin .eql (.t 9) (.z 0)),
 .j 10 (.mov (.t 11))]
@[go_sem] def q31_5 : List AI := [
 .j 13 (.bin .eql (.t 9) (.z 1)),
 .j 12 (.mov (.t 13))]
@[go_sem] def q31_6 : List AI := [
 .j 14 (.faddr 4 (.t 1)),
 .j 15 (.load 1 false (.t 14)),
 .j 16 (.faddr 4 (.t 3)),
 .e (.store 1 (.t 16) (.t 15))]
@[go_sem] def q31_7 : List AI := [
 .j 17 (.faddr 4 (.t 1)),
 .j 18 (.load 1 false (.t 17)),
 .j 19 (.bin .eql (.t 18) (.z 0)),
 .j 20 (.mov (.t 19)),
 .k 21 20 false (.faddr 4 (.t 1)),
 .k 22 20 false (.load 1 false (.t 21)),
 .k 23 20 false (.bin .eql (.t 22) (.z 1)),
 .j 24 (.pick (.t 20) (.c (.bool true)) (.t 23)),
 .j 4 (.mov (.t 24))]
@[go_sem] def q31_8 : List AI := [
 .j 26 (.bin .eql (.t 9) (.z 2)),
 .j 25 (.mov (.t 26))]
@[go_sem] def q31_9 : List AI := [
 .j 27 (.faddr 1 (.t 1)),
 .j 28 (.load 2 true (.t 27)),
 .j 29 (.faddr 1 (.t 3)),
 .e (.store 2 (.t 29) (.t 28))]
@[go_sem] def q31_10 : List AI := [
 .j 30 (.faddr 1 (.t 1)),
 .j 31 (.load 2 true (.t 30)),
 .j 32 (.call 40 [(.t 31)]),
 .j 4 (.mov (.t 32))]
@[go_sem] def q31_11 : List AI := [
 .j 34 (.bin .eql (.t 9) (.z 3)),
 .j 33 (.mov (.t 34))]
@[go_sem] def q31_12 : List AI := [
 .j 35 (.faddr 3 (.t 1)),
 .j 36 (.load 1 false (.t 35)),
 .j 37 (.faddr 3 (.t 3)),
 .e (.store 1 (.t 37) (.t 36))]
@[go_sem] def q31_13 : List AI := [
 .j 38 (.faddr 3 (.t 1)),
 .j 39 (.load 1 false (.t 38)),
 .j 40 (.len 1 (.t 39)),
 .j 41 (.bin .leq (.t 40) (.z 4096)),
 .j 4 (.mov (.t 41))]
@[go_sem] def q31_14 : List AI := [
 .j 43 (.bin .eql (.t 9) (.z 4)),
 .j 42 (.mov (.t 43))]
@[go_sem] def q31_15 : List AI := [
 .j 44 (.bin .eql (.t 9) (.z 5)),
 .j 42 (.mov (.t 44))]
@[go_sem] def q31_16 : List AI := [
 .j 45 (.bin .eql (.t 9) (.z 7)),
 .j 42 (.mov (.t 45))]
@[go_sem] def q31_17 : List AI := [
 .j 46 (.bin .eql (.t 9) (.z 8)),
 .j 42 (.mov (.t 46))]
@[go_sem] def q31_18 : List AI := [
 .j 47 (.faddr 4 (.t 1)),
 .j 48 (.load 1 false (.t 47)),
 .j 49 (.faddr 4 (.t 3)),
 .e (.store 1 (.t 49) (.t 48))]
@[go_sem] def q31_19 : List AI := [
 .j 50 (.faddr 4 (.t 1)),
 .j 51 (.load 1 false (.t 50)),
 .j 52 (.bin .geq (.t 51) (.z 1)),
 .j 4 (.mov (.t 52))]
@[go_sem] def q31_20 : List AI := [
 .j 54 (.bin .eql (.t 9) (.z 6)),
 .j 53 (.mov (.t 54))]
@[go_sem] def q31_21 : List AI := [
 .j 55 (.faddr 3 (.t 1)),
 .j 56 (.load 1 false (.t 55)),
 .j 57 (.faddr 3 (.t 3)),
 .e (.store 1 (.t 57) (.t 56))]
@[go_sem] def q31_22 : List AI := [
 .j 58 (.faddr 3 (.t 1)),
 .j 59 (.load 1 false (.t 58)),
 .j 60 (.len 1 (.t 59)),
 .j 61 (.bin .geq (.t 60) (.z 1)),
 .j 62 (.mov (.t 61)),
 .k 63 62 true (.faddr 3 (.t 1)),
 .k 64 62 true (.load 1 false (.t 63)),
 .k 65 62 true (.len 1 (.t 64)),
 .k 66 62 true (.bin .leq (.t 65) (.z 4096)),
 .j 67 (.pick (.t 62) (.t 66) (.c (.bool false))),
 .j 4 (.mov (.t 67))]
@[go_sem] def q31_23 : List AI := [
 .j 4 (.mov (.c (.bool false)))]
@[go_sem] def q31_24 : List AI := [
 .j 68 (.mov (.t 4)),
 .j 69 (.mov (.t 68)),
 .k 70 69 true (.load 5 true (.t 1)),
 .k 71 69 true (.load 5 true (.t 3)),
 .k 72 69 true (.eqa false (.agg [(0, 1, (.leaf 1)), (1, 2, (.agg [(0, 1, (.leaf 1)), (1, 1, (.leaf 1))])), (3, 1, (.leaf 2)), (4, 1, (.leaf 1))]) (.t 70) (.t 71)),
 .j 73 (.pick (.t 69) (.t 72) (.c (.bool false))),
 .j 2 (.mov (.t 73))]
@[go_sem] def value_Valid_c : AC := .seq (.ops [q31_0]) (.seq (.ops [q31_1]) (.seq (.ops [q31_2]) (.seq (.seq (.ops [q31_3]) (.block 0 (.seq (.ops [q31_4]) (.cond (.t 10) (.skip) (.seq (.ops [q31_5]) (.cond (.t 12) (.seq (.ops [q31_6]) (.ops [q31_7])) (.seq (.ops [q31_8]) (.cond (.t 25) (.seq (.ops [q31_9]) (.ops [q31_10])) (.seq (.ops [q31_11]) (.cond (.t 33) (.seq (.ops [q31_12]) (.ops [q31_13])) (.seq (.seq (.ops [q31_14]) (.cond (.t 42) (.skip) (.seq (.ops [q31_15]) (.cond (.t 42) (.skip) (.seq (.ops [q31_16]) (.cond (.t 42) (.skip) (.ops [q31_17]))))))) (.cond (.t 42) (.seq (.ops [q31_18]) (.ops [q31_19])) (.seq (.ops [q31_20]) (.cond (.t 53) (.seq (.ops [q31_21]) (.ops [q31_22])) (.ops [q31_23]))))))))))))))) (.seq (.ops [q31_24]) (.ret)))))
theorem value_Valid_ok : compF Try.prog 31 = some (74, value_Valid_c, [.t 2]) := by kernel_rfl

@[go_sem] def q32_0 : List AI := [
 .j 1 (.box 320001 5 (.t 0)),
 .j 2 (.mov (.c (.bool false)))]
@[go_sem] def q32_1 : List AI := [
 .j 3 (.faddr 0 (.t 1)),
 .j 4 (.load 1 false (.t 3))]
@[go_sem] def q32_2 : List AI := [
 .j 6 (.bin .eql (.t 4) (.z 0)),
 .j 5 (.mov (.t 6))]
@[go_sem] def q32_3 : List AI := [
 .j 7 (.load 5 true (.t 1)),
 .j 8 (.build [(.int .i64 0), (.int .i64 0), (.int .i64 0), (.str []), (.int .i64 0)] []),
 .j 9 (.eqa false (.agg [(0, 1, (.leaf 1)), (1, 2, (.agg [(0, 1, (.leaf 1)), (1, 1, (.leaf 1))])), (3, 1, (.leaf 2)), (4, 1, (.leaf 1))]) (.t 7) (.t 8)),
 .j 2 (.mov (.t 9))]
@[go_sem] def q32_4 : List AI := [
 .j 11 (.bin .eql (.t 4) (.z 1)),
 .j 10 (.mov (.t 11))]
@[go_sem] def q32_5 : List AI := [
 .j 12 (.load 5 true (.t 1)),
 .j 13 (.faddr 4 (.t 1)),
 .j 14 (.load 1 false (.t 13)),
 .j 15 (.build [(.int .i64 0), (.int .i64 0), (.int .i64 0), (.str []), (.int .i64 0)] [(0, 1, (.z 1)), (4, 1, (.t 14))]),
 .j 16 (.eqa false (.agg [(0, 1, (.leaf 1)), (1, 2, (.agg [(0, 1, (.leaf 1)), (1, 1, (.leaf 1))])), (3, 1, (.leaf 2)), (4, 1, (.leaf 1))]) (.t 12) (.t 15)),
 .j 17 (.mov (.t 16)),
 .k 18 17 true (.faddr 4 (.t 1)),
 .k 19 17 true (.load 1 false (.t 18)),
 .k 20 17 true (.bin .eql (.t 19) (.z 0)),
 .k 21 17 true (.mov (.t 20)),
 .k 22 21 false (.faddr 4 (.t 1)),
 .k 23 21 false (.load 1 false (.t 22)),
 .k 24 21 false (.bin .eql (.t 23) (.z 1)),
 .k 25 17 true (.pick (.t 21) (.c (.bool true)) (.t 24)),
 .j 26 (.pick (.t 17) (.t 25) (.c (.bool false))),
 .j 2 (.mov (.t 26))]
@[go_sem] def q32_6 : List AI := [
 .j 28 (.bin .eql (.t 4) (.z 2)),
 .j 27 (.mov (.t 28))]
@[go_sem] def q32_7 : List AI := [
 .j 29 (.load 5 true (.t 1)),
 .j 30 (.faddr 1 (.t 1)),
 .j 31 (.load 2 true (.t 30)),
 .j 32 (.build [(.int .i64 0), (.int .i64 0), (.int .i64 0), (.str []), (.int .i64 0)] [(0, 1, (.z 2)), (1, 2, (.t 31))]),
 .j 33 (.eqa false (.agg [(0, 1, (.leaf 1)), (1, 2, (.agg [(0, 1, (.leaf 1)), (1, 1, (.leaf 1))])), (3, 1, (.leaf 2)), (4, 1, (.leaf 1))]) (.t 29) (.t 32)),
 .j 34 (.mov (.t 33)),
 .k 35 34 true (.faddr 1 (.t 1)),
 .k 36 34 true (.load 2 true (.t 35)),
 .k 37 34 true (.call 41 [(.t 36)]),
 .j 38 (.pick (.t 34) (.t 37) (.c (.bool false))),
 .j 2 (.mov (.t 38))]
@[go_sem] def q32_8 : List AI := [
 .j 40 (.bin .eql (.t 4) (.z 3)),
 .j 39 (.mov (.t 40))]
@[go_sem] def q32_9 : List AI := [
 .j 41 (.faddr 3 (.t 1)),
 .j 42 (.load 1 false (.t 41)),
 .j 43 (.len 1 (.t 42)),
 .j 44 (.bin .leq (.t 43) (.z 4096)),
 .j 45 (.mov (.t 44)),
 .k 46 45 true (.load 5 true (.t 1)),
 .k 47 45 true (.faddr 3 (.t 1)),
 .k 48 45 true (.load 1 false (.t 47)),
 .k 49 45 true (.build [(.int .i64 0), (.int .i64 0), (.int .i64 0), (.str []), (.int .i64 0)] [(0, 1, (.z 3)), (3, 1, (.t 48))]),
 .k 50 45 true (.eqa false (.agg [(0, 1, (.leaf 1)), (1, 2, (.agg [(0, 1, (.leaf 1)), (1, 1, (.leaf 1))])), (3, 1, (.leaf 2)), (4, 1, (.leaf 1))]) (.t 46) (.t 49)),
 .j 51 (.pick (.t 45) (.t 50) (.c (.bool false))),
 .j 2 (.mov (.t 51))]
@[go_sem] def q32_10 : List AI := [
 .j 53 (.bin .eql (.t 4) (.z 6)),
 .j 52 (.mov (.t 53))]
@[go_sem] def q32_11 : List AI := [
 .j 54 (.faddr 3 (.t 1)),
 .j 55 (.load 1 false (.t 54)),
 .j 56 (.len 1 (.t 55)),
 .j 57 (.bin .geq (.t 56) (.z 1)),
 .j 58 (.mov (.t 57)),
 .k 59 58 true (.faddr 3 (.t 1)),
 .k 60 58 true (.load 1 false (.t 59)),
 .k 61 58 true (.len 1 (.t 60)),
 .k 62 58 true (.bin .leq (.t 61) (.z 4096)),
 .j 63 (.pick (.t 58) (.t 62) (.c (.bool false))),
 .j 64 (.mov (.t 63)),
 .k 65 64 true (.load 5 true (.t 1)),
 .k 66 64 true (.faddr 3 (.t 1)),
 .k 67 64 true (.load 1 false (.t 66)),
 .k 68 64 true (.build [(.int .i64 0), (.int .i64 0), (.int .i64 0), (.str []), (.int .i64 0)] [(0, 1, (.z 6)), (3, 1, (.t 67))]),
 .k 69 64 true (.eqa false (.agg [(0, 1, (.leaf 1)), (1, 2, (.agg [(0, 1, (.leaf 1)), (1, 1, (.leaf 1))])), (3, 1, (.leaf 2)), (4, 1, (.leaf 1))]) (.t 65) (.t 68)),
 .j 70 (.pick (.t 64) (.t 69) (.c (.bool false))),
 .j 2 (.mov (.t 70))]
@[go_sem] def q32_12 : List AI := [
 .j 72 (.bin .eql (.t 4) (.z 4)),
 .j 71 (.mov (.t 72))]
@[go_sem] def q32_13 : List AI := [
 .j 73 (.bin .eql (.t 4) (.z 5)),
 .j 71 (.mov (.t 73))]
@[go_sem] def q32_14 : List AI := [
 .j 74 (.bin .eql (.t 4) (.z 7)),
 .j 71 (.mov (.t 74))]
@[go_sem] def q32_15 : List AI := [
 .j 75 (.bin .eql (.t 4) (.z 8)),
 .j 71 (.mov (.t 75))]
@[go_sem] def q32_16 : List AI := [
 .j 76 (.load 5 true (.t 1)),
 .j 77 (.faddr 0 (.t 1)),
 .j 78 (.load 1 false (.t 77)),
 .j 79 (.faddr 4 (.t 1)),
 .j 80 (.load 1 false (.t 79)),
 .j 81 (.build [(.int .i64 0), (.int .i64 0), (.int .i64 0), (.str []), (.int .i64 0)] [(0, 1, (.t 78)), (4, 1, (.t 80))]),
 .j 82 (.eqa false (.agg [(0, 1, (.leaf 1)), (1, 2, (.agg [(0, 1, (.leaf 1)), (1, 1, (.leaf 1))])), (3, 1, (.leaf 2)), (4, 1, (.leaf 1))]) (.t 76) (.t 81)),
 .j 83 (.mov (.t 82)),
 .k 84 83 true (.faddr 4 (.t 1)),
 .k 85 83 true (.load 1 false (.t 84)),
 .k 86 83 true (.bin .geq (.t 85) (.z 1)),
 .j 87 (.pick (.t 83) (.t 86) (.c (.bool false))),
 .j 2 (.mov (.t 87))]
@[go_sem] def q32_17 : List AI := [
 .j 2 (.mov (.c (.bool false)))]
@[go_sem] def scriptingref11_Valid_c : AC := .seq (.ops [q32_0]) (.seq (.seq (.ops [q32_1]) (.block 0 (.seq (.ops [q32_2]) (.cond (.t 5) (.seq (.ops [q32_3]) (.ret)) (.seq (.ops [q32_4]) (.cond (.t 10) (.seq (.ops [q32_5]) (.ret)) (.seq (.ops [q32_6]) (.cond (.t 27) (.seq (.ops [q32_7]) (.ret)) (.seq (.ops [q32_8]) (.cond (.t 39) (.seq (.ops [q32_9]) (.ret)) (.seq (.ops [q32_10]) (.cond (.t 52) (.seq (.ops [q32_11]) (.ret)) (.seq (.seq (.ops [q32_12]) (.cond (.t 71) (.skip) (.seq (.ops [q32_13]) (.cond (.t 71) (.skip) (.seq (.ops [q32_14]) (.cond (.t 71) (.skip) (.ops [q32_15]))))))) (.cond (.t 71) (.seq (.ops [q32_16]) (.ret)) (.skip))))))))))))))) (.seq (.ops [q32_17]) (.ret)))
theorem scriptingref11_Valid_ok : compF Try.prog 32 = some (88, scriptingref11_Valid_c, [.t 2]) := by kernel_rfl

@[go_sem] def q33_0 : List AI := [
 .j 2 (.mov (.z 0))]
@[go_sem] def q33_1 : List AI := [
 .j 3 (.mov (.t 0)),
 .j 4 (.nilck (.t 3)),
 .j 5 (.faddr 0 (.t 4)),
 .j 6 (.load 1 false (.t 5)),
 .j 7 (.len 0 (.t 6)),
 .j 8 (.mov (.t 0)),
 .j 9 (.nilck (.t 8)),
 .j 10 (.faddr 1 (.t 9)),
 .j 11 (.load 1 false (.t 10)),
 .j 12 (.len 0 (.t 11)),
 .j 13 (.bin .sub (.t 7) (.t 12)),
 .j 2 (.mov (.t 13))]
@[go_sem] def scriptingref18_Registry_used_c : AC := .seq (.ops [q33_0]) (.seq (.ops [q33_1]) (.ret))
theorem scriptingref18_Registry_used_ok : compF Try.prog 33 = some (14, scriptingref18_Registry_used_c, [.t 2]) := by kernel_rfl

@[go_sem] def q34_0 : List AI := [
 .j 4 (.mov (.c (.bool false)))]
@[go_sem] def q34_1 : List AI := [
 .j 5 (.mov (.t 1)),
 .j 6 (.bin .geq (.t 5) (.z 1)),
 .j 7 (.mov (.t 6)),
 .k 8 7 true (.mov (.t 1)),
 .k 9 7 true (.mov (.t 0)),
 .k 10 7 true (.nilck (.t 9)),
 .k 11 7 true (.faddr 0 (.t 10)),
 .k 12 7 true (.load 1 false (.t 11)),
 .k 13 7 true (.len 0 (.t 12)),
 .k 14 7 true (.bin .leq (.t 8) (.t 13)),
 .j 15 (.pick (.t 7) (.t 14) (.c (.bool false))),
 .j 16 (.mov (.t 15)),
 .k 17 16 true (.mov (.t 0)),
 .k 18 16 true (.nilck (.t 17)),
 .k 19 16 true (.faddr 0 (.t 18)),
 .k 20 16 true (.load 1 false (.t 19)),
 .k 21 16 true (.mov (.t 1)),
 .k 22 16 true (.bin .sub (.t 21) (.z 1)),
 .k 23 16 true (.iaddr 5 (.t 20) (.t 22)),
 .k 24 16 true (.faddr 0 (.t 23)),
 .k 25 16 true (.load 1 false (.t 24)),
 .k 26 16 true (.bin .neq (.t 25) (.z 0)),
 .j 27 (.pick (.t 16) (.t 26) (.c (.bool false))),
 .j 4 (.mov (.t 27))]
@[go_sem] def scriptingref18_Registry_holds_c : AC := .seq (.ops [q34_0]) (.seq (.ops [q34_1]) (.ret))
theorem scriptingref18_Registry_holds_ok : compF Try.prog 34 = some (28, scriptingref18_Registry_holds_c, [.t 4]) := by kernel_rfl

@[go_sem] def q35_0 : List AI := [
 .j 4 (.mov (.z 0))]
@[go_sem] def q35_1 : List AI := [
 .j 5 (.mov (.z 0))]
@[go_sem] def q35_2 : List AI := [
 .j 6 (.mov (.t 5)),
 .j 7 (.mov (.t 0)),
 .j 8 (.nilck (.t 7)),
 .j 9 (.faddr 2 (.t 8)),
 .j 10 (.load 1 false (.t 9)),
 .j 11 (.len 0 (.t 10)),
 .j 12 (.bin .lss (.t 6) (.t 11))]
@[go_sem] def q35_3 : List AI := [
 .j 15 (.mov (.t 0)),
 .j 16 (.nilck (.t 15)),
 .j 17 (.faddr 2 (.t 16)),
 .j 18 (.load 1 false (.t 17)),
 .j 19 (.mov (.t 5)),
 .j 20 (.iaddr 6 (.t 18) (.t 19)),
 .j 21 (.faddr 0 (.t 20)),
 .j 22 (.load 1 false (.t 21)),
 .j 23 (.mov (.t 1)),
 .j 24 (.bin .eql (.t 22) (.t 23))]
@[go_sem] def q35_4 : List AI := [
 .j 25 (.mov (.t 5)),
 .j 4 (.mov (.t 25))]
@[go_sem] def q35_5 : List AI := [
 .j 13 (.mov (.t 5)),
 .j 14 (.bin .add (.t 13) (.z 1)),
 .j 5 (.mov (.t 14))]
@[go_sem] def scriptingref18_Registry_place_l0' : AC := .seq (.seq (.ops [q35_2]) (.cond (.t 12) (.skip) (.exit 0))) (.seq (.block 1 (.seq (.ops [q35_3]) (.cond (.t 24) (.seq (.ops [q35_4]) (.ret)) (.skip)))) (.ops [q35_5]))
def scriptingref18_Registry_place_l0 : AC := scriptingref18_Registry_place_l0'
theorem scriptingref18_Registry_place_l0_eq : scriptingref18_Registry_place_l0 = scriptingref18_Registry_place_l0' := rfl
@[go_sem] def q35_6 : List AI := [
 .j 4 (.mov (.z (-1)))]
@[go_sem] def scriptingref18_Registry_place_c : AC := .seq (.ops [q35_0]) (.seq (.seq (.ops [q35_1]) (.block 0 (.loop scriptingref18_Registry_place_l0))) (.seq (.ops [q35_6]) (.ret)))
theorem scriptingref18_Registry_place_ok : compF Try.prog 35 = some (26, scriptingref18_Registry_place_c, [.t 4]) := by kernel_rfl

@[go_sem] def q36_0 : List AI := [
 .j 3 (.box 360003 5 (.t 1)),
 .j 4 (.mov (.c .nils))]
@[go_sem] def q36_1 : List AI := [
 .j 7 (.faddr 0 (.t 3)),
 .j 8 (.load 1 false (.t 7)),
 .j 9 (.bin .neq (.t 8) (.z 4)),
 .j 10 (.mov (.t 9)),
 .k 11 10 true (.faddr 0 (.t 3)),
 .k 12 10 true (.load 1 false (.t 11)),
 .k 13 10 true (.bin .neq (.t 12) (.z 5)),
 .j 14 (.pick (.t 10) (.t 13) (.c (.bool false))),
 .j 15 (.mov (.t 14)),
 .k 16 15 true (.faddr 0 (.t 3)),
 .k 17 15 true (.load 1 false (.t 16)),
 .k 18 15 true (.bin .neq (.t 17) (.z 7)),
 .j 19 (.pick (.t 15) (.t 18) (.c (.bool false))),
 .j 20 (.mov (.t 19)),
 .k 21 20 true (.faddr 0 (.t 3)),
 .k 22 20 true (.load 1 false (.t 21)),
 .k 23 20 true (.bin .neq (.t 22) (.z 8)),
 .j 24 (.pick (.t 20) (.t 23) (.c (.bool false)))]
@[go_sem] def q36_2 : List AI := [
 .j 25 (.mov (.t 0)),
 .j 4 (.mov (.t 25))]
@[go_sem] def q36_3 : List AI := [
 .j 5 (.mov (.z 0))]
@[go_sem] def q36_4 : List AI := [
 .j 26 (.mov (.t 5)),
 .j 27 (.mov (.t 0)),
 .j 28 (.len 0 (.t 27)),
 .j 29 (.bin .lss (.t 26) (.t 28)),
 .j 30 (.mov (.t 29)),
 .k 31 30 true (.mov (.t 0)),
 .k 32 30 true (.mov (.t 5)),
 .k 33 30 true (.iaddr 1 (.t 31) (.t 32)),
 .k 34 30 true (.load 1 false (.t 33)),
 .k 35 30 true (.faddr 4 (.t 3)),
 .k 36 30 true (.load 1 false (.t 35)),
 .k 37 30 true (.bin .lss (.t 34) (.t 36)),
 .j 38 (.pick (.t 30) (.t 37) (.c (.bool false)))]
@[go_sem] def q36_5 : List AI := [
 .j 39 (.mov (.t 5)),
 .j 40 (.bin .add (.t 39) (.z 1)),
 .j 5 (.mov (.t 40))]
@[go_sem] def scriptingref18_with_l0' : AC := .seq (.seq (.ops [q36_4]) (.cond (.t 38) (.skip) (.exit 0))) (.block 1 (.ops [q36_5]))
def scriptingref18_with_l0 : AC := scriptingref18_with_l0'
theorem scriptingref18_with_l0_eq : scriptingref18_with_l0 = scriptingref18_with_l0' := rfl
@[go_sem] def q36_6 : List AI := [
 .j 41 (.mov (.t 5)),
 .j 42 (.mov (.t 0)),
 .j 43 (.len 0 (.t 42)),
 .j 44 (.bin .lss (.t 41) (.t 43)),
 .j 45 (.mov (.t 44)),
 .k 46 45 true (.mov (.t 0)),
 .k 47 45 true (.mov (.t 5)),
 .k 48 45 true (.iaddr 1 (.t 46) (.t 47)),
 .k 49 45 true (.load 1 false (.t 48)),
 .k 50 45 true (.faddr 4 (.t 3)),
 .k 51 45 true (.load 1 false (.t 50)),
 .k 52 45 true (.bin .eql (.t 49) (.t 51)),
 .j 53 (.pick (.t 45) (.t 52) (.c (.bool false)))]
@[go_sem] def q36_7 : List AI := [
 .j 54 (.mov (.t 0)),
 .j 4 (.mov (.t 54))]
@[go_sem] def q36_8 : List AI := [
 .j 55 (.mkrow 360055 1 []),
 .j 56 (.mov (.t 0)),
 .j 57 (.mov (.t 5)),
 .j 58 (.slc 1 (.t 56) none (some (.t 57))),
 .j 59 (.app 360059 1 (.t 55) (.t 58)),
 .j 6 (.mov (.t 59))]
@[go_sem] def q36_9 : List AI := [
 .j 60 (.mov (.t 6)),
 .j 61 (.faddr 4 (.t 3)),
 .j 62 (.load 1 false (.t 61)),
 .j 63 (.mkisl 1 [(.t 62)]),
 .j 64 (.app 360064 1 (.t 60) (.t 63)),
 .j 6 (.mov (.t 64))]
@[go_sem] def q36_10 : List AI := [
 .j 65 (.mov (.t 6)),
 .j 66 (.mov (.t 0)),
 .j 67 (.mov (.t 5)),
 .j 68 (.slc 1 (.t 66) (some (.t 67)) none),
 .j 69 (.app 360069 1 (.t 65) (.t 68)),
 .j 4 (.mov (.t 69))]
@[go_sem] def scriptingref18_with_c : AC := .seq (.ops [q36_0]) (.seq (.seq (.ops [q36_1]) (.cond (.t 24) (.seq (.ops [q36_2]) (.ret)) (.skip))) (.seq (.ops [q36_3]) (.seq (.block 0 (.loop scriptingref18_with_l0)) (.seq (.seq (.ops [q36_6]) (.cond (.t 53) (.seq (.ops [q36_7]) (.ret)) (.skip))) (.seq (.ops [q36_8]) (.seq (.ops [q36_9]) (.seq (.ops [q36_10]) (.ret))))))))
theorem scriptingref18_with_ok : compF Try.prog 36 = some (70, scriptingref18_with_c, [.t 4]) := by kernel_rfl

@[go_sem] def q37_0 : List AI := [
 .j 2 (.mov (.c .nils))]
@[go_sem] def q37_1 : List AI := [
 .j 3 (.mov (.z 0))]
@[go_sem] def q37_2 : List AI := [
 .j 9 (.mov (.t 0)),
 .j 10 (.len 0 (.t 9)),
 .j 11 (.mov (.z 0))]
@[go_sem] def q37_3 : List AI := [
 .j 12 (.bin .lss (.t 11) (.t 10))]
@[go_sem] def q37_4 : List AI := [
 .j 13 (.iaddr 1 (.t 9) (.t 11)),
 .j 14 (.load 1 false (.t 13)),
 .j 5 (.mov (.t 14))]
@[go_sem] def q37_5 : List AI := [
 .j 15 (.mov (.t 3)),
 .j 16 (.mov (.t 5)),
 .j 17 (.len 0 (.t 16)),
 .j 18 (.bin .add (.t 15) (.t 17)),
 .j 3 (.mov (.t 18))]
@[go_sem] def q37_6 : List AI := [
 .j 19 (.mov (.t 3)),
 .j 20 (.bin .lss (.t 19) (.z 0))]
@[go_sem] def q37_7 : List AI := [
 .j 21 (.bad),
 .e (.bad)]
@[go_sem] def q37_8 : List AI := [
 .j 22 (.bin .add (.t 11) (.z 1)),
 .j 11 (.mov (.t 22))]
@[go_sem] def slices_Concat_api_Value_api_Value_l0' : AC := .seq (.ops [q37_3]) (.seq (.cond (.t 12) (.skip) (.exit 0)) (.seq (.block 1 (.seq (.ops [q37_4]) (.seq (.ops [q37_5]) (.seq (.ops [q37_6]) (.cond (.t 20) (.ops [q37_7]) (.skip)))))) (.ops [q37_8])))
def slices_Concat_api_Value_api_Value_l0 : AC := slices_Concat_api_Value_api_Value_l0'
theorem slices_Concat_api_Value_api_Value_l0_eq : slices_Concat_api_Value_api_Value_l0 = slices_Concat_api_Value_api_Value_l0' := rfl
@[go_sem] def q37_9 : List AI := [
 .j 23 (.mov (.t 3)),
 .j 24 (.call 42 [(.c .nils), (.t 23)]),
 .j 6 (.mov (.t 24))]
@[go_sem] def q37_10 : List AI := [
 .j 25 (.mov (.t 0)),
 .j 26 (.len 0 (.t 25)),
 .j 27 (.mov (.z 0))]
@[go_sem] def q37_11 : List AI := [
 .j 28 (.bin .lss (.t 27) (.t 26))]
@[go_sem] def q37_12 : List AI := [
 .j 29 (.iaddr 1 (.t 25) (.t 27)),
 .j 30 (.load 1 false (.t 29)),
 .j 8 (.mov (.t 30))]
@[go_sem] def q37_13 : List AI := [
 .j 31 (.mov (.t 6)),
 .j 32 (.mov (.t 8)),
 .j 33 (.app 370033 5 (.t 31) (.t 32)),
 .j 6 (.mov (.t 33))]
@[go_sem] def q37_14 : List AI := [
 .j 34 (.bin .add (.t 27) (.z 1)),
 .j 27 (.mov (.t 34))]
@[go_sem] def slices_Concat_api_Value_api_Value_l1' : AC := .seq (.ops [q37_11]) (.seq (.cond (.t 28) (.skip) (.exit 2)) (.seq (.block 3 (.seq (.ops [q37_12]) (.ops [q37_13]))) (.ops [q37_14])))
def slices_Concat_api_Value_api_Value_l1 : AC := slices_Concat_api_Value_api_Value_l1'
theorem slices_Concat_api_Value_api_Value_l1_eq : slices_Concat_api_Value_api_Value_l1 = slices_Concat_api_Value_api_Value_l1' := rfl
@[go_sem] def q37_15 : List AI := [
 .j 35 (.mov (.t 6)),
 .j 2 (.mov (.t 35))]
@[go_sem] def slices_Concat_api_Value_api_Value_c : AC := .seq (.ops [q37_0]) (.seq (.ops [q37_1]) (.seq (.seq (.ops [q37_2]) (.block 0 (.loop slices_Concat_api_Value_api_Value_l0))) (.seq (.ops [q37_9]) (.seq (.seq (.ops [q37_10]) (.block 2 (.loop slices_Concat_api_Value_api_Value_l1))) (.seq (.ops [q37_15]) (.ret))))))
theorem slices_Concat_api_Value_api_Value_ok : compF Try.prog 37 = some (36, slices_Concat_api_Value_api_Value_c, [.t 2]) := by kernel_rfl

@[go_sem] def q40_0 : List AI := [
 .j 1 (.box 400001 2 (.t 0)),
 .j 2 (.mov (.c (.bool false)))]
@[go_sem] def q40_1 : List AI := [
 .j 3 (.faddr 1 (.t 1)),
 .j 4 (.load 1 false (.t 3)),
 .j 5 (.bin .geq (.t 4) (.z 1)),
 .j 6 (.mov (.t 5)),
 .k 7 6 true (.faddr 1 (.t 1)),
 .k 8 6 true (.load 1 false (.t 7)),
 .k 9 6 true (.bin .leq (.t 8) (.z 2147483647)),
 .j 10 (.pick (.t 6) (.t 9) (.c (.bool false))),
 .j 11 (.mov (.t 10)),
 .k 12 11 true (.faddr 0 (.t 1)),
 .k 13 11 true (.load 1 false (.t 12)),
 .k 14 11 true (.bin .geq (.t 13) (.z (-2147483647))),
 .j 15 (.pick (.t 11) (.t 14) (.c (.bool false))),
 .j 16 (.mov (.t 15)),
 .k 17 16 true (.faddr 0 (.t 1)),
 .k 18 16 true (.load 1 false (.t 17)),
 .k 19 16 true (.bin .leq (.t 18) (.z 2147483647)),
 .j 20 (.pick (.t 16) (.t 19) (.c (.bool false))),
 .j 21 (.mov (.t 20)),
 .k 22 21 true (.faddr 0 (.t 1)),
 .k 23 21 true (.load 1 false (.t 22)),
 .k 24 21 true (.faddr 0 (.t 1)),
 .k 25 21 true (.load 1 false (.t 24)),
 .k 26 21 true (.un .neg (.t 25)),
 .k 27 21 true (.mm true [(.t 23), (.t 26)]),
 .k 28 21 true (.faddr 1 (.t 1)),
 .k 29 21 true (.load 1 false (.t 28)),
 .k 30 21 true (.call 45 [(.t 27), (.t 29)]),
 .k 31 21 true (.bin .eql (.t 30) (.z 1)),
 .j 32 (.pick (.t 21) (.t 31) (.c (.bool false))),
 .j 2 (.mov (.t 32))]
@[go_sem] def rational_Valid_c : AC := .seq (.ops [q40_0]) (.seq (.ops [q40_1]) (.ret))
theorem rational_Valid_ok : compF Try.prog 40 = some (33, rational_Valid_c, [.t 2]) := by kernel_rfl

@[go_sem] def q41_0 : List AI := [
 .j 1 (.box 410001 2 (.t 0)),
 .j 2 (.mov (.c (.bool false)))]
@[go_sem] def q41_1_0 : List AI := [
 .j 3 (.faddr 1 (.t 1)),
 .j 4 (.load 1 false (.t 3)),
 .j 5 (.bin .geq (.t 4) (.z 1)),
 .j 6 (.mov (.t 5)),
 .k 7 6 true (.faddr 1 (.t 1)),
 .k 8 6 true (.load 1 false (.t 7)),
 .k 9 6 true (.bin .leq (.t 8) (.z 2147483647)),
 .j 10 (.pick (.t 6) (.t 9) (.c (.bool false))),
 .j 11 (.mov (.t 10)),
 .k 12 11 true (.faddr 0 (.t 1)),
 .k 13 11 true (.load 1 false (.t 12)),
 .k 14 11 true (.bin .leq (.t 13) (.z 2147483647)),
 .j 15 (.pick (.t 11) (.t 14) (.c (.bool false))),
 .j 16 (.mov (.t 15)),
 .k 17 16 true (.faddr 0 (.t 1)),
 .k 18 16 true (.load 1 false (.t 17)),
 .k 19 16 true (.bin .geq (.t 18) (.z (-2147483647))),
 .j 20 (.pick (.t 16) (.t 19) (.c (.bool false))),
 .j 21 (.mov (.t 20)),
 .k 22 21 true (.faddr 0 (.t 1)),
 .k 23 21 true (.load 1 false (.t 22)),
 .k 25 21 true (.faddr 1 (.t 1)),
 .k 26 21 true (.load 1 false (.t 25)),
 .k 24 21 true (.call 47 [(.t 23)]),
 .k 27 21 true (.call 46 [(.t 24), (.t 26)]),
 .k 28 21 true (.bin .eql (.t 27) (.z 1)),
 .j 29 (.pick (.t 21) (.t 28) (.c (.bool false))),
 .j 2 (.mov (.t 29))]
@[go_sem] def q41_1_1 : List AI := [
 .j 3 (.faddr 1 (.t 1)),
 .j 4 (.load 1 false (.t 3)),
 .j 5 (.bin .geq (.t 4) (.z 1)),
 .j 6 (.mov (.t 5)),
 .k 7 6 true (.faddr 1 (.t 1)),
 .k 8 6 true (.load 1 false (.t 7)),
 .k 9 6 true (.bin .leq (.t 8) (.z 2147483647)),
 .j 10 (.pick (.t 6) (.t 9) (.c (.bool false))),
 .j 11 (.mov (.t 10)),
 .k 12 11 true (.faddr 0 (.t 1)),
 .k 13 11 true (.load 1 false (.t 12)),
 .k 14 11 true (.bin .leq (.t 13) (.z 2147483647)),
 .j 15 (.pick (.t 11) (.t 14) (.c (.bool false))),
 .j 16 (.mov (.t 15)),
 .k 17 16 true (.faddr 0 (.t 1)),
 .k 18 16 true (.load 1 false (.t 17)),
 .k 19 16 true (.bin .geq (.t 18) (.z (-2147483647))),
 .j 20 (.pick (.t 16) (.t 19) (.c (.bool false))),
 .j 21 (.mov (.t 20)),
 .k 22 21 true (.faddr 0 (.t 1)),
 .k 23 21 true (.load 1 false (.t 22)),
 .k 25 21 true (.faddr 1 (.t 1)),
 .k 24 21 true (.call 47 [(.t 23)]),
 .k 26 21 true (.load 1 false (.t 25)),
 .k 27 21 true (.call 46 [(.t 24), (.t 26)]),
 .k 28 21 true (.bin .eql (.t 27) (.z 1)),
 .j 29 (.pick (.t 21) (.t 28) (.c (.bool false))),
 .j 2 (.mov (.t 29))]
@[go_sem] def scriptingref01_Valid_c : AC := .seq (.ops [q41_0]) (.seq (.ops [q41_1_0, q41_1_1]) (.ret))
theorem scriptingref01_Valid_ok : compF Try.prog 41 = some (30, scriptingref01_Valid_c, [.t 2]) := by kernel_rfl

@[go_sem] def q42_0 : List AI := [
 .j 4 (.mov (.c .nils))]
@[go_sem] def q42_1 : List AI := [
 .j 5 (.mov (.t 1)),
 .j 6 (.bin .lss (.t 5) (.z 0))]
@[go_sem] def q42_2 : List AI := [
 .j 7 (.bad),
 .e (.bad)]
@[go_sem] def q42_3 : List AI := [
 .j 8 (.mov (.t 1)),
 .j 9 (.mov (.t 0)),
 .j 10 (.cap0 (.t 9)),
 .j 11 (.mov (.t 0)),
 .j 12 (.len 0 (.t 11)),
 .j 13 (.bin .sub (.t 10) (.t 12)),
 .j 14 (.bin .sub (.t 8) (.t 13)),
 .j 1 (.mov (.t 14))]
@[go_sem] def q42_4 : List AI := [
 .j 15 (.mov (.t 1)),
 .j 16 (.bin .gtr (.t 15) (.z 0))]
@[go_sem] def q42_5 : List AI := [
 .j 17 (.mov (.t 0)),
 .j 18 (.mov (.t 0)),
 .j 19 (.cap0 (.t 18)),
 .j 20 (.slc 5 (.t 17) none (some (.t 19))),
 .j 21 (.mov (.t 1)),
 .j 22 (.grw 420022 [(.int .i64 0), (.int .i64 0), (.int .i64 0), (.str []), (.int .i64 0)] (.t 20) (.t 21)),
 .j 23 (.mov (.t 0)),
 .j 24 (.len 0 (.t 23)),
 .j 25 (.slc 5 (.t 22) none (some (.t 24))),
 .j 0 (.mov (.t 25))]
@[go_sem] def q42_6 : List AI := [
 .j 26 (.mov (.t 0)),
 .j 4 (.mov (.t 26))]
@[go_sem] def slices_Grow_api_Value_api_Value_c : AC := .seq (.ops [q42_0]) (.seq (.seq (.ops [q42_1]) (.cond (.t 6) (.ops [q42_2]) (.skip))) (.seq (.seq (.ops [q42_3]) (.seq (.ops [q42_4]) (.cond (.t 16) (.ops [q42_5]) (.skip)))) (.seq (.ops [q42_6]) (.ret))))
theorem slices_Grow_api_Value_api_Value_ok : compF Try.prog 42 = some (27, slices_Grow_api_Value_api_Value_c, [.t 4]) := by kernel_rfl

@[go_sem] def q45_0 : List AI := [
 .j 4 (.mov (.z 0))]
@[go_sem] def q45_1 : List AI := [
 .j 5 (.mov (.t 1)),
 .j 6 (.bin .neq (.t 5) (.z 0))]
@[go_sem] def q45_2 : List AI := [
 .j 7 (.mov (.t 1)),
 .j 8 (.mov (.t 0)),
 .j 9 (.mov (.t 1)),
 .j 10 (.bin .rem (.t 8) (.t 9)),
 .j 0 (.mov (.t 7)),
 .j 1 (.mov (.t 10))]
@[go_sem] def rational_gcd_l0' : AC := .seq (.seq (.ops [q45_1]) (.cond (.t 6) (.skip) (.exit 0))) (.block 1 (.ops [q45_2]))
def rational_gcd_l0 : AC := rational_gcd_l0'
theorem rational_gcd_l0_eq : rational_gcd_l0 = rational_gcd_l0' := rfl
@[go_sem] def q45_3 : List AI := [
 .j 11 (.mov (.t 0)),
 .j 4 (.mov (.t 11))]
@[go_sem] def rational_gcd_c : AC := .seq (.ops [q45_0]) (.seq (.block 0 (.loop rational_gcd_l0)) (.seq (.ops [q45_3]) (.ret)))
theorem rational_gcd_ok : compF Try.prog 45 = some (12, rational_gcd_c, [.t 4]) := by kernel_rfl

@[go_sem] def q46_0 : List AI := [
 .j 4 (.mov (.z 0))]
@[go_sem] def q46_1 : List AI := [
 .j 5 (.mov (.t 1)),
 .j 6 (.bin .neq (.t 5) (.z 0))]
@[go_sem] def q46_2 : List AI := [
 .j 7 (.mov (.t 1)),
 .j 8 (.mov (.t 0)),
 .j 9 (.mov (.t 1)),
 .j 10 (.bin .rem (.t 8) (.t 9)),
 .j 0 (.mov (.t 7)),
 .j 1 (.mov (.t 10))]
@[go_sem] def scriptingref01_gcd_l0' : AC := .seq (.seq (.ops [q46_1]) (.cond (.t 6) (.skip) (.exit 0))) (.block 1 (.ops [q46_2]))
def scriptingref01_gcd_l0 : AC := scriptingref01_gcd_l0'
theorem scriptingref01_gcd_l0_eq : scriptingref01_gcd_l0 = scriptingref01_gcd_l0' := rfl
@[go_sem] def q46_3 : List AI := [
 .j 11 (.mov (.t 0)),
 .j 4 (.mov (.t 11))]
@[go_sem] def scriptingref01_gcd_c : AC := .seq (.ops [q46_0]) (.seq (.block 0 (.loop scriptingref01_gcd_l0)) (.seq (.ops [q46_3]) (.ret)))
theorem scriptingref01_gcd_ok : compF Try.prog 46 = some (12, scriptingref01_gcd_c, [.t 4]) := by kernel_rfl

@[go_sem] def q47_0 : List AI := [
 .j 2 (.mov (.z 0))]
@[go_sem] def q47_1 : List AI := [
 .j 3 (.mov (.t 0)),
 .j 4 (.bin .lss (.t 3) (.z 0))]
@[go_sem] def q47_2 : List AI := [
 .j 5 (.mov (.t 0)),
 .j 6 (.un .neg (.t 5)),
 .j 2 (.mov (.t 6))]
@[go_sem] def q47_3 : List AI := [
 .j 7 (.mov (.t 0)),
 .j 2 (.mov (.t 7))]
@[go_sem] def scriptingref01_abs_c : AC := .seq (.ops [q47_0]) (.seq (.seq (.ops [q47_1]) (.cond (.t 4) (.seq (.ops [q47_2]) (.ret)) (.skip))) (.seq (.ops [q47_3]) (.ret)))
theorem scriptingref01_abs_ok : compF Try.prog 47 = some (8, scriptingref01_abs_c, [.t 2]) := by kernel_rfl

/-- The functions by number. -/
def exT : List (FuncId × Nat × AC × List RV) := [
  (3, 34, scriptinglaw18_RegistryPlays_c, [.t 2]),
  (4, 92, scriptinglaw18_RegistryRoots_c, [.t 2]),
  (5, 20, scriptinglaw18_large_c, [.t 2]),
  (6, 78, scriptinglaw18_lives_c, [.t 0]),
  (7, 4, registry_New_c, [.t 0]),
  (8, 3, scriptingref18_New_c, [.t 0]),
  (9, 117, scriptinglaw18_step_c, [.t 6]),
  (10, 17, scriptinglaw18_shown_c, [.t 4]),
  (11, 28, scriptinglaw18_made_c, [.t 2, .t 3, .t 4]),
  (12, 28, registry_Registry_Value_c, [.c 4 5 true, .t 5]),
  (13, 22, registry_Registry_Find_c, [.c 4 5 true, .t 5]),
  (14, 40, scriptinglaw18_with_c, [.t 4]),
  (15, 28, registry_Registry_Roots_c, [.t 2]),
  (16, 18, scriptinglaw18_has_c, [.t 4]),
  (17, 89, registry_Registry_Ref_c, [.t 4, .t 5]),
  (18, 34, registry_Registry_Unref_c, [.t 4]),
  (19, 22, registry_Registry_Len_c, [.t 2]),
  (20, 68, scriptingref18_Registry_Ref_c, [.t 4, .t 5]),
  (21, 31, scriptingref18_Registry_Unref_c, [.t 4]),
  (22, 25, scriptingref18_Registry_Value_c, [.c 4 5 true, .t 5]),
  (23, 54, registry_Registry_Put_c, [.t 6]),
  (24, 73, scriptingref18_Registry_Put_c, [.t 6]),
  (25, 24, scriptingref18_Registry_Find_c, [.c 4 5 true, .t 5]),
  (26, 13, scriptingref18_Registry_Len_c, [.t 2]),
  (27, 26, scriptinglaw18_ints_c, [.t 4]),
  (28, 47, scriptingref18_Registry_Roots_c, [.t 2]),
  (29, 28, registry_Registry_used_c, [.t 4]),
  (30, 30, registry_identities_c, [.t 2]),
  (31, 74, value_Valid_c, [.t 2]),
  (32, 88, scriptingref11_Valid_c, [.t 2]),
  (33, 14, scriptingref18_Registry_used_c, [.t 2]),
  (34, 28, scriptingref18_Registry_holds_c, [.t 4]),
  (35, 26, scriptingref18_Registry_place_c, [.t 4]),
  (36, 70, scriptingref18_with_c, [.t 4]),
  (37, 36, slices_Concat_api_Value_api_Value_c, [.t 2]),
  (40, 33, rational_Valid_c, [.t 2]),
  (41, 30, scriptingref01_Valid_c, [.t 2]),
  (42, 27, slices_Grow_api_Value_api_Value_c, [.t 4]),
  (45, 12, rational_gcd_c, [.t 4]),
  (46, 12, scriptingref01_gcd_c, [.t 4]),
  (47, 8, scriptingref01_abs_c, [.t 2])]
theorem exT_ok : TabOK Try.prog exT := 
  (TabOK.cons scriptinglaw18_RegistryPlays_ok 
  (TabOK.cons scriptinglaw18_RegistryRoots_ok 
  (TabOK.cons scriptinglaw18_large_ok 
  (TabOK.cons scriptinglaw18_lives_ok 
  (TabOK.cons registry_New_ok 
  (TabOK.cons scriptingref18_New_ok 
  (TabOK.cons scriptinglaw18_step_ok 
  (TabOK.cons scriptinglaw18_shown_ok 
  (TabOK.cons scriptinglaw18_made_ok 
  (TabOK.cons registry_Registry_Value_ok 
  (TabOK.cons registry_Registry_Find_ok 
  (TabOK.cons scriptinglaw18_with_ok 
  (TabOK.cons registry_Registry_Roots_ok 
  (TabOK.cons scriptinglaw18_has_ok 
  (TabOK.cons registry_Registry_Ref_ok 
  (TabOK.cons registry_Registry_Unref_ok 
  (TabOK.cons registry_Registry_Len_ok 
  (TabOK.cons scriptingref18_Registry_Ref_ok 
  (TabOK.cons scriptingref18_Registry_Unref_ok 
  (TabOK.cons scriptingref18_Registry_Value_ok 
  (TabOK.cons registry_Registry_Put_ok 
  (TabOK.cons scriptingref18_Registry_Put_ok 
  (TabOK.cons scriptingref18_Registry_Find_ok 
  (TabOK.cons scriptingref18_Registry_Len_ok 
  (TabOK.cons scriptinglaw18_ints_ok 
  (TabOK.cons scriptingref18_Registry_Roots_ok 
  (TabOK.cons registry_Registry_used_ok 
  (TabOK.cons registry_identities_ok 
  (TabOK.cons value_Valid_ok 
  (TabOK.cons scriptingref11_Valid_ok 
  (TabOK.cons scriptingref18_Registry_used_ok 
  (TabOK.cons scriptingref18_Registry_holds_ok 
  (TabOK.cons scriptingref18_Registry_place_ok 
  (TabOK.cons scriptingref18_with_ok 
  (TabOK.cons slices_Concat_api_Value_api_Value_ok 
  (TabOK.cons rational_Valid_ok 
  (TabOK.cons scriptingref01_Valid_ok 
  (TabOK.cons slices_Grow_api_Value_api_Value_ok 
  (TabOK.cons rational_gcd_ok 
  (TabOK.cons scriptingref01_gcd_ok 
  (TabOK.cons scriptingref01_abs_ok TabOK.nil)))))))))))))))))))))))))))))))))))))))))

end Go.Proofs.Ytlmmmplgogbjgaa
