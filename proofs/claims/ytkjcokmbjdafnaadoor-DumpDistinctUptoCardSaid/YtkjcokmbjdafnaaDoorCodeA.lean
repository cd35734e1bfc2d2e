/-
  The code of the functions that this seat reaches, translated into abstract code (printed by a program, each proved to be the translation). No condition.
-/
import Derived.Test.YtkjcokmbjdafnaaDoorExe
import Derived.Test.YtkjcokmbjdafnaaDoorChecked
set_option maxRecDepth 1000000
namespace Go.Proofs.YtkjcokmbjdafnaaDoor
open Go.Abs

@[go_sem] def q3_0 : List AI := [
 .j 3 (.box 30003 11 (.t 0)),
 .j 4 (.box 30004 11 (.t 1)),
 .j 6 (.mov (.c (.bool false)))]
@[go_sem] def q3_1 : List AI := [
 .j 13 (.load 11 true (.t 3)),
 .j 14 (.call 4 [(.t 13)]),
 .j 15 (.mov (.t 14)),
 .k 16 15 false (.load 11 true (.t 4)),
 .k 17 15 false (.call 4 [(.t 16)]),
 .j 18 (.pick (.t 15) (.c (.bool true)) (.t 17))]
@[go_sem] def q3_2 : List AI := [
 .j 19 (.call 5 []),
 .j 6 (.mov (.t 19))]
@[go_sem] def q3_3 : List AI := [
 .j 21 (.load 11 true (.t 3)),
 .j 22 (.call 6 [(.t 21)]),
 .j 20 (.mov (.t 22)),
 .j 23 (.ext 0 (.t 20)),
 .j 24 (.ext 1 (.t 20)),
 .j 7 (.mov (.t 23)),
 .j 8 (.mov (.t 24))]
@[go_sem] def q3_4 : List AI := [
 .j 26 (.load 11 true (.t 4)),
 .j 27 (.call 6 [(.t 26)]),
 .j 25 (.mov (.t 27)),
 .j 28 (.ext 0 (.t 25)),
 .j 29 (.ext 1 (.t 25)),
 .j 9 (.mov (.t 28)),
 .j 10 (.mov (.t 29))]
@[go_sem] def q3_5 : List AI := [
 .j 30 (.mov (.t 8)),
 .j 31 (.bin .neq (.t 30) (.z 0)),
 .j 32 (.mov (.t 31)),
 .k 33 32 false (.mov (.t 10)),
 .k 34 32 false (.bin .neq (.t 33) (.z 0)),
 .j 35 (.pick (.t 32) (.c (.bool true)) (.t 34))]
@[go_sem] def q3_6 : List AI := [
 .j 36 (.call 5 []),
 .j 6 (.mov (.t 36))]
@[go_sem] def q3_7_0 : List AI := [
 .j 37 (.mov (.t 7)),
 .j 39 (.mov (.t 9)),
 .j 42 (.load 11 true (.t 3)),
 .j 43 (.load 11 true (.t 4)),
 .j 38 (.bst (.t 37)),
 .j 40 (.bst (.t 39)),
 .j 41 (.bin .eql (.t 38) (.t 40)),
 .j 44 (.call 7 [(.t 42), (.t 43)]),
 .j 45 (.eqp 2 true (.t 41) (.t 44))]
@[go_sem] def q3_7_1 : List AI := [
 .j 37 (.mov (.t 7)),
 .j 39 (.mov (.t 9)),
 .j 42 (.load 11 true (.t 3)),
 .j 43 (.load 11 true (.t 4)),
 .j 38 (.bst (.t 37)),
 .j 44 (.call 7 [(.t 42), (.t 43)]),
 .j 40 (.bst (.t 39)),
 .j 41 (.bin .eql (.t 38) (.t 40)),
 .j 45 (.eqp 2 true (.t 41) (.t 44))]
@[go_sem] def q3_7_2 : List AI := [
 .j 37 (.mov (.t 7)),
 .j 39 (.mov (.t 9)),
 .j 42 (.load 11 true (.t 3)),
 .j 43 (.load 11 true (.t 4)),
 .j 44 (.call 7 [(.t 42), (.t 43)]),
 .j 38 (.bst (.t 37)),
 .j 40 (.bst (.t 39)),
 .j 41 (.bin .eql (.t 38) (.t 40)),
 .j 45 (.eqp 2 true (.t 41) (.t 44))]
@[go_sem] def q3_7_3 : List AI := [
 .j 37 (.mov (.t 7)),
 .j 39 (.mov (.t 9)),
 .j 42 (.load 11 true (.t 3)),
 .j 43 (.load 11 true (.t 4)),
 .j 40 (.bst (.t 39)),
 .j 38 (.bst (.t 37)),
 .j 41 (.bin .eql (.t 38) (.t 40)),
 .j 44 (.call 7 [(.t 42), (.t 43)]),
 .j 45 (.eqp 2 true (.t 41) (.t 44))]
@[go_sem] def q3_7_4 : List AI := [
 .j 37 (.mov (.t 7)),
 .j 39 (.mov (.t 9)),
 .j 42 (.load 11 true (.t 3)),
 .j 43 (.load 11 true (.t 4)),
 .j 40 (.bst (.t 39)),
 .j 44 (.call 7 [(.t 42), (.t 43)]),
 .j 38 (.bst (.t 37)),
 .j 41 (.bin .eql (.t 38) (.t 40)),
 .j 45 (.eqp 2 true (.t 41) (.t 44))]
@[go_sem] def q3_7_5 : List AI := [
 .j 37 (.mov (.t 7)),
 .j 39 (.mov (.t 9)),
 .j 42 (.load 11 true (.t 3)),
 .j 43 (.load 11 true (.t 4)),
 .j 44 (.call 7 [(.t 42), (.t 43)]),
 .j 40 (.bst (.t 39)),
 .j 38 (.bst (.t 37)),
 .j 41 (.bin .eql (.t 38) (.t 40)),
 .j 45 (.eqp 2 true (.t 41) (.t 44))]
@[go_sem] def q3_7_6 : List AI := [
 .j 37 (.mov (.t 7)),
 .j 39 (.mov (.t 9)),
 .j 42 (.load 11 true (.t 3)),
 .j 40 (.bst (.t 39)),
 .j 43 (.load 11 true (.t 4)),
 .j 38 (.bst (.t 37)),
 .j 41 (.bin .eql (.t 38) (.t 40)),
 .j 44 (.call 7 [(.t 42), (.t 43)]),
 .j 45 (.eqp 2 true (.t 41) (.t 44))]
@[go_sem] def q3_7_7 : List AI := [
 .j 37 (.mov (.t 7)),
 .j 39 (.mov (.t 9)),
 .j 42 (.load 11 true (.t 3)),
 .j 40 (.bst (.t 39)),
 .j 43 (.load 11 true (.t 4)),
 .j 44 (.call 7 [(.t 42), (.t 43)]),
 .j 38 (.bst (.t 37)),
 .j 41 (.bin .eql (.t 38) (.t 40)),
 .j 45 (.eqp 2 true (.t 41) (.t 44))]
@[go_sem] def q3_7_8 : List AI := [
 .j 37 (.mov (.t 7)),
 .j 39 (.mov (.t 9)),
 .j 42 (.load 11 true (.t 3)),
 .j 38 (.bst (.t 37)),
 .j 43 (.load 11 true (.t 4)),
 .j 40 (.bst (.t 39)),
 .j 41 (.bin .eql (.t 38) (.t 40)),
 .j 44 (.call 7 [(.t 42), (.t 43)]),
 .j 45 (.eqp 2 true (.t 41) (.t 44))]
@[go_sem] def q3_7_9 : List AI := [
 .j 37 (.mov (.t 7)),
 .j 39 (.mov (.t 9)),
 .j 42 (.load 11 true (.t 3)),
 .j 38 (.bst (.t 37)),
 .j 43 (.load 11 true (.t 4)),
 .j 44 (.call 7 [(.t 42), (.t 43)]),
 .j 40 (.bst (.t 39)),
 .j 41 (.bin .eql (.t 38) (.t 40)),
 .j 45 (.eqp 2 true (.t 41) (.t 44))]
@[go_sem] def q3_7_10 : List AI := [
 .j 37 (.mov (.t 7)),
 .j 39 (.mov (.t 9)),
 .j 42 (.load 11 true (.t 3)),
 .j 38 (.bst (.t 37)),
 .j 40 (.bst (.t 39)),
 .j 41 (.bin .eql (.t 38) (.t 40)),
 .j 43 (.load 11 true (.t 4)),
 .j 44 (.call 7 [(.t 42), (.t 43)]),
 .j 45 (.eqp 2 true (.t 41) (.t 44))]
@[go_sem] def q3_7_11 : List AI := [
 .j 37 (.mov (.t 7)),
 .j 39 (.mov (.t 9)),
 .j 42 (.load 11 true (.t 3)),
 .j 40 (.bst (.t 39)),
 .j 38 (.bst (.t 37)),
 .j 41 (.bin .eql (.t 38) (.t 40)),
 .j 43 (.load 11 true (.t 4)),
 .j 44 (.call 7 [(.t 42), (.t 43)]),
 .j 45 (.eqp 2 true (.t 41) (.t 44))]
@[go_sem] def q3_7_12 : List AI := [
 .j 37 (.mov (.t 7)),
 .j 39 (.mov (.t 9)),
 .j 43 (.load 11 true (.t 4)),
 .j 40 (.bst (.t 39)),
 .j 42 (.load 11 true (.t 3)),
 .j 38 (.bst (.t 37)),
 .j 41 (.bin .eql (.t 38) (.t 40)),
 .j 44 (.call 7 [(.t 42), (.t 43)]),
 .j 45 (.eqp 2 true (.t 41) (.t 44))]
@[go_sem] def q3_7_13 : List AI := [
 .j 37 (.mov (.t 7)),
 .j 39 (.mov (.t 9)),
 .j 43 (.load 11 true (.t 4)),
 .j 40 (.bst (.t 39)),
 .j 42 (.load 11 true (.t 3)),
 .j 44 (.call 7 [(.t 42), (.t 43)]),
 .j 38 (.bst (.t 37)),
 .j 41 (.bin .eql (.t 38) (.t 40)),
 .j 45 (.eqp 2 true (.t 41) (.t 44))]
@[go_sem] def q3_7_14 : List AI := [
 .j 37 (.mov (.t 7)),
 .j 39 (.mov (.t 9)),
 .j 40 (.bst (.t 39)),
 .j 42 (.load 11 true (.t 3)),
 .j 43 (.load 11 true (.t 4)),
 .j 38 (.bst (.t 37)),
 .j 41 (.bin .eql (.t 38) (.t 40)),
 .j 44 (.call 7 [(.t 42), (.t 43)]),
 .j 45 (.eqp 2 true (.t 41) (.t 44))]
@[go_sem] def q3_7_15 : List AI := [
 .j 37 (.mov (.t 7)),
 .j 39 (.mov (.t 9)),
 .j 40 (.bst (.t 39)),
 .j 42 (.load 11 true (.t 3)),
 .j 43 (.load 11 true (.t 4)),
 .j 44 (.call 7 [(.t 42), (.t 43)]),
 .j 38 (.bst (.t 37)),
 .j 41 (.bin .eql (.t 38) (.t 40)),
 .j 45 (.eqp 2 true (.t 41) (.t 44))]
@[go_sem] def q3_7_16 : List AI := [
 .j 37 (.mov (.t 7)),
 .j 39 (.mov (.t 9)),
 .j 40 (.bst (.t 39)),
 .j 42 (.load 11 true (.t 3)),
 .j 38 (.bst (.t 37)),
 .j 41 (.bin .eql (.t 38) (.t 40)),
 .j 43 (.load 11 true (.t 4)),
 .j 44 (.call 7 [(.t 42), (.t 43)]),
 .j 45 (.eqp 2 true (.t 41) (.t 44))]
@[go_sem] def q3_7_17 : List AI := [
 .j 37 (.mov (.t 7)),
 .j 39 (.mov (.t 9)),
 .j 43 (.load 11 true (.t 4)),
 .j 38 (.bst (.t 37)),
 .j 42 (.load 11 true (.t 3)),
 .j 40 (.bst (.t 39)),
 .j 41 (.bin .eql (.t 38) (.t 40)),
 .j 44 (.call 7 [(.t 42), (.t 43)]),
 .j 45 (.eqp 2 true (.t 41) (.t 44))]
@[go_sem] def q3_7_18 : List AI := [
 .j 37 (.mov (.t 7)),
 .j 39 (.mov (.t 9)),
 .j 43 (.load 11 true (.t 4)),
 .j 38 (.bst (.t 37)),
 .j 42 (.load 11 true (.t 3)),
 .j 44 (.call 7 [(.t 42), (.t 43)]),
 .j 40 (.bst (.t 39)),
 .j 41 (.bin .eql (.t 38) (.t 40)),
 .j 45 (.eqp 2 true (.t 41) (.t 44))]
@[go_sem] def q3_7_19 : List AI := [
 .j 37 (.mov (.t 7)),
 .j 39 (.mov (.t 9)),
 .j 38 (.bst (.t 37)),
 .j 42 (.load 11 true (.t 3)),
 .j 43 (.load 11 true (.t 4)),
 .j 40 (.bst (.t 39)),
 .j 41 (.bin .eql (.t 38) (.t 40)),
 .j 44 (.call 7 [(.t 42), (.t 43)]),
 .j 45 (.eqp 2 true (.t 41) (.t 44))]
@[go_sem] def q3_7_20 : List AI := [
 .j 37 (.mov (.t 7)),
 .j 39 (.mov (.t 9)),
 .j 38 (.bst (.t 37)),
 .j 42 (.load 11 true (.t 3)),
 .j 43 (.load 11 true (.t 4)),
 .j 44 (.call 7 [(.t 42), (.t 43)]),
 .j 40 (.bst (.t 39)),
 .j 41 (.bin .eql (.t 38) (.t 40)),
 .j 45 (.eqp 2 true (.t 41) (.t 44))]
@[go_sem] def q3_7_21 : List AI := [
 .j 37 (.mov (.t 7)),
 .j 39 (.mov (.t 9)),
 .j 38 (.bst (.t 37)),
 .j 42 (.load 11 true (.t 3)),
 .j 40 (.bst (.t 39)),
 .j 41 (.bin .eql (.t 38) (.t 40)),
 .j 43 (.load 11 true (.t 4)),
 .j 44 (.call 7 [(.t 42), (.t 43)]),
 .j 45 (.eqp 2 true (.t 41) (.t 44))]
@[go_sem] def q3_7_22 : List AI := [
 .j 37 (.mov (.t 7)),
 .j 39 (.mov (.t 9)),
 .j 43 (.load 11 true (.t 4)),
 .j 38 (.bst (.t 37)),
 .j 40 (.bst (.t 39)),
 .j 41 (.bin .eql (.t 38) (.t 40)),
 .j 42 (.load 11 true (.t 3)),
 .j 44 (.call 7 [(.t 42), (.t 43)]),
 .j 45 (.eqp 2 true (.t 41) (.t 44))]
@[go_sem] def q3_7_23 : List AI := [
 .j 37 (.mov (.t 7)),
 .j 39 (.mov (.t 9)),
 .j 43 (.load 11 true (.t 4)),
 .j 40 (.bst (.t 39)),
 .j 38 (.bst (.t 37)),
 .j 41 (.bin .eql (.t 38) (.t 40)),
 .j 42 (.load 11 true (.t 3)),
 .j 44 (.call 7 [(.t 42), (.t 43)]),
 .j 45 (.eqp 2 true (.t 41) (.t 44))]
@[go_sem] def q3_7_24 : List AI := [
 .j 37 (.mov (.t 7)),
 .j 39 (.mov (.t 9)),
 .j 40 (.bst (.t 39)),
 .j 43 (.load 11 true (.t 4)),
 .j 38 (.bst (.t 37)),
 .j 41 (.bin .eql (.t 38) (.t 40)),
 .j 42 (.load 11 true (.t 3)),
 .j 44 (.call 7 [(.t 42), (.t 43)]),
 .j 45 (.eqp 2 true (.t 41) (.t 44))]
@[go_sem] def q3_7_25 : List AI := [
 .j 37 (.mov (.t 7)),
 .j 39 (.mov (.t 9)),
 .j 38 (.bst (.t 37)),
 .j 43 (.load 11 true (.t 4)),
 .j 40 (.bst (.t 39)),
 .j 41 (.bin .eql (.t 38) (.t 40)),
 .j 42 (.load 11 true (.t 3)),
 .j 44 (.call 7 [(.t 42), (.t 43)]),
 .j 45 (.eqp 2 true (.t 41) (.t 44))]
@[go_sem] def q3_7_26 : List AI := [
 .j 37 (.mov (.t 7)),
 .j 39 (.mov (.t 9)),
 .j 38 (.bst (.t 37)),
 .j 40 (.bst (.t 39)),
 .j 41 (.bin .eql (.t 38) (.t 40)),
 .j 42 (.load 11 true (.t 3)),
 .j 43 (.load 11 true (.t 4)),
 .j 44 (.call 7 [(.t 42), (.t 43)]),
 .j 45 (.eqp 2 true (.t 41) (.t 44))]
@[go_sem] def q3_7_27 : List AI := [
 .j 37 (.mov (.t 7)),
 .j 39 (.mov (.t 9)),
 .j 40 (.bst (.t 39)),
 .j 38 (.bst (.t 37)),
 .j 41 (.bin .eql (.t 38) (.t 40)),
 .j 42 (.load 11 true (.t 3)),
 .j 43 (.load 11 true (.t 4)),
 .j 44 (.call 7 [(.t 42), (.t 43)]),
 .j 45 (.eqp 2 true (.t 41) (.t 44))]
@[go_sem] def q3_8 : List AI := [
 .j 6 (.mov (.c (.bool false)))]
@[go_sem] def q3_9 : List AI := [
 .j 46 (.mov (.t 2)),
 .j 47 (.bin .lss (.t 46) (.z 0)),
 .j 48 (.mov (.t 47)),
 .k 49 48 false (.mov (.t 2)),
 .k 50 48 false (.mov (.t 7)),
 .k 51 48 false (.len 0 (.t 50)),
 .k 52 48 false (.bin .geq (.t 49) (.t 51)),
 .j 53 (.pick (.t 48) (.c (.bool true)) (.t 52))]
@[go_sem] def q3_10 : List AI := [
 .j 54 (.call 5 []),
 .j 6 (.mov (.t 54))]
@[go_sem] def q3_11 : List AI := [
 .j 56 (.mov (.t 7)),
 .j 57 (.mov (.t 2)),
 .j 58 (.slc 1 (.t 56) none (some (.t 57))),
 .j 59 (.call 8 [(.t 58)]),
 .j 55 (.mov (.t 59)),
 .j 60 (.ext 0 (.t 55)),
 .j 61 (.ext 1 (.t 55)),
 .j 11 (.box 30011 11 (.c (.agg [(.str []), (.int .i64 0), (.int .i64 0), (.bool false), (.int .i64 0), .nils, .nils, .nils, .nils, .nils, .nils]))),
 .e (.store 11 (.t 11) (.t 60)),
 .j 12 (.mov (.t 61))]
@[go_sem] def q3_12 : List AI := [
 .j 62 (.mov (.t 12)),
 .j 63 (.bin .neq (.t 62) (.z 0)),
 .j 64 (.mov (.t 63)),
 .k 65 64 false (.load 11 true (.t 11)),
 .k 66 64 false (.load 11 true (.t 3)),
 .k 67 64 false (.call 7 [(.t 65), (.t 66)]),
 .k 68 64 false (.un .not (.t 67)),
 .j 69 (.pick (.t 64) (.c (.bool true)) (.t 68)),
 .j 70 (.mov (.t 69)),
 .k 71 70 true (.call 5 []),
 .j 72 (.pick (.t 70) (.t 71) (.c (.bool false))),
 .j 6 (.mov (.t 72))]
@[go_sem] def scriptinglaw40_DumpDistinct_c : AC := .seq (.ops [q3_0]) (.seq (.seq (.ops [q3_1]) (.cond (.t 18) (.seq (.ops [q3_2]) (.ret)) (.skip))) (.seq (.ops [q3_3]) (.seq (.ops [q3_4]) (.seq (.seq (.ops [q3_5]) (.cond (.t 35) (.seq (.ops [q3_6]) (.ret)) (.skip))) (.seq (.seq (.ops [q3_7_0, q3_7_1, q3_7_2, q3_7_3, q3_7_4, q3_7_5, q3_7_6, q3_7_7, q3_7_8, q3_7_9, q3_7_10, q3_7_11, q3_7_12, q3_7_13, q3_7_14, q3_7_15, q3_7_16, q3_7_17, q3_7_18, q3_7_19, q3_7_20, q3_7_21, q3_7_22, q3_7_23, q3_7_24, q3_7_25, q3_7_26, q3_7_27]) (.cond (.t 45) (.seq (.ops [q3_8]) (.ret)) (.skip))) (.seq (.seq (.ops [q3_9]) (.cond (.t 53) (.seq (.ops [q3_10]) (.ret)) (.skip))) (.seq (.ops [q3_11]) (.seq (.ops [q3_12]) (.ret)))))))))
theorem scriptinglaw40_DumpDistinct_ok : compF Tryd.prog 3 = some (73, scriptinglaw40_DumpDistinct_c, [.t 6]) := by kernel_rfl

@[go_sem] def q4_0 : List AI := [
 .j 1 (.box 40001 11 (.t 0)),
 .j 2 (.mov (.c (.bool false)))]
@[go_sem] def q4_1 : List AI := [
 .j 3 (.load 11 true (.t 1)),
 .j 4 (.call 9 [(.t 3)]),
 .j 5 (.bin .gtr (.t 4) (.z 60)),
 .j 6 (.mov (.t 5)),
 .k 7 6 false (.load 11 true (.t 1)),
 .k 8 6 false (.call 10 [(.t 7)]),
 .k 9 6 false (.bin .gtr (.t 8) (.z 2000)),
 .j 10 (.pick (.t 6) (.c (.bool true)) (.t 9)),
 .j 2 (.mov (.t 10))]
@[go_sem] def scriptinglaw40_large_c : AC := .seq (.ops [q4_0]) (.seq (.ops [q4_1]) (.ret))
theorem scriptinglaw40_large_ok : compF Tryd.prog 4 = some (11, scriptinglaw40_large_c, [.t 2]) := by kernel_rfl

@[go_sem] def q5_0 : List AI := [
 .j 0 (.mov (.c (.bool false)))]
@[go_sem] def q5_1 : List AI := [
 .j 11 (.call 11 []),
 .j 12 (.call 6 [(.t 11)]),
 .j 10 (.mov (.t 12)),
 .j 13 (.ext 0 (.t 10)),
 .j 14 (.ext 1 (.t 10)),
 .j 1 (.mov (.t 13)),
 .j 2 (.mov (.t 14))]
@[go_sem] def q5_2 : List AI := [
 .j 16 (.mov (.t 1)),
 .j 17 (.call 8 [(.t 16)]),
 .j 15 (.mov (.t 17)),
 .j 18 (.ext 0 (.t 15)),
 .j 19 (.ext 1 (.t 15)),
 .j 3 (.box 50003 11 (.c (.agg [(.str []), (.int .i64 0), (.int .i64 0), (.bool false), (.int .i64 0), .nils, .nils, .nils, .nils, .nils, .nils]))),
 .e (.store 11 (.t 3) (.t 18)),
 .j 4 (.mov (.t 19))]
@[go_sem] def q5_3_0 : List AI := [
 .j 20 (.mov (.t 1)),
 .j 21 (.len 0 (.t 20)),
 .j 22 (.bin .lss (.t 21) (.z 30)),
 .j 23 (.mov (.t 22)),
 .k 24 23 false (.mov (.t 2)),
 .k 25 23 false (.bin .neq (.t 24) (.z 0)),
 .j 26 (.pick (.t 23) (.c (.bool true)) (.t 25)),
 .j 27 (.mov (.t 26)),
 .k 28 27 false (.mov (.t 4)),
 .k 29 27 false (.bin .neq (.t 28) (.z 0)),
 .j 30 (.pick (.t 27) (.c (.bool true)) (.t 29)),
 .j 31 (.mov (.t 30)),
 .k 32 31 false (.load 11 true (.t 3)),
 .k 33 31 false (.call 11 []),
 .k 34 31 false (.call 7 [(.t 32), (.t 33)]),
 .k 35 31 false (.un .not (.t 34)),
 .j 36 (.pick (.t 31) (.c (.bool true)) (.t 35))]
@[go_sem] def q5_3_1 : List AI := [
 .j 20 (.mov (.t 1)),
 .j 21 (.len 0 (.t 20)),
 .j 22 (.bin .lss (.t 21) (.z 30)),
 .j 23 (.mov (.t 22)),
 .k 24 23 false (.mov (.t 2)),
 .k 25 23 false (.bin .neq (.t 24) (.z 0)),
 .j 26 (.pick (.t 23) (.c (.bool true)) (.t 25)),
 .j 27 (.mov (.t 26)),
 .k 28 27 false (.mov (.t 4)),
 .k 29 27 false (.bin .neq (.t 28) (.z 0)),
 .j 30 (.pick (.t 27) (.c (.bool true)) (.t 29)),
 .j 31 (.mov (.t 30)),
 .k 33 31 false (.call 11 []),
 .k 32 31 false (.load 11 true (.t 3)),
 .k 34 31 false (.call 7 [(.t 32), (.t 33)]),
 .k 35 31 false (.un .not (.t 34)),
 .j 36 (.pick (.t 31) (.c (.bool true)) (.t 35))]
@[go_sem] def q5_4 : List AI := [
 .j 0 (.mov (.c (.bool false)))]
@[go_sem] def q5_5 : List AI := [
 .j 38 (.mov (.t 1)),
 .j 39 (.slc 1 (.t 38) none (some (.z 8))),
 .j 40 (.call 8 [(.t 39)]),
 .j 37 (.mov (.t 40)),
 .j 41 (.ext 0 (.t 37)),
 .j 42 (.ext 1 (.t 37)),
 .j 5 (.box 50005 11 (.c (.agg [(.str []), (.int .i64 0), (.int .i64 0), (.bool false), (.int .i64 0), .nils, .nils, .nils, .nils, .nils, .nils]))),
 .e (.store 11 (.t 5) (.t 41)),
 .j 6 (.mov (.t 42))]
@[go_sem] def q5_6 : List AI := [
 .j 43 (.mkrow 50043 1 []),
 .j 44 (.mov (.t 1)),
 .j 45 (.apb 140737488355328 50045 1 (.t 43) (.t 44)),
 .j 7 (.mov (.t 45))]
@[go_sem] def q5_7 : List AI := [
 .j 46 (.mov (.t 7)),
 .j 47 (.iaddr 1 (.t 46) (.z 20)),
 .j 48 (.load 1 false (.t 47)),
 .j 49 (.bin .xor (.t 48) (.c (.int .u8 1))),
 .j 50 (.iaddr 1 (.t 46) (.z 20)),
 .e (.store 1 (.t 50) (.t 49))]
@[go_sem] def q5_8 : List AI := [
 .j 52 (.mov (.t 7)),
 .j 53 (.call 8 [(.t 52)]),
 .j 51 (.mov (.t 53)),
 .j 54 (.ext 0 (.t 51)),
 .j 55 (.ext 1 (.t 51)),
 .j 8 (.box 50008 11 (.c (.agg [(.str []), (.int .i64 0), (.int .i64 0), (.bool false), (.int .i64 0), .nils, .nils, .nils, .nils, .nils, .nils]))),
 .e (.store 11 (.t 8) (.t 54)),
 .j 9 (.mov (.t 55))]
@[go_sem] def q5_9 : List AI := [
 .j 56 (.mov (.t 1)),
 .j 57 (.slc 1 (.t 56) none (some (.z 17))),
 .j 58 (.bst (.t 57)),
 .j 59 (.bin .eql (.t 58) (.c (.str [83, 67, 82, 66, 1, 4, 0, 0, 0, 0, 0, 0, 0, 109, 97, 105, 110]))),
 .j 60 (.mov (.t 59)),
 .k 61 60 true (.call 12 [(.c .nils)]),
 .k 62 60 true (.bin .eql (.t 61) (.c (.int .u32 2166136261))),
 .j 63 (.pick (.t 60) (.t 62) (.c (.bool false))),
 .j 64 (.mov (.t 63)),
 .k 65 64 true (.mkraw 50065 [(.c (.int .u8 97))]),
 .k 66 64 true (.cvr (.t 65)),
 .k 67 64 true (.call 12 [(.t 66)]),
 .k 68 64 true (.bin .eql (.t 67) (.c (.int .u32 3826002220))),
 .j 69 (.pick (.t 64) (.t 68) (.c (.bool false))),
 .j 70 (.mov (.t 69)),
 .k 71 70 true (.mov (.t 6)),
 .k 72 70 true (.bin .eql (.t 71) (.z 5)),
 .j 73 (.pick (.t 70) (.t 72) (.c (.bool false))),
 .j 74 (.mov (.t 73)),
 .k 75 74 true (.mov (.t 9)),
 .k 76 74 true (.bin .eql (.t 75) (.z 20)),
 .j 77 (.pick (.t 74) (.t 76) (.c (.bool false))),
 .j 0 (.mov (.t 77))]
@[go_sem] def scriptinglaw40_awake_c : AC := .seq (.ops [q5_0]) (.seq (.ops [q5_1]) (.seq (.ops [q5_2]) (.seq (.seq (.ops [q5_3_0, q5_3_1]) (.cond (.t 36) (.seq (.ops [q5_4]) (.ret)) (.skip))) (.seq (.ops [q5_5]) (.seq (.ops [q5_6]) (.seq (.ops [q5_7]) (.seq (.ops [q5_8]) (.seq (.ops [q5_9]) (.ret)))))))))
theorem scriptinglaw40_awake_ok : compF Tryd.prog 5 = some (78, scriptinglaw40_awake_c, [.t 0]) := by kernel_rfl

@[go_sem] def q6_0 : List AI := [
 .j 1 (.box 60001 11 (.t 0)),
 .j 2 (.mov (.c .nils)),
 .j 3 (.mov (.z 0))]
@[go_sem] def q6_1 : List AI := [
 .j 7 (.load 11 true (.t 1)),
 .j 8 (.call 13 [(.t 7)]),
 .j 4 (.mov (.t 8))]
@[go_sem] def q6_2 : List AI := [
 .j 9 (.mov (.t 4)),
 .j 10 (.bin .neq (.t 9) (.z 0))]
@[go_sem] def q6_3 : List AI := [
 .j 11 (.mov (.t 4)),
 .j 2 (.mov (.c .nils)),
 .j 3 (.mov (.t 11))]
@[go_sem] def q6_4 : List AI := [
 .j 12 (.mkraw 60012 [(.c (.int .u8 83)), (.c (.int .u8 67)), (.c (.int .u8 82)), (.c (.int .u8 66)), (.c (.int .u8 1))]),
 .j 13 (.cvr (.t 12)),
 .j 14 (.build [.nils] [(0, 1, (.t 13))]),
 .j 15 (.box 60015 1 (.t 14)),
 .j 5 (.mov (.t 15))]
@[go_sem] def q6_5 : List AI := [
 .j 16 (.mov (.t 5)),
 .j 17 (.load 11 true (.t 1)),
 .j 18 (.call 14 [(.t 16), (.t 17)])]
@[go_sem] def q6_6 : List AI := [
 .j 19 (.mov (.t 5)),
 .j 20 (.nilck (.t 19)),
 .j 21 (.faddr 0 (.t 20)),
 .j 22 (.load 1 false (.t 21)),
 .j 23 (.call 12 [(.t 22)]),
 .j 6 (.mov (.t 23))]
@[go_sem] def q6_7 : List AI := [
 .j 24 (.mov (.t 5)),
 .j 25 (.nilck (.t 24)),
 .j 26 (.faddr 0 (.t 25)),
 .j 27 (.load 1 false (.t 26)),
 .j 28 (.mov (.t 6)),
 .j 29 (.conv .u8 (.t 28)),
 .j 30 (.mov (.t 6)),
 .j 31 (.sh false (.t 30) (.c (.int .u64 8))),
 .j 32 (.conv .u8 (.t 31)),
 .j 33 (.mov (.t 6)),
 .j 34 (.sh false (.t 33) (.c (.int .u64 16))),
 .j 35 (.conv .u8 (.t 34)),
 .j 36 (.mov (.t 6)),
 .j 37 (.sh false (.t 36) (.c (.int .u64 24))),
 .j 38 (.conv .u8 (.t 37)),
 .j 39 (.mkisl 1 [(.t 29), (.t 32), (.t 35), (.t 38)]),
 .j 40 (.apb 140737488355328 60040 1 (.t 27) (.t 39)),
 .j 2 (.mov (.t 40)),
 .j 3 (.mov (.z 0))]
@[go_sem] def dump_Put_c : AC := .seq (.ops [q6_0]) (.seq (.seq (.ops [q6_1]) (.seq (.ops [q6_2]) (.cond (.t 10) (.seq (.ops [q6_3]) (.ret)) (.skip)))) (.seq (.ops [q6_4]) (.seq (.ops [q6_5]) (.seq (.ops [q6_6]) (.seq (.ops [q6_7]) (.ret))))))
theorem dump_Put_ok : compF Tryd.prog 6 = some (41, dump_Put_c, [.t 2, .t 3]) := by kernel_rfl

@[go_sem] def q7_0 : List AI := [
 .j 2 (.box 70002 11 (.t 0)),
 .j 3 (.box 70003 11 (.t 1)),
 .j 4 (.mov (.c (.bool false)))]
@[go_sem] def q7_1_0 : List AI := [
 .j 8 (.load 11 true (.t 2)),
 .j 10 (.load 11 true (.t 3)),
 .j 9 (.call 15 [(.t 8)]),
 .j 11 (.call 15 [(.t 10)]),
 .j 5 (.mov (.t 9)),
 .j 6 (.mov (.t 11))]
@[go_sem] def q7_1_1 : List AI := [
 .j 8 (.load 11 true (.t 2)),
 .j 9 (.call 15 [(.t 8)]),
 .j 10 (.load 11 true (.t 3)),
 .j 11 (.call 15 [(.t 10)]),
 .j 5 (.mov (.t 9)),
 .j 6 (.mov (.t 11))]
@[go_sem] def q7_2 : List AI := [
 .j 12 (.mov (.t 5)),
 .j 13 (.len 0 (.t 12)),
 .j 14 (.mov (.t 6)),
 .j 15 (.len 0 (.t 14)),
 .j 16 (.bin .neq (.t 13) (.t 15))]
@[go_sem] def q7_3 : List AI := [
 .j 4 (.mov (.c (.bool false)))]
@[go_sem] def q7_4 : List AI := [
 .j 7 (.mov (.z 0))]
@[go_sem] def q7_5 : List AI := [
 .j 17 (.mov (.t 7)),
 .j 18 (.mov (.t 5)),
 .j 19 (.len 0 (.t 18)),
 .j 20 (.bin .lss (.t 17) (.t 19))]
@[go_sem] def q7_6 : List AI := [
 .j 23 (.mov (.t 5)),
 .j 24 (.mov (.t 7)),
 .j 25 (.iaddr 11 (.t 23) (.t 24)),
 .j 26 (.load 11 true (.t 25)),
 .j 27 (.mov (.t 6)),
 .j 28 (.mov (.t 7)),
 .j 29 (.iaddr 11 (.t 27) (.t 28)),
 .j 30 (.load 11 true (.t 29)),
 .j 31 (.call 16 [(.t 26), (.t 30)]),
 .j 32 (.un .not (.t 31))]
@[go_sem] def q7_7 : List AI := [
 .j 4 (.mov (.c (.bool false)))]
@[go_sem] def q7_8 : List AI := [
 .j 21 (.mov (.t 7)),
 .j 22 (.bin .add (.t 21) (.z 1)),
 .j 7 (.mov (.t 22))]
@[go_sem] def scriptingref33_Same_l0' : AC := .seq (.seq (.ops [q7_5]) (.cond (.t 20) (.skip) (.exit 0))) (.seq (.block 1 (.seq (.ops [q7_6]) (.cond (.t 32) (.seq (.ops [q7_7]) (.ret)) (.skip)))) (.ops [q7_8]))
def scriptingref33_Same_l0 : AC := scriptingref33_Same_l0'
theorem scriptingref33_Same_l0_eq : scriptingref33_Same_l0 = scriptingref33_Same_l0' := rfl
@[go_sem] def q7_9 : List AI := [
 .j 4 (.mov (.c (.bool true)))]
@[go_sem] def scriptingref33_Same_c : AC := .seq (.ops [q7_0]) (.seq (.ops [q7_1_0, q7_1_1]) (.seq (.seq (.ops [q7_2]) (.cond (.t 16) (.seq (.ops [q7_3]) (.ret)) (.skip))) (.seq (.seq (.ops [q7_4]) (.block 0 (.loop scriptingref33_Same_l0))) (.seq (.ops [q7_9]) (.ret)))))
theorem scriptingref33_Same_ok : compF Tryd.prog 7 = some (33, scriptingref33_Same_c, [.t 4]) := by kernel_rfl

@[go_sem] def q8_0 : List AI := [
 .j 2 (.box 80002 11 (.c (.agg [(.str []), (.int .i64 0), (.int .i64 0), (.bool false), (.int .i64 0), .nils, .nils, .nils, .nils, .nils, .nils]))),
 .j 3 (.mov (.z 0))]
@[go_sem] def q8_1 : List AI := [
 .j 8 (.mov (.t 0)),
 .j 9 (.len 0 (.t 8)),
 .j 10 (.bin .sub (.t 9) (.z 4)),
 .j 4 (.mov (.t 10))]
@[go_sem] def q8_2 : List AI := [
 .j 11 (.mov (.t 4)),
 .j 12 (.bin .lss (.t 11) (.z 5))]
@[go_sem] def q8_3 : List AI := [
 .j 13 (.build [(.str []), (.int .i64 0), (.int .i64 0), (.bool false), (.int .i64 0), .nils, .nils, .nils, .nils, .nils, .nils] []),
 .e (.store 11 (.t 2) (.t 13)),
 .j 3 (.mov (.z 5))]
@[go_sem] def q8_4 : List AI := [
 .j 14 (.mov (.t 0)),
 .j 15 (.mov (.t 4)),
 .j 16 (.iaddr 1 (.t 14) (.t 15)),
 .j 17 (.load 1 false (.t 16)),
 .j 18 (.conv .u32 (.t 17)),
 .j 19 (.mov (.t 0)),
 .j 20 (.mov (.t 4)),
 .j 21 (.bin .add (.t 20) (.z 1)),
 .j 22 (.iaddr 1 (.t 19) (.t 21)),
 .j 23 (.load 1 false (.t 22)),
 .j 24 (.conv .u32 (.t 23)),
 .j 25 (.sh true (.t 24) (.c (.int .u64 8))),
 .j 26 (.bin .or (.t 18) (.t 25)),
 .j 27 (.mov (.t 0)),
 .j 28 (.mov (.t 4)),
 .j 29 (.bin .add (.t 28) (.z 2)),
 .j 30 (.iaddr 1 (.t 27) (.t 29)),
 .j 31 (.load 1 false (.t 30)),
 .j 32 (.conv .u32 (.t 31)),
 .j 33 (.sh true (.t 32) (.c (.int .u64 16))),
 .j 34 (.bin .or (.t 26) (.t 33)),
 .j 35 (.mov (.t 0)),
 .j 36 (.mov (.t 4)),
 .j 37 (.bin .add (.t 36) (.z 3)),
 .j 38 (.iaddr 1 (.t 35) (.t 37)),
 .j 39 (.load 1 false (.t 38)),
 .j 40 (.conv .u32 (.t 39)),
 .j 41 (.sh true (.t 40) (.c (.int .u64 24))),
 .j 42 (.bin .or (.t 34) (.t 41)),
 .j 5 (.mov (.t 42))]
@[go_sem] def q8_5 : List AI := [
 .j 43 (.mov (.t 5)),
 .j 44 (.mov (.t 0)),
 .j 45 (.mov (.t 4)),
 .j 46 (.slc 1 (.t 44) none (some (.t 45))),
 .j 47 (.call 12 [(.t 46)]),
 .j 48 (.bin .neq (.t 43) (.t 47))]
@[go_sem] def q8_6 : List AI := [
 .j 49 (.build [(.str []), (.int .i64 0), (.int .i64 0), (.bool false), (.int .i64 0), .nils, .nils, .nils, .nils, .nils, .nils] []),
 .e (.store 11 (.t 2) (.t 49)),
 .j 3 (.mov (.z 20))]
@[go_sem] def q8_7 : List AI := [
 .j 50 (.mov (.t 0)),
 .j 51 (.slc 1 (.t 50) none (some (.z 5))),
 .j 52 (.bst (.t 51)),
 .j 53 (.bin .neq (.t 52) (.c (.str [83, 67, 82, 66, 1])))]
@[go_sem] def q8_8 : List AI := [
 .j 54 (.build [(.str []), (.int .i64 0), (.int .i64 0), (.bool false), (.int .i64 0), .nils, .nils, .nils, .nils, .nils, .nils] []),
 .e (.store 11 (.t 2) (.t 54)),
 .j 3 (.mov (.z 4))]
@[go_sem] def q8_9 : List AI := [
 .j 56 (.mov (.t 0)),
 .j 57 (.mov (.t 4)),
 .j 58 (.slc 1 (.t 56) (some (.z 5)) (some (.t 57))),
 .j 59 (.call 17 [(.t 58)]),
 .j 55 (.mov (.t 59)),
 .j 60 (.ext 0 (.t 55)),
 .j 61 (.ext 1 (.t 55)),
 .j 6 (.box 80006 11 (.c (.agg [(.str []), (.int .i64 0), (.int .i64 0), (.bool false), (.int .i64 0), .nils, .nils, .nils, .nils, .nils, .nils]))),
 .e (.store 11 (.t 6) (.t 60)),
 .j 7 (.mov (.t 61))]
@[go_sem] def q8_10 : List AI := [
 .j 62 (.mov (.t 7)),
 .j 63 (.bin .eql (.t 62) (.z 0))]
@[go_sem] def q8_11 : List AI := [
 .j 64 (.load 11 true (.t 6)),
 .j 65 (.call 13 [(.t 64)]),
 .j 7 (.mov (.t 65))]
@[go_sem] def q8_12 : List AI := [
 .j 66 (.mov (.t 7)),
 .j 67 (.bin .neq (.t 66) (.z 0))]
@[go_sem] def q8_13 : List AI := [
 .j 68 (.build [(.str []), (.int .i64 0), (.int .i64 0), (.bool false), (.int .i64 0), .nils, .nils, .nils, .nils, .nils, .nils] []),
 .j 69 (.mov (.t 7)),
 .e (.store 11 (.t 2) (.t 68)),
 .j 3 (.mov (.t 69))]
@[go_sem] def q8_14 : List AI := [
 .j 70 (.load 11 true (.t 6)),
 .e (.store 11 (.t 2) (.t 70)),
 .j 3 (.mov (.z 0))]
@[go_sem] def dump_Get_c : AC := .seq (.ops [q8_0]) (.seq (.ops [q8_1]) (.seq (.seq (.ops [q8_2]) (.cond (.t 12) (.seq (.ops [q8_3]) (.ret)) (.skip))) (.seq (.ops [q8_4]) (.seq (.seq (.ops [q8_5]) (.cond (.t 48) (.seq (.ops [q8_6]) (.ret)) (.skip))) (.seq (.seq (.ops [q8_7]) (.cond (.t 53) (.seq (.ops [q8_8]) (.ret)) (.skip))) (.seq (.ops [q8_9]) (.seq (.seq (.ops [q8_10]) (.cond (.t 63) (.ops [q8_11]) (.skip))) (.seq (.seq (.ops [q8_12]) (.cond (.t 67) (.seq (.ops [q8_13]) (.ret)) (.skip))) (.seq (.ops [q8_14]) (.ret))))))))))
theorem dump_Get_ok : compF Tryd.prog 8 = some (71, dump_Get_c, [.c 2 11 true, .t 3]) := by kernel_rfl

@[go_sem] def q9_0 : List AI := [
 .j 1 (.box 90001 11 (.t 0)),
 .j 2 (.mov (.z 0))]
@[go_sem] def q9_1 : List AI := [
 .j 3 (.load 11 true (.t 1)),
 .j 4 (.call 15 [(.t 3)]),
 .j 5 (.len 0 (.t 4)),
 .j 2 (.mov (.t 5))]
@[go_sem] def scriptingref33_Count_c : AC := .seq (.ops [q9_0]) (.seq (.ops [q9_1]) (.ret))
theorem scriptingref33_Count_ok : compF Tryd.prog 9 = some (6, scriptingref33_Count_c, [.t 2]) := by kernel_rfl

@[go_sem] def q10_0 : List AI := [
 .j 1 (.box 100001 11 (.t 0)),
 .j 2 (.mov (.z 0))]
@[go_sem] def q10_1 : List AI := [
 .j 3 (.mov (.z 0))]
@[go_sem] def q10_2 : List AI := [
 .j 6 (.load 11 true (.t 1)),
 .j 7 (.call 15 [(.t 6)]),
 .j 4 (.mov (.t 7))]
@[go_sem] def q10_3 : List AI := [
 .j 5 (.mov (.z 0))]
@[go_sem] def q10_4 : List AI := [
 .j 8 (.mov (.t 5)),
 .j 9 (.mov (.t 4)),
 .j 10 (.len 0 (.t 9)),
 .j 11 (.bin .lss (.t 8) (.t 10))]
@[go_sem] def q10_5 : List AI := [
 .j 14 (.mov (.t 3)),
 .j 15 (.mov (.t 4)),
 .j 16 (.mov (.t 5)),
 .j 17 (.iaddr 11 (.t 15) (.t 16)),
 .j 18 (.faddr 5 (.t 17)),
 .j 19 (.load 1 false (.t 18)),
 .j 20 (.len 0 (.t 19)),
 .j 21 (.bin .add (.t 14) (.t 20)),
 .j 3 (.mov (.t 21))]
@[go_sem] def q10_6 : List AI := [
 .j 12 (.mov (.t 5)),
 .j 13 (.bin .add (.t 12) (.z 1)),
 .j 5 (.mov (.t 13))]
@[go_sem] def scriptingref33_Size_l0' : AC := .seq (.seq (.ops [q10_4]) (.cond (.t 11) (.skip) (.exit 0))) (.seq (.block 1 (.ops [q10_5])) (.ops [q10_6]))
def scriptingref33_Size_l0 : AC := scriptingref33_Size_l0'
theorem scriptingref33_Size_l0_eq : scriptingref33_Size_l0 = scriptingref33_Size_l0' := rfl
@[go_sem] def q10_7 : List AI := [
 .j 22 (.mov (.t 3)),
 .j 2 (.mov (.t 22))]
@[go_sem] def scriptingref33_Size_c : AC := .seq (.ops [q10_0]) (.seq (.ops [q10_1]) (.seq (.ops [q10_2]) (.seq (.seq (.ops [q10_3]) (.block 0 (.loop scriptingref33_Size_l0))) (.seq (.ops [q10_7]) (.ret)))))
theorem scriptingref33_Size_ok : compF Tryd.prog 10 = some (23, scriptingref33_Size_c, [.t 2]) := by kernel_rfl

@[go_sem] def q11_0 : List AI := [
 .j 0 (.box 110000 11 (.c (.agg [(.str []), (.int .i64 0), (.int .i64 0), (.bool false), (.int .i64 0), .nils, .nils, .nils, .nils, .nils, .nils])))]
@[go_sem] def q11_1 : List AI := [
 .j 1 (.build [(.int .i64 0), (.int .i64 0), (.int .i64 0), (.int .i64 0), (.int .i64 0)] [(0, 1, (.z 18))]),
 .j 2 (.mkrow 110002 5 [(.t 1)]),
 .j 3 (.mkrow 110003 1 [(.z 1)]),
 .j 4 (.build [(.str []), (.int .i64 0), (.int .i64 0), (.bool false), (.int .i64 0), .nils, .nils, .nils, .nils, .nils, .nils] [(0, 1, (.c (.str [109, 97, 105, 110]))), (3, 1, (.c (.bool true))), (4, 1, (.z 1)), (5, 1, (.t 2)), (6, 1, (.t 3))]),
 .e (.store 11 (.t 0) (.t 4))]
@[go_sem] def scriptinglaw40_small_c : AC := .seq (.ops [q11_0]) (.seq (.ops [q11_1]) (.ret))
theorem scriptinglaw40_small_ok : compF Tryd.prog 11 = some (5, scriptinglaw40_small_c, [.c 0 11 true]) := by kernel_rfl

@[go_sem] def q12_0 : List AI := [
 .j 2 (.mov (.c (.int .u32 0)))]
@[go_sem] def q12_1 : List AI := [
 .j 3 (.mov (.c (.int .u32 2166136261)))]
@[go_sem] def q12_2 : List AI := [
 .j 6 (.mov (.t 0)),
 .j 7 (.len 0 (.t 6)),
 .j 8 (.mov (.z 0))]
@[go_sem] def q12_3 : List AI := [
 .j 9 (.bin .lss (.t 8) (.t 7))]
@[go_sem] def q12_4 : List AI := [
 .j 10 (.iaddr 1 (.t 6) (.t 8)),
 .j 11 (.load 1 false (.t 10)),
 .j 5 (.mov (.t 11))]
@[go_sem] def q12_5 : List AI := [
 .j 12 (.mov (.t 3)),
 .j 13 (.mov (.t 5)),
 .j 14 (.conv .u32 (.t 13)),
 .j 15 (.bin .xor (.t 12) (.t 14)),
 .j 16 (.binw .mul (.t 15) (.c (.int .u32 16777619))),
 .j 3 (.mov (.t 16))]
@[go_sem] def q12_6 : List AI := [
 .j 17 (.bin .add (.t 8) (.z 1)),
 .j 8 (.mov (.t 17))]
@[go_sem] def dump_Sum_l0' : AC := .seq (.ops [q12_3]) (.seq (.cond (.t 9) (.skip) (.exit 0)) (.seq (.block 1 (.seq (.ops [q12_4]) (.ops [q12_5]))) (.ops [q12_6])))
def dump_Sum_l0 : AC := dump_Sum_l0'
theorem dump_Sum_l0_eq : dump_Sum_l0 = dump_Sum_l0' := rfl
@[go_sem] def q12_7 : List AI := [
 .j 18 (.mov (.t 3)),
 .j 2 (.mov (.t 18))]
@[go_sem] def dump_Sum_c : AC := .seq (.ops [q12_0]) (.seq (.ops [q12_1]) (.seq (.seq (.ops [q12_2]) (.block 0 (.loop dump_Sum_l0))) (.seq (.ops [q12_7]) (.ret))))
theorem dump_Sum_ok : compF Tryd.prog 12 = some (19, dump_Sum_c, [.t 2]) := by kernel_rfl

@[go_sem] def q13_0 : List AI := [
 .j 1 (.box 130001 11 (.t 0)),
 .j 2 (.box 130002 1 (.z 0))]
@[go_sem] def q13_1 : List AI := [
 .j 5 (.load 11 true (.t 1)),
 .j 6 (.call 18 [(.t 5)]),
 .j 7 (.bin .gtr (.t 6) (.z 64))]
@[go_sem] def q13_2 : List AI := [
 .e (.store 1 (.t 2) (.z 3))]
@[go_sem] def q13_3 : List AI := [
 .j 8 (.load 11 true (.t 1)),
 .j 9 (.call 19 [(.t 8)])]
@[go_sem] def q13_4 : List AI := [
 .j 3 (.box 130003 11 (.c (.agg [(.str []), (.int .i64 0), (.int .i64 0), (.bool false), (.int .i64 0), .nils, .nils, .nils, .nils, .nils, .nils]))),
 .e (.store 11 (.t 3) (.t 10))]
@[go_sem] def q13_5 : List AI := [
 .j 11 (.load 11 true (.t 3)),
 .j 12 (.call 20 [(.t 11)]),
 .j 4 (.mov (.t 12))]
@[go_sem] def q13_6 : List AI := [
 .j 13 (.mov (.t 4)),
 .j 14 (.bin .neq (.t 13) (.z 0))]
@[go_sem] def q13_7 : List AI := [
 .j 15 (.mov (.t 4)),
 .e (.store 1 (.t 2) (.t 15))]
@[go_sem] def proto_Check_g0a' : AC := .ops [q13_4]
def proto_Check_g0a : AC := proto_Check_g0a'
theorem proto_Check_g0a_eq : proto_Check_g0a = proto_Check_g0a' := rfl
@[go_sem] def proto_Check_g0b' : AC := .block 1 (.seq (.ops [q13_5]) (.seq (.ops [q13_6]) (.cond (.t 14) (.seq (.ops [q13_7]) (.ret)) (.skip))))
def proto_Check_g0b : AC := proto_Check_g0b'
theorem proto_Check_g0b_eq : proto_Check_g0b = proto_Check_g0b' := rfl
@[go_sem] def q13_8 : List AI := [
 .e (.store 1 (.t 2) (.z 0))]
@[go_sem] def proto_Check_c : AC := .seq (.ops [q13_0]) (.seq (.seq (.ops [q13_1]) (.cond (.t 7) (.seq (.ops [q13_2]) (.ret)) (.skip))) (.seq (.seq (.ops [q13_3]) (.block 0 (.rng 139010 (.t 9) [10] proto_Check_g0a proto_Check_g0b))) (.seq (.ops [q13_8]) (.ret))))
theorem proto_Check_ok : compF Tryd.prog 13 = some (16, proto_Check_c, [.c 2 1 false]) := by kernel_rfl

@[go_sem] def q14_0 : List AI := [
 .j 3 (.box 140003 11 (.t 1))]
@[go_sem] def q14_1 : List AI := [
 .j 20 (.mov (.t 0)),
 .j 21 (.faddr 0 (.t 3)),
 .j 22 (.load 1 false (.t 21)),
 .j 23 (.call 21 [(.t 20), (.t 22)])]
@[go_sem] def q14_2 : List AI := [
 .j 24 (.mov (.t 0)),
 .j 25 (.faddr 1 (.t 3)),
 .j 26 (.load 1 false (.t 25)),
 .j 27 (.call 22 [(.t 24), (.t 26)])]
@[go_sem] def q14_3 : List AI := [
 .j 28 (.mov (.t 0)),
 .j 29 (.faddr 2 (.t 3)),
 .j 30 (.load 1 false (.t 29)),
 .j 31 (.call 22 [(.t 28), (.t 30)])]
@[go_sem] def q14_4 : List AI := [
 .j 32 (.mov (.t 0)),
 .j 33 (.faddr 3 (.t 3)),
 .j 34 (.load 1 false (.t 33)),
 .j 35 (.call 23 [(.t 32), (.t 34)])]
@[go_sem] def q14_5 : List AI := [
 .j 36 (.mov (.t 0)),
 .j 37 (.faddr 4 (.t 3)),
 .j 38 (.load 1 false (.t 37)),
 .j 39 (.call 22 [(.t 36), (.t 38)])]
@[go_sem] def q14_6 : List AI := [
 .j 40 (.mov (.t 0)),
 .j 41 (.faddr 5 (.t 3)),
 .j 42 (.load 1 false (.t 41)),
 .j 43 (.len 0 (.t 42)),
 .j 44 (.call 22 [(.t 40), (.t 43)])]
@[go_sem] def q14_7 : List AI := [
 .j 45 (.faddr 5 (.t 3)),
 .j 46 (.load 1 false (.t 45)),
 .j 47 (.len 0 (.t 46)),
 .j 48 (.mov (.z 0))]
@[go_sem] def q14_8 : List AI := [
 .j 49 (.bin .lss (.t 48) (.t 47))]
@[go_sem] def q14_9 : List AI := [
 .j 50 (.iaddr 5 (.t 46) (.t 48)),
 .j 51 (.load 5 true (.t 50)),
 .j 5 (.box 140005 5 (.c (.agg [(.int .i64 0), (.int .i64 0), (.int .i64 0), (.int .i64 0), (.int .i64 0)]))),
 .e (.store 5 (.t 5) (.t 51))]
@[go_sem] def q14_10 : List AI := [
 .j 52 (.faddr 0 (.t 5)),
 .j 53 (.load 1 false (.t 52)),
 .j 54 (.faddr 1 (.t 5)),
 .j 55 (.load 1 false (.t 54)),
 .j 56 (.faddr 2 (.t 5)),
 .j 57 (.load 1 false (.t 56)),
 .j 58 (.faddr 3 (.t 5)),
 .j 59 (.load 1 false (.t 58)),
 .j 60 (.faddr 4 (.t 5)),
 .j 61 (.load 1 false (.t 60)),
 .j 62 (.mkrow 140062 1 [(.t 53), (.t 55), (.t 57), (.t 59), (.t 61)]),
 .j 63 (.len 0 (.t 62)),
 .j 64 (.mov (.z 0))]
@[go_sem] def q14_11 : List AI := [
 .j 65 (.bin .lss (.t 64) (.t 63))]
@[go_sem] def q14_12 : List AI := [
 .j 66 (.iaddr 1 (.t 62) (.t 64)),
 .j 67 (.load 1 false (.t 66)),
 .j 7 (.mov (.t 67))]
@[go_sem] def q14_13 : List AI := [
 .j 68 (.mov (.t 0)),
 .j 69 (.mov (.t 7)),
 .j 70 (.call 22 [(.t 68), (.t 69)])]
@[go_sem] def q14_14 : List AI := [
 .j 71 (.bin .add (.t 64) (.z 1)),
 .j 64 (.mov (.t 71))]
@[go_sem] def dump_writer_function_l1' : AC := .seq (.ops [q14_11]) (.seq (.cond (.t 65) (.skip) (.exit 2)) (.seq (.block 3 (.seq (.ops [q14_12]) (.ops [q14_13]))) (.ops [q14_14])))
def dump_writer_function_l1 : AC := dump_writer_function_l1'
theorem dump_writer_function_l1_eq : dump_writer_function_l1 = dump_writer_function_l1' := rfl
@[go_sem] def q14_15 : List AI := [
 .j 72 (.bin .add (.t 48) (.z 1)),
 .j 48 (.mov (.t 72))]
@[go_sem] def dump_writer_function_l0' : AC := .seq (.ops [q14_8]) (.seq (.cond (.t 49) (.skip) (.exit 0)) (.seq (.block 1 (.seq (.ops [q14_9]) (.seq (.ops [q14_10]) (.block 2 (.loop dump_writer_function_l1))))) (.ops [q14_15])))
def dump_writer_function_l0 : AC := dump_writer_function_l0'
theorem dump_writer_function_l0_eq : dump_writer_function_l0 = dump_writer_function_l0' := rfl
@[go_sem] def q14_16 : List AI := [
 .j 73 (.mov (.t 0)),
 .j 74 (.faddr 6 (.t 3)),
 .j 75 (.load 1 false (.t 74)),
 .j 76 (.len 0 (.t 75)),
 .j 77 (.call 22 [(.t 73), (.t 76)])]
@[go_sem] def q14_17 : List AI := [
 .j 78 (.faddr 6 (.t 3)),
 .j 79 (.load 1 false (.t 78)),
 .j 80 (.len 0 (.t 79)),
 .j 81 (.mov (.z 0))]
@[go_sem] def q14_18 : List AI := [
 .j 82 (.bin .lss (.t 81) (.t 80))]
@[go_sem] def q14_19 : List AI := [
 .j 83 (.iaddr 1 (.t 79) (.t 81)),
 .j 84 (.load 1 false (.t 83)),
 .j 9 (.mov (.t 84))]
@[go_sem] def q14_20 : List AI := [
 .j 85 (.mov (.t 0)),
 .j 86 (.mov (.t 9)),
 .j 87 (.call 22 [(.t 85), (.t 86)])]
@[go_sem] def q14_21 : List AI := [
 .j 88 (.bin .add (.t 81) (.z 1)),
 .j 81 (.mov (.t 88))]
@[go_sem] def dump_writer_function_l2' : AC := .seq (.ops [q14_18]) (.seq (.cond (.t 82) (.skip) (.exit 4)) (.seq (.block 5 (.seq (.ops [q14_19]) (.ops [q14_20]))) (.ops [q14_21])))
def dump_writer_function_l2 : AC := dump_writer_function_l2'
theorem dump_writer_function_l2_eq : dump_writer_function_l2 = dump_writer_function_l2' := rfl
@[go_sem] def q14_22 : List AI := [
 .j 89 (.mov (.t 0)),
 .j 90 (.faddr 7 (.t 3)),
 .j 91 (.load 1 false (.t 90)),
 .j 92 (.len 0 (.t 91)),
 .j 93 (.call 22 [(.t 89), (.t 92)])]
@[go_sem] def q14_23 : List AI := [
 .j 94 (.faddr 7 (.t 3)),
 .j 95 (.load 1 false (.t 94)),
 .j 96 (.len 0 (.t 95)),
 .j 97 (.mov (.z 0))]
@[go_sem] def q14_24 : List AI := [
 .j 98 (.bin .lss (.t 97) (.t 96))]
@[go_sem] def q14_25 : List AI := [
 .j 99 (.iaddr 5 (.t 95) (.t 97)),
 .j 100 (.load 5 true (.t 99)),
 .j 11 (.box 140011 5 (.c (.agg [(.int .i64 0), (.int .i64 0), (.int .i64 0), (.str []), (.int .i64 0)]))),
 .e (.store 5 (.t 11) (.t 100))]
@[go_sem] def q14_26 : List AI := [
 .j 101 (.mov (.t 0)),
 .j 102 (.load 5 true (.t 11)),
 .j 103 (.call 24 [(.t 101), (.t 102)])]
@[go_sem] def q14_27 : List AI := [
 .j 104 (.bin .add (.t 97) (.z 1)),
 .j 97 (.mov (.t 104))]
@[go_sem] def dump_writer_function_l3' : AC := .seq (.ops [q14_24]) (.seq (.cond (.t 98) (.skip) (.exit 6)) (.seq (.block 7 (.seq (.ops [q14_25]) (.ops [q14_26]))) (.ops [q14_27])))
def dump_writer_function_l3 : AC := dump_writer_function_l3'
theorem dump_writer_function_l3_eq : dump_writer_function_l3 = dump_writer_function_l3' := rfl
@[go_sem] def q14_28 : List AI := [
 .j 105 (.mov (.t 0)),
 .j 106 (.faddr 8 (.t 3)),
 .j 107 (.load 1 false (.t 106)),
 .j 108 (.len 0 (.t 107)),
 .j 109 (.call 22 [(.t 105), (.t 108)])]
@[go_sem] def q14_29 : List AI := [
 .j 110 (.faddr 8 (.t 3)),
 .j 111 (.load 1 false (.t 110)),
 .j 112 (.len 0 (.t 111)),
 .j 113 (.mov (.z 0))]
@[go_sem] def q14_30 : List AI := [
 .j 114 (.bin .lss (.t 113) (.t 112))]
@[go_sem] def q14_31 : List AI := [
 .j 115 (.iaddr 11 (.t 111) (.t 113)),
 .j 116 (.load 11 true (.t 115)),
 .j 13 (.box 140013 11 (.c (.agg [(.str []), (.int .i64 0), (.int .i64 0), (.bool false), (.int .i64 0), .nils, .nils, .nils, .nils, .nils, .nils]))),
 .e (.store 11 (.t 13) (.t 116))]
@[go_sem] def q14_32 : List AI := [
 .j 117 (.mov (.t 0)),
 .j 118 (.load 11 true (.t 13)),
 .j 119 (.call 14 [(.t 117), (.t 118)])]
@[go_sem] def q14_33 : List AI := [
 .j 120 (.bin .add (.t 113) (.z 1)),
 .j 113 (.mov (.t 120))]
@[go_sem] def dump_writer_function_l4' : AC := .seq (.ops [q14_30]) (.seq (.cond (.t 114) (.skip) (.exit 8)) (.seq (.block 9 (.seq (.ops [q14_31]) (.ops [q14_32]))) (.ops [q14_33])))
def dump_writer_function_l4 : AC := dump_writer_function_l4'
theorem dump_writer_function_l4_eq : dump_writer_function_l4 = dump_writer_function_l4' := rfl
@[go_sem] def q14_34 : List AI := [
 .j 121 (.mov (.t 0)),
 .j 122 (.faddr 9 (.t 3)),
 .j 123 (.load 1 false (.t 122)),
 .j 124 (.len 0 (.t 123)),
 .j 125 (.call 22 [(.t 121), (.t 124)])]
@[go_sem] def q14_35 : List AI := [
 .j 126 (.faddr 9 (.t 3)),
 .j 127 (.load 1 false (.t 126)),
 .j 128 (.len 0 (.t 127)),
 .j 129 (.mov (.z 0))]
@[go_sem] def q14_36 : List AI := [
 .j 130 (.bin .lss (.t 129) (.t 128))]
@[go_sem] def q14_37 : List AI := [
 .j 131 (.iaddr 3 (.t 127) (.t 129)),
 .j 132 (.load 3 true (.t 131)),
 .j 15 (.box 140015 3 (.c (.agg [(.str []), (.bool false), (.int .i64 0)]))),
 .e (.store 3 (.t 15) (.t 132))]
@[go_sem] def q14_38 : List AI := [
 .j 133 (.mov (.t 0)),
 .j 134 (.faddr 0 (.t 15)),
 .j 135 (.load 1 false (.t 134)),
 .j 136 (.call 21 [(.t 133), (.t 135)])]
@[go_sem] def q14_39 : List AI := [
 .j 137 (.mov (.t 0)),
 .j 138 (.faddr 1 (.t 15)),
 .j 139 (.load 1 false (.t 138)),
 .j 140 (.call 23 [(.t 137), (.t 139)])]
@[go_sem] def q14_40 : List AI := [
 .j 141 (.mov (.t 0)),
 .j 142 (.faddr 2 (.t 15)),
 .j 143 (.load 1 false (.t 142)),
 .j 144 (.call 22 [(.t 141), (.t 143)])]
@[go_sem] def q14_41 : List AI := [
 .j 145 (.bin .add (.t 129) (.z 1)),
 .j 129 (.mov (.t 145))]
@[go_sem] def dump_writer_function_l5' : AC := .seq (.ops [q14_36]) (.seq (.cond (.t 130) (.skip) (.exit 10)) (.seq (.block 11 (.seq (.ops [q14_37]) (.seq (.ops [q14_38]) (.seq (.ops [q14_39]) (.ops [q14_40]))))) (.ops [q14_41])))
def dump_writer_function_l5 : AC := dump_writer_function_l5'
theorem dump_writer_function_l5_eq : dump_writer_function_l5 = dump_writer_function_l5' := rfl
@[go_sem] def q14_42 : List AI := [
 .j 146 (.mov (.t 0)),
 .j 147 (.faddr 10 (.t 3)),
 .j 148 (.load 1 false (.t 147)),
 .j 149 (.len 0 (.t 148)),
 .j 150 (.call 22 [(.t 146), (.t 149)])]
@[go_sem] def q14_43 : List AI := [
 .j 151 (.faddr 10 (.t 3)),
 .j 152 (.load 1 false (.t 151)),
 .j 153 (.len 0 (.t 152)),
 .j 154 (.mov (.z 0))]
@[go_sem] def q14_44 : List AI := [
 .j 155 (.bin .lss (.t 154) (.t 153))]
@[go_sem] def q14_45 : List AI := [
 .j 156 (.iaddr 5 (.t 152) (.t 154)),
 .j 157 (.load 5 true (.t 156)),
 .j 17 (.box 140017 5 (.c (.agg [(.str []), (.int .i64 0), (.int .i64 0), (.int .i64 0), (.int .i64 0)]))),
 .e (.store 5 (.t 17) (.t 157))]
@[go_sem] def q14_46 : List AI := [
 .j 158 (.mov (.t 0)),
 .j 159 (.faddr 0 (.t 17)),
 .j 160 (.load 1 false (.t 159)),
 .j 161 (.call 21 [(.t 158), (.t 160)])]
@[go_sem] def q14_47 : List AI := [
 .j 162 (.faddr 1 (.t 17)),
 .j 163 (.load 1 false (.t 162)),
 .j 164 (.faddr 2 (.t 17)),
 .j 165 (.load 1 false (.t 164)),
 .j 166 (.faddr 3 (.t 17)),
 .j 167 (.load 1 false (.t 166)),
 .j 168 (.faddr 4 (.t 17)),
 .j 169 (.load 1 false (.t 168)),
 .j 170 (.mkrow 140170 1 [(.t 163), (.t 165), (.t 167), (.t 169)]),
 .j 171 (.len 0 (.t 170)),
 .j 172 (.mov (.z 0))]
@[go_sem] def q14_48 : List AI := [
 .j 173 (.bin .lss (.t 172) (.t 171))]
@[go_sem] def q14_49 : List AI := [
 .j 174 (.iaddr 1 (.t 170) (.t 172)),
 .j 175 (.load 1 false (.t 174)),
 .j 19 (.mov (.t 175))]
@[go_sem] def q14_50 : List AI := [
 .j 176 (.mov (.t 0)),
 .j 177 (.mov (.t 19)),
 .j 178 (.call 22 [(.t 176), (.t 177)])]
@[go_sem] def q14_51 : List AI := [
 .j 179 (.bin .add (.t 172) (.z 1)),
 .j 172 (.mov (.t 179))]
@[go_sem] def dump_writer_function_l7' : AC := .seq (.ops [q14_48]) (.seq (.cond (.t 173) (.skip) (.exit 14)) (.seq (.block 15 (.seq (.ops [q14_49]) (.ops [q14_50]))) (.ops [q14_51])))
def dump_writer_function_l7 : AC := dump_writer_function_l7'
theorem dump_writer_function_l7_eq : dump_writer_function_l7 = dump_writer_function_l7' := rfl
@[go_sem] def q14_52 : List AI := [
 .j 180 (.bin .add (.t 154) (.z 1)),
 .j 154 (.mov (.t 180))]
@[go_sem] def dump_writer_function_l6' : AC := .seq (.ops [q14_44]) (.seq (.cond (.t 155) (.skip) (.exit 12)) (.seq (.block 13 (.seq (.ops [q14_45]) (.seq (.ops [q14_46]) (.seq (.ops [q14_47]) (.block 14 (.loop dump_writer_function_l7)))))) (.ops [q14_52])))
def dump_writer_function_l6 : AC := dump_writer_function_l6'
theorem dump_writer_function_l6_eq : dump_writer_function_l6 = dump_writer_function_l6' := rfl
@[go_sem] def dump_writer_function_c : AC := .seq (.ops [q14_0]) (.seq (.ops [q14_1]) (.seq (.ops [q14_2]) (.seq (.ops [q14_3]) (.seq (.ops [q14_4]) (.seq (.ops [q14_5]) (.seq (.ops [q14_6]) (.seq (.seq (.ops [q14_7]) (.block 0 (.loop dump_writer_function_l0))) (.seq (.ops [q14_16]) (.seq (.seq (.ops [q14_17]) (.block 4 (.loop dump_writer_function_l2))) (.seq (.ops [q14_22]) (.seq (.seq (.ops [q14_23]) (.block 6 (.loop dump_writer_function_l3))) (.seq (.ops [q14_28]) (.seq (.seq (.ops [q14_29]) (.block 8 (.loop dump_writer_function_l4))) (.seq (.ops [q14_34]) (.seq (.seq (.ops [q14_35]) (.block 10 (.loop dump_writer_function_l5))) (.seq (.ops [q14_42]) (.seq (.ops [q14_43]) (.block 12 (.loop dump_writer_function_l6)))))))))))))))))))
theorem dump_writer_function_ok : compF Tryd.prog 14 = some (181, dump_writer_function_c, []) := by kernel_rfl

@[go_sem] def q15_0 : List AI := [
 .j 1 (.box 150001 11 (.t 0)),
 .j 2 (.mov (.c .nils))]
@[go_sem] def q15_1 : List AI := [
 .j 3 (.mov (.c .nils))]
@[go_sem] def q15_2 : List AI := [
 .j 8 (.load 11 true (.t 1)),
 .j 9 (.mkrow 150009 11 [(.t 8)]),
 .j 4 (.mov (.t 9))]
@[go_sem] def q15_3 : List AI := [
 .j 10 (.mov (.t 4)),
 .j 11 (.len 0 (.t 10)),
 .j 12 (.bin .gtr (.t 11) (.z 0))]
@[go_sem] def q15_4 : List AI := [
 .j 13 (.mov (.t 4)),
 .j 14 (.len 0 (.t 13)),
 .j 15 (.bin .sub (.t 14) (.z 1)),
 .j 5 (.mov (.t 15))]
@[go_sem] def q15_5 : List AI := [
 .j 16 (.mov (.t 4)),
 .j 17 (.mov (.t 5)),
 .j 18 (.iaddr 11 (.t 16) (.t 17)),
 .j 19 (.load 11 true (.t 18)),
 .j 6 (.box 150006 11 (.c (.agg [(.str []), (.int .i64 0), (.int .i64 0), (.bool false), (.int .i64 0), .nils, .nils, .nils, .nils, .nils, .nils]))),
 .e (.store 11 (.t 6) (.t 19))]
@[go_sem] def q15_6 : List AI := [
 .j 20 (.mov (.t 4)),
 .j 21 (.mov (.t 5)),
 .j 22 (.slc 11 (.t 20) none (some (.t 21))),
 .j 4 (.mov (.t 22))]
@[go_sem] def q15_7 : List AI := [
 .j 23 (.mov (.t 3)),
 .j 24 (.load 11 true (.t 6)),
 .j 25 (.mkisl 11 [(.t 24)]),
 .j 26 (.app 150026 11 (.t 23) (.t 25)),
 .j 3 (.mov (.t 26))]
@[go_sem] def q15_8 : List AI := [
 .j 27 (.faddr 8 (.t 6)),
 .j 28 (.load 1 false (.t 27)),
 .j 29 (.len 0 (.t 28)),
 .j 30 (.bin .sub (.t 29) (.z 1)),
 .j 7 (.mov (.t 30))]
@[go_sem] def q15_9 : List AI := [
 .j 31 (.mov (.t 7)),
 .j 32 (.bin .geq (.t 31) (.z 0))]
@[go_sem] def q15_10 : List AI := [
 .j 35 (.mov (.t 4)),
 .j 36 (.faddr 8 (.t 6)),
 .j 37 (.load 1 false (.t 36)),
 .j 38 (.mov (.t 7)),
 .j 39 (.iaddr 11 (.t 37) (.t 38)),
 .j 40 (.load 11 true (.t 39)),
 .j 41 (.mkisl 11 [(.t 40)]),
 .j 42 (.app 150042 11 (.t 35) (.t 41)),
 .j 4 (.mov (.t 42))]
@[go_sem] def q15_11 : List AI := [
 .j 33 (.mov (.t 7)),
 .j 34 (.bin .sub (.t 33) (.z 1)),
 .j 7 (.mov (.t 34))]
@[go_sem] def scriptingref33_Each_l1' : AC := .seq (.seq (.ops [q15_9]) (.cond (.t 32) (.skip) (.exit 2))) (.seq (.block 3 (.ops [q15_10])) (.ops [q15_11]))
def scriptingref33_Each_l1 : AC := scriptingref33_Each_l1'
theorem scriptingref33_Each_l1_eq : scriptingref33_Each_l1 = scriptingref33_Each_l1' := rfl
@[go_sem] def scriptingref33_Each_l0' : AC := .seq (.seq (.ops [q15_3]) (.cond (.t 12) (.skip) (.exit 0))) (.block 1 (.seq (.ops [q15_4]) (.seq (.ops [q15_5]) (.seq (.ops [q15_6]) (.seq (.ops [q15_7]) (.seq (.ops [q15_8]) (.block 2 (.loop scriptingref33_Each_l1))))))))
def scriptingref33_Each_l0 : AC := scriptingref33_Each_l0'
theorem scriptingref33_Each_l0_eq : scriptingref33_Each_l0 = scriptingref33_Each_l0' := rfl
@[go_sem] def q15_12 : List AI := [
 .j 43 (.mov (.t 3)),
 .j 2 (.mov (.t 43))]
@[go_sem] def scriptingref33_Each_c : AC := .seq (.ops [q15_0]) (.seq (.ops [q15_1]) (.seq (.ops [q15_2]) (.seq (.block 0 (.loop scriptingref33_Each_l0)) (.seq (.ops [q15_12]) (.ret)))))
theorem scriptingref33_Each_ok : compF Tryd.prog 15 = some (44, scriptingref33_Each_c, [.t 2]) := by kernel_rfl

@[go_sem] def q16_0 : List AI := [
 .j 2 (.box 160002 11 (.t 0)),
 .j 3 (.box 160003 11 (.t 1)),
 .j 4 (.mov (.c (.bool false)))]
@[go_sem] def q16_1 : List AI := [
 .j 10 (.faddr 0 (.t 2)),
 .j 11 (.load 1 false (.t 10)),
 .j 12 (.faddr 0 (.t 3)),
 .j 13 (.load 1 false (.t 12)),
 .j 14 (.bin .neq (.t 11) (.t 13)),
 .j 15 (.mov (.t 14)),
 .k 16 15 false (.faddr 1 (.t 2)),
 .k 17 15 false (.load 1 false (.t 16)),
 .k 18 15 false (.faddr 1 (.t 3)),
 .k 19 15 false (.load 1 false (.t 18)),
 .k 20 15 false (.bin .neq (.t 17) (.t 19)),
 .j 21 (.pick (.t 15) (.c (.bool true)) (.t 20)),
 .j 22 (.mov (.t 21)),
 .k 23 22 false (.faddr 2 (.t 2)),
 .k 24 22 false (.load 1 false (.t 23)),
 .k 25 22 false (.faddr 2 (.t 3)),
 .k 26 22 false (.load 1 false (.t 25)),
 .k 27 22 false (.bin .neq (.t 24) (.t 26)),
 .j 28 (.pick (.t 22) (.c (.bool true)) (.t 27)),
 .j 29 (.mov (.t 28)),
 .k 30 29 false (.faddr 3 (.t 2)),
 .k 31 29 false (.load 1 false (.t 30)),
 .k 32 29 false (.faddr 3 (.t 3)),
 .k 33 29 false (.load 1 false (.t 32)),
 .k 34 29 false (.eqp 2 true (.t 31) (.t 33)),
 .j 35 (.pick (.t 29) (.c (.bool true)) (.t 34)),
 .j 36 (.mov (.t 35)),
 .k 37 36 false (.faddr 4 (.t 2)),
 .k 38 36 false (.load 1 false (.t 37)),
 .k 39 36 false (.faddr 4 (.t 3)),
 .k 40 36 false (.load 1 false (.t 39)),
 .k 41 36 false (.bin .neq (.t 38) (.t 40)),
 .j 42 (.pick (.t 36) (.c (.bool true)) (.t 41))]
@[go_sem] def q16_2 : List AI := [
 .j 4 (.mov (.c (.bool false)))]
@[go_sem] def q16_3 : List AI := [
 .j 43 (.faddr 5 (.t 2)),
 .j 44 (.load 1 false (.t 43)),
 .j 45 (.len 0 (.t 44)),
 .j 46 (.faddr 5 (.t 3)),
 .j 47 (.load 1 false (.t 46)),
 .j 48 (.len 0 (.t 47)),
 .j 49 (.bin .neq (.t 45) (.t 48)),
 .j 50 (.mov (.t 49)),
 .k 51 50 false (.faddr 6 (.t 2)),
 .k 52 50 false (.load 1 false (.t 51)),
 .k 53 50 false (.len 0 (.t 52)),
 .k 54 50 false (.faddr 6 (.t 3)),
 .k 55 50 false (.load 1 false (.t 54)),
 .k 56 50 false (.len 0 (.t 55)),
 .k 57 50 false (.bin .neq (.t 53) (.t 56)),
 .j 58 (.pick (.t 50) (.c (.bool true)) (.t 57)),
 .j 59 (.mov (.t 58)),
 .k 60 59 false (.faddr 7 (.t 2)),
 .k 61 59 false (.load 1 false (.t 60)),
 .k 62 59 false (.len 0 (.t 61)),
 .k 63 59 false (.faddr 7 (.t 3)),
 .k 64 59 false (.load 1 false (.t 63)),
 .k 65 59 false (.len 0 (.t 64)),
 .k 66 59 false (.bin .neq (.t 62) (.t 65)),
 .j 67 (.pick (.t 59) (.c (.bool true)) (.t 66)),
 .j 68 (.mov (.t 67)),
 .k 69 68 false (.faddr 8 (.t 2)),
 .k 70 68 false (.load 1 false (.t 69)),
 .k 71 68 false (.len 0 (.t 70)),
 .k 72 68 false (.faddr 8 (.t 3)),
 .k 73 68 false (.load 1 false (.t 72)),
 .k 74 68 false (.len 0 (.t 73)),
 .k 75 68 false (.bin .neq (.t 71) (.t 74)),
 .j 76 (.pick (.t 68) (.c (.bool true)) (.t 75)),
 .j 77 (.mov (.t 76)),
 .k 78 77 false (.faddr 9 (.t 2)),
 .k 79 77 false (.load 1 false (.t 78)),
 .k 80 77 false (.len 0 (.t 79)),
 .k 81 77 false (.faddr 9 (.t 3)),
 .k 82 77 false (.load 1 false (.t 81)),
 .k 83 77 false (.len 0 (.t 82)),
 .k 84 77 false (.bin .neq (.t 80) (.t 83)),
 .j 85 (.pick (.t 77) (.c (.bool true)) (.t 84)),
 .j 86 (.mov (.t 85)),
 .k 87 86 false (.faddr 10 (.t 2)),
 .k 88 86 false (.load 1 false (.t 87)),
 .k 89 86 false (.len 0 (.t 88)),
 .k 90 86 false (.faddr 10 (.t 3)),
 .k 91 86 false (.load 1 false (.t 90)),
 .k 92 86 false (.len 0 (.t 91)),
 .k 93 86 false (.bin .neq (.t 89) (.t 92)),
 .j 94 (.pick (.t 86) (.c (.bool true)) (.t 93))]
@[go_sem] def q16_4 : List AI := [
 .j 4 (.mov (.c (.bool false)))]
@[go_sem] def q16_5 : List AI := [
 .j 5 (.mov (.z 0))]
@[go_sem] def q16_6 : List AI := [
 .j 95 (.mov (.t 5)),
 .j 96 (.faddr 5 (.t 2)),
 .j 97 (.load 1 false (.t 96)),
 .j 98 (.len 0 (.t 97)),
 .j 99 (.bin .lss (.t 95) (.t 98))]
@[go_sem] def q16_7 : List AI := [
 .j 102 (.faddr 5 (.t 2)),
 .j 103 (.load 1 false (.t 102)),
 .j 104 (.mov (.t 5)),
 .j 105 (.iaddr 5 (.t 103) (.t 104)),
 .j 106 (.load 5 true (.t 105)),
 .j 107 (.faddr 5 (.t 3)),
 .j 108 (.load 1 false (.t 107)),
 .j 109 (.mov (.t 5)),
 .j 110 (.iaddr 5 (.t 108) (.t 109)),
 .j 111 (.load 5 true (.t 110)),
 .j 112 (.eqa true (.agg [(0, 1, (.leaf 1)), (1, 1, (.leaf 1)), (2, 1, (.leaf 1)), (3, 1, (.leaf 1)), (4, 1, (.leaf 1))]) (.t 106) (.t 111))]
@[go_sem] def q16_8 : List AI := [
 .j 4 (.mov (.c (.bool false)))]
@[go_sem] def q16_9 : List AI := [
 .j 100 (.mov (.t 5)),
 .j 101 (.bin .add (.t 100) (.z 1)),
 .j 5 (.mov (.t 101))]
@[go_sem] def scriptingref33_one_l0' : AC := .seq (.seq (.ops [q16_6]) (.cond (.t 99) (.skip) (.exit 0))) (.seq (.block 1 (.seq (.ops [q16_7]) (.cond (.t 112) (.seq (.ops [q16_8]) (.ret)) (.skip)))) (.ops [q16_9]))
def scriptingref33_one_l0 : AC := scriptingref33_one_l0'
theorem scriptingref33_one_l0_eq : scriptingref33_one_l0 = scriptingref33_one_l0' := rfl
@[go_sem] def q16_10 : List AI := [
 .j 6 (.mov (.z 0))]
@[go_sem] def q16_11 : List AI := [
 .j 113 (.mov (.t 6)),
 .j 114 (.faddr 6 (.t 2)),
 .j 115 (.load 1 false (.t 114)),
 .j 116 (.len 0 (.t 115)),
 .j 117 (.bin .lss (.t 113) (.t 116))]
@[go_sem] def q16_12 : List AI := [
 .j 120 (.faddr 6 (.t 2)),
 .j 121 (.load 1 false (.t 120)),
 .j 122 (.mov (.t 6)),
 .j 123 (.iaddr 1 (.t 121) (.t 122)),
 .j 124 (.load 1 false (.t 123)),
 .j 125 (.faddr 6 (.t 3)),
 .j 126 (.load 1 false (.t 125)),
 .j 127 (.mov (.t 6)),
 .j 128 (.iaddr 1 (.t 126) (.t 127)),
 .j 129 (.load 1 false (.t 128)),
 .j 130 (.bin .neq (.t 124) (.t 129))]
@[go_sem] def q16_13 : List AI := [
 .j 4 (.mov (.c (.bool false)))]
@[go_sem] def q16_14 : List AI := [
 .j 118 (.mov (.t 6)),
 .j 119 (.bin .add (.t 118) (.z 1)),
 .j 6 (.mov (.t 119))]
@[go_sem] def scriptingref33_one_l1' : AC := .seq (.seq (.ops [q16_11]) (.cond (.t 117) (.skip) (.exit 2))) (.seq (.block 3 (.seq (.ops [q16_12]) (.cond (.t 130) (.seq (.ops [q16_13]) (.ret)) (.skip)))) (.ops [q16_14]))
def scriptingref33_one_l1 : AC := scriptingref33_one_l1'
theorem scriptingref33_one_l1_eq : scriptingref33_one_l1 = scriptingref33_one_l1' := rfl
@[go_sem] def q16_15 : List AI := [
 .j 7 (.mov (.z 0))]
@[go_sem] def q16_16 : List AI := [
 .j 131 (.mov (.t 7)),
 .j 132 (.faddr 7 (.t 2)),
 .j 133 (.load 1 false (.t 132)),
 .j 134 (.len 0 (.t 133)),
 .j 135 (.bin .lss (.t 131) (.t 134))]
@[go_sem] def q16_17 : List AI := [
 .j 138 (.faddr 7 (.t 2)),
 .j 139 (.load 1 false (.t 138)),
 .j 140 (.mov (.t 7)),
 .j 141 (.iaddr 5 (.t 139) (.t 140)),
 .j 142 (.load 5 true (.t 141)),
 .j 143 (.faddr 7 (.t 3)),
 .j 144 (.load 1 false (.t 143)),
 .j 145 (.mov (.t 7)),
 .j 146 (.iaddr 5 (.t 144) (.t 145)),
 .j 147 (.load 5 true (.t 146)),
 .j 148 (.eqa true (.agg [(0, 1, (.leaf 1)), (1, 2, (.agg [(0, 1, (.leaf 1)), (1, 1, (.leaf 1))])), (3, 1, (.leaf 2)), (4, 1, (.leaf 1))]) (.t 142) (.t 147))]
@[go_sem] def q16_18 : List AI := [
 .j 4 (.mov (.c (.bool false)))]
@[go_sem] def q16_19 : List AI := [
 .j 136 (.mov (.t 7)),
 .j 137 (.bin .add (.t 136) (.z 1)),
 .j 7 (.mov (.t 137))]
@[go_sem] def scriptingref33_one_l2' : AC := .seq (.seq (.ops [q16_16]) (.cond (.t 135) (.skip) (.exit 4))) (.seq (.block 5 (.seq (.ops [q16_17]) (.cond (.t 148) (.seq (.ops [q16_18]) (.ret)) (.skip)))) (.ops [q16_19]))
def scriptingref33_one_l2 : AC := scriptingref33_one_l2'
theorem scriptingref33_one_l2_eq : scriptingref33_one_l2 = scriptingref33_one_l2' := rfl
@[go_sem] def q16_20 : List AI := [
 .j 8 (.mov (.z 0))]
@[go_sem] def q16_21 : List AI := [
 .j 149 (.mov (.t 8)),
 .j 150 (.faddr 9 (.t 2)),
 .j 151 (.load 1 false (.t 150)),
 .j 152 (.len 0 (.t 151)),
 .j 153 (.bin .lss (.t 149) (.t 152))]
@[go_sem] def q16_22 : List AI := [
 .j 156 (.faddr 9 (.t 2)),
 .j 157 (.load 1 false (.t 156)),
 .j 158 (.mov (.t 8)),
 .j 159 (.iaddr 3 (.t 157) (.t 158)),
 .j 160 (.load 3 true (.t 159)),
 .j 161 (.faddr 9 (.t 3)),
 .j 162 (.load 1 false (.t 161)),
 .j 163 (.mov (.t 8)),
 .j 164 (.iaddr 3 (.t 162) (.t 163)),
 .j 165 (.load 3 true (.t 164)),
 .j 166 (.eqa true (.agg [(0, 1, (.leaf 2)), (1, 1, (.leaf 0)), (2, 1, (.leaf 1))]) (.t 160) (.t 165))]
@[go_sem] def q16_23 : List AI := [
 .j 4 (.mov (.c (.bool false)))]
@[go_sem] def q16_24 : List AI := [
 .j 154 (.mov (.t 8)),
 .j 155 (.bin .add (.t 154) (.z 1)),
 .j 8 (.mov (.t 155))]
@[go_sem] def scriptingref33_one_l3' : AC := .seq (.seq (.ops [q16_21]) (.cond (.t 153) (.skip) (.exit 6))) (.seq (.block 7 (.seq (.ops [q16_22]) (.cond (.t 166) (.seq (.ops [q16_23]) (.ret)) (.skip)))) (.ops [q16_24]))
def scriptingref33_one_l3 : AC := scriptingref33_one_l3'
theorem scriptingref33_one_l3_eq : scriptingref33_one_l3 = scriptingref33_one_l3' := rfl
@[go_sem] def q16_25 : List AI := [
 .j 9 (.mov (.z 0))]
@[go_sem] def q16_26 : List AI := [
 .j 167 (.mov (.t 9)),
 .j 168 (.faddr 10 (.t 2)),
 .j 169 (.load 1 false (.t 168)),
 .j 170 (.len 0 (.t 169)),
 .j 171 (.bin .lss (.t 167) (.t 170))]
@[go_sem] def q16_27 : List AI := [
 .j 174 (.faddr 10 (.t 2)),
 .j 175 (.load 1 false (.t 174)),
 .j 176 (.mov (.t 9)),
 .j 177 (.iaddr 5 (.t 175) (.t 176)),
 .j 178 (.load 5 true (.t 177)),
 .j 179 (.faddr 10 (.t 3)),
 .j 180 (.load 1 false (.t 179)),
 .j 181 (.mov (.t 9)),
 .j 182 (.iaddr 5 (.t 180) (.t 181)),
 .j 183 (.load 5 true (.t 182)),
 .j 184 (.eqa true (.agg [(0, 1, (.leaf 2)), (1, 1, (.leaf 1)), (2, 1, (.leaf 1)), (3, 1, (.leaf 1)), (4, 1, (.leaf 1))]) (.t 178) (.t 183))]
@[go_sem] def q16_28 : List AI := [
 .j 4 (.mov (.c (.bool false)))]
@[go_sem] def q16_29 : List AI := [
 .j 172 (.mov (.t 9)),
 .j 173 (.bin .add (.t 172) (.z 1)),
 .j 9 (.mov (.t 173))]
@[go_sem] def scriptingref33_one_l4' : AC := .seq (.seq (.ops [q16_26]) (.cond (.t 171) (.skip) (.exit 8))) (.seq (.block 9 (.seq (.ops [q16_27]) (.cond (.t 184) (.seq (.ops [q16_28]) (.ret)) (.skip)))) (.ops [q16_29]))
def scriptingref33_one_l4 : AC := scriptingref33_one_l4'
theorem scriptingref33_one_l4_eq : scriptingref33_one_l4 = scriptingref33_one_l4' := rfl
@[go_sem] def q16_30 : List AI := [
 .j 4 (.mov (.c (.bool true)))]
@[go_sem] def scriptingref33_one_c : AC := .seq (.ops [q16_0]) (.seq (.seq (.ops [q16_1]) (.cond (.t 42) (.seq (.ops [q16_2]) (.ret)) (.skip))) (.seq (.seq (.ops [q16_3]) (.cond (.t 94) (.seq (.ops [q16_4]) (.ret)) (.skip))) (.seq (.seq (.ops [q16_5]) (.block 0 (.loop scriptingref33_one_l0))) (.seq (.seq (.ops [q16_10]) (.block 2 (.loop scriptingref33_one_l1))) (.seq (.seq (.ops [q16_15]) (.block 4 (.loop scriptingref33_one_l2))) (.seq (.seq (.ops [q16_20]) (.block 6 (.loop scriptingref33_one_l3))) (.seq (.seq (.ops [q16_25]) (.block 8 (.loop scriptingref33_one_l4))) (.seq (.ops [q16_30]) (.ret)))))))))
theorem scriptingref33_one_ok : compF Tryd.prog 16 = some (185, scriptingref33_one_c, [.t 4]) := by kernel_rfl

@[go_sem] def q17_0 : List AI := [
 .j 2 (.box 170002 11 (.c (.agg [(.str []), (.int .i64 0), (.int .i64 0), (.bool false), (.int .i64 0), .nils, .nils, .nils, .nils, .nils, .nils]))),
 .j 3 (.box 170003 1 (.z 0))]
@[go_sem] def q17_1 : List AI := [
 .j 6 (.mov (.t 0)),
 .j 7 (.build [.nils] [(0, 1, (.t 6))]),
 .j 8 (.box 170008 1 (.t 7)),
 .j 4 (.mov (.t 8))]
@[go_sem] def q17_2 : List AI := [
 .j 9 (.mov (.t 4)),
 .j 10 (.callp 26 [(.t 9), (.z 1)]),
 .e (.store 11 (.t 2) (.t 10))]
@[go_sem] def q17_3 : List AI := [
 .j 11 (.mov (.t 4)),
 .j 12 (.nilck (.t 11)),
 .j 13 (.faddr 0 (.t 12)),
 .j 14 (.load 1 false (.t 13)),
 .j 15 (.len 0 (.t 14)),
 .j 16 (.bin .gtr (.t 15) (.z 0))]
@[go_sem] def q17_4 : List AI := [
 .j 17 (.mov (.t 4)),
 .j 18 (.callp 27 [(.t 17), (.z 4)])]
@[go_sem] def q17_5 : List AI := [
 .j 19 (.load 11 true (.t 2)),
 .e (.store 11 (.t 2) (.t 19)),
 .e (.store 1 (.t 3) (.z 0))]
@[go_sem] def dump_decode_c : AC := .seq (.ops [q17_0]) (.seq (.dfr 5) (.seq (.ops [q17_1]) (.seq (.ops [q17_2]) (.seq (.seq (.ops [q17_3]) (.cond (.t 16) (.ops [q17_4]) (.skip))) (.seq (.ops [q17_5]) (.ret))))))
theorem dump_decode_ok : compF Tryd.prog 17 = some (20, dump_decode_c, [.c 2 11 true, .c 3 1 false]) := by kernel_rfl

@[go_sem] def q18_0 : List AI := [
 .j 1 (.box 180001 11 (.t 0)),
 .j 2 (.mov (.z 0))]
@[go_sem] def q18_1 : List AI := [
 .j 3 (.mov (.z 0))]
@[go_sem] def q18_2 : List AI := [
 .j 6 (.faddr 8 (.t 1)),
 .j 7 (.load 1 false (.t 6)),
 .j 8 (.len 0 (.t 7)),
 .j 9 (.mov (.z 0))]
@[go_sem] def q18_3 : List AI := [
 .j 10 (.bin .lss (.t 9) (.t 8))]
@[go_sem] def q18_4 : List AI := [
 .j 11 (.iaddr 11 (.t 7) (.t 9)),
 .j 12 (.load 11 true (.t 11)),
 .j 5 (.box 180005 11 (.c (.agg [(.str []), (.int .i64 0), (.int .i64 0), (.bool false), (.int .i64 0), .nils, .nils, .nils, .nils, .nils, .nils]))),
 .e (.store 11 (.t 5) (.t 12))]
@[go_sem] def q18_5 : List AI := [
 .j 13 (.mov (.t 3)),
 .j 14 (.load 11 true (.t 5)),
 .j 15 (.call 18 [(.t 14)]),
 .j 16 (.mm true [(.t 13), (.t 15)]),
 .j 3 (.mov (.t 16))]
@[go_sem] def q18_6 : List AI := [
 .j 17 (.bin .add (.t 9) (.z 1)),
 .j 9 (.mov (.t 17))]
@[go_sem] def proto_depth_l0' : AC := .seq (.ops [q18_3]) (.seq (.cond (.t 10) (.skip) (.exit 0)) (.seq (.block 1 (.seq (.ops [q18_4]) (.ops [q18_5]))) (.ops [q18_6])))
def proto_depth_l0 : AC := proto_depth_l0'
theorem proto_depth_l0_eq : proto_depth_l0 = proto_depth_l0' := rfl
@[go_sem] def q18_7 : List AI := [
 .j 18 (.mov (.t 3)),
 .j 19 (.bin .add (.t 18) (.z 1)),
 .j 2 (.mov (.t 19))]
@[go_sem] def proto_depth_c : AC := .seq (.ops [q18_0]) (.seq (.ops [q18_1]) (.seq (.seq (.ops [q18_2]) (.block 0 (.loop proto_depth_l0))) (.seq (.ops [q18_7]) (.ret))))
theorem proto_depth_ok : compF Tryd.prog 18 = some (20, proto_depth_c, [.t 2]) := by kernel_rfl

@[go_sem] def q19_0 : List AI := [
 .j 1 (.box 190001 11 (.t 0)),
 .j 2 (.mov (.c (.cst .nilFunc)))]
@[go_sem] def q19_1 : List AI := [
 .j 3 (.mkfn 28 [(.t 1)]),
 .j 2 (.mov (.t 3))]
@[go_sem] def proto_Each_c : AC := .seq (.ops [q19_0]) (.seq (.ops [q19_1]) (.ret))
theorem proto_Each_ok : compF Tryd.prog 19 = some (4, proto_Each_c, [.t 2]) := by kernel_rfl

@[go_sem] def q20_0 : List AI := [
 .j 1 (.box 200001 11 (.t 0)),
 .j 2 (.mov (.z 0))]
@[go_sem] def q20_1 : List AI := [
 .j 12 (.load 11 true (.t 1)),
 .j 13 (.call 31 [(.t 12)]),
 .j 3 (.mov (.t 13))]
@[go_sem] def q20_2 : List AI := [
 .j 14 (.mov (.t 3)),
 .j 15 (.bin .neq (.t 14) (.z 0))]
@[go_sem] def q20_3 : List AI := [
 .j 16 (.mov (.t 3)),
 .j 2 (.mov (.t 16))]
@[go_sem] def q20_4 : List AI := [
 .j 17 (.load 11 true (.t 1)),
 .j 18 (.call 32 [(.t 17)]),
 .j 4 (.mov (.t 18))]
@[go_sem] def q20_5 : List AI := [
 .j 19 (.mov (.t 4)),
 .j 20 (.bin .neq (.t 19) (.z 0))]
@[go_sem] def q20_6 : List AI := [
 .j 21 (.mov (.t 4)),
 .j 2 (.mov (.t 21))]
@[go_sem] def q20_7 : List AI := [
 .j 22 (.faddr 5 (.t 1)),
 .j 23 (.load 1 false (.t 22)),
 .j 24 (.len 0 (.t 23)),
 .j 25 (.mov (.z 0))]
@[go_sem] def q20_8 : List AI := [
 .j 26 (.bin .lss (.t 25) (.t 24))]
@[go_sem] def q20_9 : List AI := [
 .j 27 (.iaddr 5 (.t 23) (.t 25)),
 .j 28 (.load 5 true (.t 27)),
 .j 6 (.box 200006 5 (.c (.agg [(.int .i64 0), (.int .i64 0), (.int .i64 0), (.int .i64 0), (.int .i64 0)]))),
 .e (.store 5 (.t 6) (.t 28))]
@[go_sem] def q20_10 : List AI := [
 .j 29 (.load 11 true (.t 1)),
 .j 30 (.load 5 true (.t 6)),
 .j 31 (.call 33 [(.t 29), (.t 30)]),
 .j 7 (.mov (.t 31))]
@[go_sem] def q20_11 : List AI := [
 .j 32 (.mov (.t 7)),
 .j 33 (.bin .neq (.t 32) (.z 0))]
@[go_sem] def q20_12 : List AI := [
 .j 34 (.mov (.t 7)),
 .j 2 (.mov (.t 34))]
@[go_sem] def q20_13 : List AI := [
 .j 35 (.bin .add (.t 25) (.z 1)),
 .j 25 (.mov (.t 35))]
@[go_sem] def proto_single_l0' : AC := .seq (.ops [q20_8]) (.seq (.cond (.t 26) (.skip) (.exit 0)) (.seq (.block 1 (.seq (.ops [q20_9]) (.seq (.ops [q20_10]) (.seq (.ops [q20_11]) (.cond (.t 33) (.seq (.ops [q20_12]) (.ret)) (.skip)))))) (.ops [q20_13])))
def proto_single_l0 : AC := proto_single_l0'
theorem proto_single_l0_eq : proto_single_l0 = proto_single_l0' := rfl
@[go_sem] def q20_14 : List AI := [
 .j 36 (.faddr 8 (.t 1)),
 .j 37 (.load 1 false (.t 36)),
 .j 38 (.len 0 (.t 37)),
 .j 39 (.mov (.z 0))]
@[go_sem] def q20_15 : List AI := [
 .j 40 (.bin .lss (.t 39) (.t 38))]
@[go_sem] def q20_16 : List AI := [
 .j 41 (.iaddr 11 (.t 37) (.t 39)),
 .j 42 (.load 11 true (.t 41)),
 .j 9 (.box 200009 11 (.c (.agg [(.str []), (.int .i64 0), (.int .i64 0), (.bool false), (.int .i64 0), .nils, .nils, .nils, .nils, .nils, .nils]))),
 .e (.store 11 (.t 9) (.t 42))]
@[go_sem] def q20_17 : List AI := [
 .j 43 (.faddr 9 (.t 9)),
 .j 44 (.load 1 false (.t 43)),
 .j 45 (.len 0 (.t 44)),
 .j 46 (.mov (.z 0))]
@[go_sem] def q20_18 : List AI := [
 .j 47 (.bin .lss (.t 46) (.t 45))]
@[go_sem] def q20_19 : List AI := [
 .j 48 (.iaddr 3 (.t 44) (.t 46)),
 .j 49 (.load 3 true (.t 48)),
 .j 11 (.box 200011 3 (.c (.agg [(.str []), (.bool false), (.int .i64 0)]))),
 .e (.store 3 (.t 11) (.t 49))]
@[go_sem] def q20_20 : List AI := [
 .j 50 (.faddr 1 (.t 11)),
 .j 51 (.load 1 false (.t 50)),
 .j 52 (.mov (.t 51)),
 .k 53 52 true (.faddr 2 (.t 11)),
 .k 54 52 true (.load 1 false (.t 53)),
 .k 55 52 true (.faddr 4 (.t 1)),
 .k 56 52 true (.load 1 false (.t 55)),
 .k 57 52 true (.bin .geq (.t 54) (.t 56)),
 .j 58 (.pick (.t 52) (.t 57) (.c (.bool false))),
 .j 59 (.mov (.t 58)),
 .k 60 59 false (.faddr 1 (.t 11)),
 .k 61 59 false (.load 1 false (.t 60)),
 .k 62 59 false (.un .not (.t 61)),
 .k 63 59 false (.mov (.t 62)),
 .k 64 63 true (.faddr 2 (.t 11)),
 .k 65 63 true (.load 1 false (.t 64)),
 .k 66 63 true (.faddr 9 (.t 1)),
 .k 67 63 true (.load 1 false (.t 66)),
 .k 68 63 true (.len 0 (.t 67)),
 .k 69 63 true (.bin .geq (.t 65) (.t 68)),
 .k 70 59 false (.pick (.t 63) (.t 69) (.c (.bool false))),
 .j 71 (.pick (.t 59) (.c (.bool true)) (.t 70))]
@[go_sem] def q20_21 : List AI := [
 .j 2 (.mov (.z 4))]
@[go_sem] def q20_22 : List AI := [
 .j 72 (.bin .add (.t 46) (.z 1)),
 .j 46 (.mov (.t 72))]
@[go_sem] def proto_single_l2' : AC := .seq (.ops [q20_18]) (.seq (.cond (.t 47) (.skip) (.exit 4)) (.seq (.block 5 (.seq (.ops [q20_19]) (.seq (.ops [q20_20]) (.cond (.t 71) (.seq (.ops [q20_21]) (.ret)) (.skip))))) (.ops [q20_22])))
def proto_single_l2 : AC := proto_single_l2'
theorem proto_single_l2_eq : proto_single_l2 = proto_single_l2' := rfl
@[go_sem] def q20_23 : List AI := [
 .j 73 (.bin .add (.t 39) (.z 1)),
 .j 39 (.mov (.t 73))]
@[go_sem] def proto_single_l1' : AC := .seq (.ops [q20_15]) (.seq (.cond (.t 40) (.skip) (.exit 2)) (.seq (.block 3 (.seq (.ops [q20_16]) (.seq (.ops [q20_17]) (.block 4 (.loop proto_single_l2))))) (.ops [q20_23])))
def proto_single_l1 : AC := proto_single_l1'
theorem proto_single_l1_eq : proto_single_l1 = proto_single_l1' := rfl
@[go_sem] def q20_24 : List AI := [
 .j 2 (.mov (.z 0))]
@[go_sem] def proto_single_c : AC := .seq (.ops [q20_0]) (.seq (.seq (.ops [q20_1]) (.seq (.ops [q20_2]) (.cond (.t 15) (.seq (.ops [q20_3]) (.ret)) (.skip)))) (.seq (.seq (.ops [q20_4]) (.seq (.ops [q20_5]) (.cond (.t 20) (.seq (.ops [q20_6]) (.ret)) (.skip)))) (.seq (.seq (.ops [q20_7]) (.block 0 (.loop proto_single_l0))) (.seq (.seq (.ops [q20_14]) (.block 2 (.loop proto_single_l1))) (.seq (.ops [q20_24]) (.ret))))))
theorem proto_single_ok : compF Tryd.prog 20 = some (74, proto_single_c, [.t 2]) := by kernel_rfl

@[go_sem] def q21_0 : List AI := [
 .j 4 (.mov (.t 0)),
 .j 5 (.mov (.t 1)),
 .j 6 (.len 1 (.t 5)),
 .j 7 (.call 22 [(.t 4), (.t 6)])]
@[go_sem] def q21_1 : List AI := [
 .j 8 (.mov (.t 0)),
 .j 9 (.mov (.t 0)),
 .j 10 (.nilck (.t 9)),
 .j 11 (.faddr 0 (.t 10)),
 .j 12 (.load 1 false (.t 11)),
 .j 13 (.mov (.t 1)),
 .j 14 (.apb 140737488355328 210014 1 (.t 12) (.t 13)),
 .j 15 (.nilck (.t 8)),
 .j 16 (.faddr 0 (.t 15)),
 .e (.store 1 (.t 16) (.t 14))]
@[go_sem] def dump_writer_str_c : AC := .seq (.ops [q21_0]) (.ops [q21_1])
theorem dump_writer_str_ok : compF Tryd.prog 21 = some (17, dump_writer_str_c, []) := by kernel_rfl

@[go_sem] def q22_0 : List AI := [
 .j 5 (.mov (.t 1)),
 .j 6 (.conv .u64 (.t 5)),
 .j 4 (.mov (.t 6))]
@[go_sem] def q22_1 : List AI := [
 .j 7 (.mov (.z 0))]
@[go_sem] def q22_2 : List AI := [
 .j 8 (.bin .lss (.t 7) (.z 8))]
@[go_sem] def q22_3 : List AI := [
 .j 9 (.mov (.t 0)),
 .j 10 (.mov (.t 0)),
 .j 11 (.nilck (.t 10)),
 .j 12 (.faddr 0 (.t 11)),
 .j 13 (.load 1 false (.t 12)),
 .j 14 (.mov (.t 4)),
 .j 15 (.conv .u8 (.t 14)),
 .j 16 (.mkisl 1 [(.t 15)]),
 .j 17 (.apb 140737488355328 220017 1 (.t 13) (.t 16)),
 .j 18 (.nilck (.t 9)),
 .j 19 (.faddr 0 (.t 18)),
 .e (.store 1 (.t 19) (.t 17))]
@[go_sem] def q22_4 : List AI := [
 .j 20 (.mov (.t 4)),
 .j 21 (.sh false (.t 20) (.c (.int .u64 8))),
 .j 4 (.mov (.t 21))]
@[go_sem] def q22_5 : List AI := [
 .j 22 (.bin .add (.t 7) (.z 1)),
 .j 7 (.mov (.t 22))]
@[go_sem] def dump_writer_num_l0' : AC := .seq (.ops [q22_2]) (.seq (.cond (.t 8) (.skip) (.exit 0)) (.seq (.block 1 (.seq (.ops [q22_3]) (.ops [q22_4]))) (.ops [q22_5])))
def dump_writer_num_l0 : AC := dump_writer_num_l0'
theorem dump_writer_num_l0_eq : dump_writer_num_l0 = dump_writer_num_l0' := rfl
@[go_sem] def dump_writer_num_c : AC := .seq (.ops [q22_0]) (.seq (.ops [q22_1]) (.block 0 (.loop dump_writer_num_l0)))
theorem dump_writer_num_ok : compF Tryd.prog 22 = some (23, dump_writer_num_c, []) := by kernel_rfl

@[go_sem] def q23_0 : List AI := [
 .j 4 (.mov (.t 1))]
@[go_sem] def q23_1 : List AI := [
 .j 5 (.mov (.t 0)),
 .j 6 (.mov (.t 0)),
 .j 7 (.nilck (.t 6)),
 .j 8 (.faddr 0 (.t 7)),
 .j 9 (.load 1 false (.t 8)),
 .j 10 (.mkisl 1 [(.c (.int .u8 1))]),
 .j 11 (.apb 140737488355328 230011 1 (.t 9) (.t 10)),
 .j 12 (.nilck (.t 5)),
 .j 13 (.faddr 0 (.t 12)),
 .e (.store 1 (.t 13) (.t 11))]
@[go_sem] def q23_2 : List AI := [
 .j 14 (.mov (.t 0)),
 .j 15 (.mov (.t 0)),
 .j 16 (.nilck (.t 15)),
 .j 17 (.faddr 0 (.t 16)),
 .j 18 (.load 1 false (.t 17)),
 .j 19 (.mkisl 1 [(.c (.int .u8 0))]),
 .j 20 (.apb 140737488355328 230020 1 (.t 18) (.t 19)),
 .j 21 (.nilck (.t 14)),
 .j 22 (.faddr 0 (.t 21)),
 .e (.store 1 (.t 22) (.t 20))]
@[go_sem] def dump_writer_truth_c : AC := .seq (.ops [q23_0]) (.cond (.t 4) (.ops [q23_1]) (.ops [q23_2]))
theorem dump_writer_truth_ok : compF Tryd.prog 23 = some (23, dump_writer_truth_c, []) := by kernel_rfl

@[go_sem] def q24_0 : List AI := [
 .j 3 (.box 240003 5 (.t 1))]
@[go_sem] def q24_1 : List AI := [
 .j 4 (.mov (.t 0)),
 .j 5 (.mov (.t 0)),
 .j 6 (.nilck (.t 5)),
 .j 7 (.faddr 0 (.t 6)),
 .j 8 (.load 1 false (.t 7)),
 .j 9 (.faddr 0 (.t 3)),
 .j 10 (.load 1 false (.t 9)),
 .j 11 (.conv .u8 (.t 10)),
 .j 12 (.mkisl 1 [(.t 11)]),
 .j 13 (.apb 140737488355328 240013 1 (.t 8) (.t 12)),
 .j 14 (.nilck (.t 4)),
 .j 15 (.faddr 0 (.t 14)),
 .e (.store 1 (.t 15) (.t 13))]
@[go_sem] def q24_2 : List AI := [
 .j 16 (.faddr 0 (.t 3)),
 .j 17 (.load 1 false (.t 16))]
@[go_sem] def q24_3 : List AI := [
 .j 19 (.bin .eql (.t 17) (.z 1)),
 .j 18 (.mov (.t 19))]
@[go_sem] def q24_4 : List AI := [
 .j 20 (.mov (.t 0)),
 .j 21 (.faddr 4 (.t 3)),
 .j 22 (.load 1 false (.t 21)),
 .j 23 (.bin .eql (.t 22) (.z 1)),
 .j 24 (.call 23 [(.t 20), (.t 23)])]
@[go_sem] def q24_5 : List AI := [
 .j 26 (.bin .eql (.t 17) (.z 2)),
 .j 25 (.mov (.t 26))]
@[go_sem] def q24_6 : List AI := [
 .j 27 (.mov (.t 0)),
 .j 28 (.faddr 1 (.t 3)),
 .j 29 (.faddr 0 (.t 28)),
 .j 30 (.load 1 false (.t 29)),
 .j 31 (.call 22 [(.t 27), (.t 30)])]
@[go_sem] def q24_7 : List AI := [
 .j 32 (.mov (.t 0)),
 .j 33 (.faddr 1 (.t 3)),
 .j 34 (.faddr 1 (.t 33)),
 .j 35 (.load 1 false (.t 34)),
 .j 36 (.call 22 [(.t 32), (.t 35)])]
@[go_sem] def q24_8 : List AI := [
 .j 38 (.bin .eql (.t 17) (.z 3)),
 .j 37 (.mov (.t 38))]
@[go_sem] def q24_9 : List AI := [
 .j 39 (.mov (.t 0)),
 .j 40 (.faddr 3 (.t 3)),
 .j 41 (.load 1 false (.t 40)),
 .j 42 (.call 21 [(.t 39), (.t 41)])]
@[go_sem] def dump_writer_value_c : AC := .seq (.ops [q24_0]) (.seq (.ops [q24_1]) (.seq (.ops [q24_2]) (.block 0 (.seq (.ops [q24_3]) (.cond (.t 18) (.ops [q24_4]) (.seq (.ops [q24_5]) (.cond (.t 25) (.seq (.ops [q24_6]) (.ops [q24_7])) (.seq (.ops [q24_8]) (.cond (.t 37) (.ops [q24_9]) (.skip))))))))))
theorem dump_writer_value_ok : compF Tryd.prog 24 = some (43, dump_writer_value_c, []) := by kernel_rfl

@[go_sem] def q25_0 : List AI := [
 .j 5 (.bad),
 .j 2 (.mov (.t 5))]
@[go_sem] def q25_1 : List AI := [
 .j 6 (.mov (.t 2)),
 .j 7 (.isnil true (.t 6))]
@[go_sem] def q25_2 : List AI := [
 .j 9 (.mov (.t 2)),
 .j 10 (.tas 69 (.t 9)),
 .j 8 (.mov (.t 10)),
 .j 11 (.ext 0 (.t 8)),
 .j 12 (.ext 1 (.t 8)),
 .j 3 (.box 250003 1 (.c (.agg [(.int .i64 0)]))),
 .e (.store 1 (.t 3) (.t 11)),
 .j 4 (.mov (.t 12))]
@[go_sem] def q25_3 : List AI := [
 .j 13 (.mov (.t 4)),
 .j 14 (.un .not (.t 13))]
@[go_sem] def q25_4 : List AI := [
 .j 15 (.mov (.t 2)),
 .e (.pan (.t 15))]
@[go_sem] def q25_5_0 : List AI := [
 .j 16 (.build [(.str []), (.int .i64 0), (.int .i64 0), (.bool false), (.int .i64 0), .nils, .nils, .nils, .nils, .nils, .nils] []),
 .j 17 (.faddr 0 (.t 3)),
 .j 18 (.load 1 false (.t 17)),
 .e (.store 11 (.t 0) (.t 16)),
 .e (.store 1 (.t 1) (.t 18))]
@[go_sem] def q25_5_1 : List AI := [
 .j 16 (.build [(.str []), (.int .i64 0), (.int .i64 0), (.bool false), (.int .i64 0), .nils, .nils, .nils, .nils, .nils, .nils] []),
 .j 17 (.faddr 0 (.t 3)),
 .e (.store 11 (.t 0) (.t 16)),
 .j 18 (.load 1 false (.t 17)),
 .e (.store 1 (.t 1) (.t 18))]
@[go_sem] def dump_decode_1_c : AC := .seq (.ops [q25_0]) (.seq (.ops [q25_1]) (.cond (.t 7) (.seq (.ops [q25_2]) (.seq (.seq (.ops [q25_3]) (.cond (.t 14) (.ops [q25_4]) (.skip))) (.ops [q25_5_0, q25_5_1]))) (.skip)))
theorem dump_decode_1_ok : compF Tryd.prog 25 = some (19, dump_decode_1_c, []) := by kernel_rfl

@[go_sem] def q26_0 : List AI := [
 .j 4 (.box 260004 11 (.c (.agg [(.str []), (.int .i64 0), (.int .i64 0), (.bool false), (.int .i64 0), .nils, .nils, .nils, .nils, .nils, .nils])))]
@[go_sem] def q26_1 : List AI := [
 .j 6 (.mov (.t 1)),
 .j 7 (.bin .gtr (.t 6) (.z 64))]
@[go_sem] def q26_2 : List AI := [
 .j 8 (.mov (.t 0)),
 .j 9 (.callp 27 [(.t 8), (.z 3)])]
@[go_sem] def q26_3 : List AI := [
 .j 10 (.mov (.t 0)),
 .j 11 (.callp 34 [(.t 10)]),
 .j 12 (.mov (.t 0)),
 .j 13 (.callp 35 [(.t 12)]),
 .j 14 (.mov (.t 0)),
 .j 15 (.callp 35 [(.t 14)]),
 .j 16 (.mov (.t 0)),
 .j 17 (.callp 36 [(.t 16)]),
 .j 18 (.mov (.t 0)),
 .j 19 (.callp 35 [(.t 18)]),
 .j 20 (.build [(.str []), (.int .i64 0), (.int .i64 0), (.bool false), (.int .i64 0), .nils, .nils, .nils, .nils, .nils, .nils] [(0, 1, (.t 11)), (1, 1, (.t 13)), (2, 1, (.t 15)), (3, 1, (.t 17)), (4, 1, (.t 19))]),
 .j 5 (.box 260005 11 (.c (.agg [(.str []), (.int .i64 0), (.int .i64 0), (.bool false), (.int .i64 0), .nils, .nils, .nils, .nils, .nils, .nils]))),
 .e (.store 11 (.t 5) (.t 20))]
@[go_sem] def q26_4 : List AI := [
 .j 21 (.mov (.t 0)),
 .j 22 (.callp 37 [(.t 21)]),
 .j 23 (.mov (.z 0))]
@[go_sem] def q26_5 : List AI := [
 .j 24 (.bin .lss (.t 23) (.t 22))]
@[go_sem] def q26_6_0 : List AI := [
 .j 25 (.faddr 5 (.t 5)),
 .j 26 (.load 1 false (.t 25)),
 .j 27 (.mov (.t 0)),
 .j 29 (.mov (.t 0)),
 .j 31 (.mov (.t 0)),
 .j 33 (.mov (.t 0)),
 .j 35 (.mov (.t 0)),
 .j 28 (.callp 35 [(.t 27)]),
 .j 30 (.callp 35 [(.t 29)]),
 .j 32 (.callp 35 [(.t 31)]),
 .j 34 (.callp 35 [(.t 33)]),
 .j 36 (.callp 35 [(.t 35)]),
 .j 37 (.build [(.int .i64 0), (.int .i64 0), (.int .i64 0), (.int .i64 0), (.int .i64 0)] [(0, 1, (.t 28)), (1, 1, (.t 30)), (2, 1, (.t 32)), (3, 1, (.t 34)), (4, 1, (.t 36))]),
 .j 38 (.mkisl 5 [(.t 37)]),
 .j 39 (.app 260039 5 (.t 26) (.t 38)),
 .j 40 (.faddr 5 (.t 5)),
 .e (.store 1 (.t 40) (.t 39))]
@[go_sem] def q26_6_1 : List AI := [
 .j 25 (.faddr 5 (.t 5)),
 .j 27 (.mov (.t 0)),
 .j 29 (.mov (.t 0)),
 .j 31 (.mov (.t 0)),
 .j 33 (.mov (.t 0)),
 .j 35 (.mov (.t 0)),
 .j 28 (.callp 35 [(.t 27)]),
 .j 26 (.load 1 false (.t 25)),
 .j 30 (.callp 35 [(.t 29)]),
 .j 32 (.callp 35 [(.t 31)]),
 .j 34 (.callp 35 [(.t 33)]),
 .j 36 (.callp 35 [(.t 35)]),
 .j 37 (.build [(.int .i64 0), (.int .i64 0), (.int .i64 0), (.int .i64 0), (.int .i64 0)] [(0, 1, (.t 28)), (1, 1, (.t 30)), (2, 1, (.t 32)), (3, 1, (.t 34)), (4, 1, (.t 36))]),
 .j 38 (.mkisl 5 [(.t 37)]),
 .j 39 (.app 260039 5 (.t 26) (.t 38)),
 .j 40 (.faddr 5 (.t 5)),
 .e (.store 1 (.t 40) (.t 39))]
@[go_sem] def q26_6_2 : List AI := [
 .j 25 (.faddr 5 (.t 5)),
 .j 27 (.mov (.t 0)),
 .j 29 (.mov (.t 0)),
 .j 31 (.mov (.t 0)),
 .j 33 (.mov (.t 0)),
 .j 35 (.mov (.t 0)),
 .j 28 (.callp 35 [(.t 27)]),
 .j 30 (.callp 35 [(.t 29)]),
 .j 26 (.load 1 false (.t 25)),
 .j 32 (.callp 35 [(.t 31)]),
 .j 34 (.callp 35 [(.t 33)]),
 .j 36 (.callp 35 [(.t 35)]),
 .j 37 (.build [(.int .i64 0), (.int .i64 0), (.int .i64 0), (.int .i64 0), (.int .i64 0)] [(0, 1, (.t 28)), (1, 1, (.t 30)), (2, 1, (.t 32)), (3, 1, (.t 34)), (4, 1, (.t 36))]),
 .j 38 (.mkisl 5 [(.t 37)]),
 .j 39 (.app 260039 5 (.t 26) (.t 38)),
 .j 40 (.faddr 5 (.t 5)),
 .e (.store 1 (.t 40) (.t 39))]
@[go_sem] def q26_6_3 : List AI := [
 .j 25 (.faddr 5 (.t 5)),
 .j 27 (.mov (.t 0)),
 .j 29 (.mov (.t 0)),
 .j 31 (.mov (.t 0)),
 .j 33 (.mov (.t 0)),
 .j 35 (.mov (.t 0)),
 .j 28 (.callp 35 [(.t 27)]),
 .j 30 (.callp 35 [(.t 29)]),
 .j 32 (.callp 35 [(.t 31)]),
 .j 26 (.load 1 false (.t 25)),
 .j 34 (.callp 35 [(.t 33)]),
 .j 36 (.callp 35 [(.t 35)]),
 .j 37 (.build [(.int .i64 0), (.int .i64 0), (.int .i64 0), (.int .i64 0), (.int .i64 0)] [(0, 1, (.t 28)), (1, 1, (.t 30)), (2, 1, (.t 32)), (3, 1, (.t 34)), (4, 1, (.t 36))]),
 .j 38 (.mkisl 5 [(.t 37)]),
 .j 39 (.app 260039 5 (.t 26) (.t 38)),
 .j 40 (.faddr 5 (.t 5)),
 .e (.store 1 (.t 40) (.t 39))]
@[go_sem] def q26_6_4 : List AI := [
 .j 25 (.faddr 5 (.t 5)),
 .j 27 (.mov (.t 0)),
 .j 29 (.mov (.t 0)),
 .j 31 (.mov (.t 0)),
 .j 33 (.mov (.t 0)),
 .j 35 (.mov (.t 0)),
 .j 28 (.callp 35 [(.t 27)]),
 .j 30 (.callp 35 [(.t 29)]),
 .j 32 (.callp 35 [(.t 31)]),
 .j 34 (.callp 35 [(.t 33)]),
 .j 26 (.load 1 false (.t 25)),
 .j 36 (.callp 35 [(.t 35)]),
 .j 37 (.build [(.int .i64 0), (.int .i64 0), (.int .i64 0), (.int .i64 0), (.int .i64 0)] [(0, 1, (.t 28)), (1, 1, (.t 30)), (2, 1, (.t 32)), (3, 1, (.t 34)), (4, 1, (.t 36))]),
 .j 38 (.mkisl 5 [(.t 37)]),
 .j 39 (.app 260039 5 (.t 26) (.t 38)),
 .j 40 (.faddr 5 (.t 5)),
 .e (.store 1 (.t 40) (.t 39))]
@[go_sem] def q26_6_5 : List AI := [
 .j 25 (.faddr 5 (.t 5)),
 .j 27 (.mov (.t 0)),
 .j 29 (.mov (.t 0)),
 .j 31 (.mov (.t 0)),
 .j 33 (.mov (.t 0)),
 .j 35 (.mov (.t 0)),
 .j 28 (.callp 35 [(.t 27)]),
 .j 30 (.callp 35 [(.t 29)]),
 .j 32 (.callp 35 [(.t 31)]),
 .j 34 (.callp 35 [(.t 33)]),
 .j 36 (.callp 35 [(.t 35)]),
 .j 26 (.load 1 false (.t 25)),
 .j 37 (.build [(.int .i64 0), (.int .i64 0), (.int .i64 0), (.int .i64 0), (.int .i64 0)] [(0, 1, (.t 28)), (1, 1, (.t 30)), (2, 1, (.t 32)), (3, 1, (.t 34)), (4, 1, (.t 36))]),
 .j 38 (.mkisl 5 [(.t 37)]),
 .j 39 (.app 260039 5 (.t 26) (.t 38)),
 .j 40 (.faddr 5 (.t 5)),
 .e (.store 1 (.t 40) (.t 39))]
@[go_sem] def q26_7 : List AI := [
 .j 41 (.bin .add (.t 23) (.z 1)),
 .j 23 (.mov (.t 41))]
@[go_sem] def dump_reader_function_l0' : AC := .seq (.ops [q26_5]) (.seq (.cond (.t 24) (.skip) (.exit 0)) (.seq (.block 1 (.ops [q26_6_0, q26_6_1, q26_6_2, q26_6_3, q26_6_4, q26_6_5])) (.ops [q26_7])))
def dump_reader_function_l0 : AC := dump_reader_function_l0'
theorem dump_reader_function_l0_eq : dump_reader_function_l0 = dump_reader_function_l0' := rfl
@[go_sem] def q26_8 : List AI := [
 .j 42 (.mov (.t 0)),
 .j 43 (.callp 37 [(.t 42)]),
 .j 44 (.mov (.z 0))]
@[go_sem] def q26_9 : List AI := [
 .j 45 (.bin .lss (.t 44) (.t 43))]
@[go_sem] def q26_10_0 : List AI := [
 .j 46 (.faddr 6 (.t 5)),
 .j 47 (.load 1 false (.t 46)),
 .j 48 (.mov (.t 0)),
 .j 49 (.callp 35 [(.t 48)]),
 .j 50 (.mkisl 1 [(.t 49)]),
 .j 51 (.app 260051 1 (.t 47) (.t 50)),
 .j 52 (.faddr 6 (.t 5)),
 .e (.store 1 (.t 52) (.t 51))]
@[go_sem] def q26_10_1 : List AI := [
 .j 46 (.faddr 6 (.t 5)),
 .j 48 (.mov (.t 0)),
 .j 49 (.callp 35 [(.t 48)]),
 .j 47 (.load 1 false (.t 46)),
 .j 50 (.mkisl 1 [(.t 49)]),
 .j 51 (.app 260051 1 (.t 47) (.t 50)),
 .j 52 (.faddr 6 (.t 5)),
 .e (.store 1 (.t 52) (.t 51))]
@[go_sem] def q26_11 : List AI := [
 .j 53 (.bin .add (.t 44) (.z 1)),
 .j 44 (.mov (.t 53))]
@[go_sem] def dump_reader_function_l1' : AC := .seq (.ops [q26_9]) (.seq (.cond (.t 45) (.skip) (.exit 2)) (.seq (.block 3 (.ops [q26_10_0, q26_10_1])) (.ops [q26_11])))
def dump_reader_function_l1 : AC := dump_reader_function_l1'
theorem dump_reader_function_l1_eq : dump_reader_function_l1 = dump_reader_function_l1' := rfl
@[go_sem] def q26_12 : List AI := [
 .j 54 (.mov (.t 0)),
 .j 55 (.callp 37 [(.t 54)]),
 .j 56 (.mov (.z 0))]
@[go_sem] def q26_13 : List AI := [
 .j 57 (.bin .lss (.t 56) (.t 55))]
@[go_sem] def q26_14_0 : List AI := [
 .j 58 (.faddr 7 (.t 5)),
 .j 59 (.load 1 false (.t 58)),
 .j 60 (.mov (.t 0)),
 .j 61 (.callp 38 [(.t 60)]),
 .j 62 (.mkisl 5 [(.t 61)]),
 .j 63 (.app 260063 5 (.t 59) (.t 62)),
 .j 64 (.faddr 7 (.t 5)),
 .e (.store 1 (.t 64) (.t 63))]
@[go_sem] def q26_14_1 : List AI := [
 .j 58 (.faddr 7 (.t 5)),
 .j 60 (.mov (.t 0)),
 .j 61 (.callp 38 [(.t 60)]),
 .j 59 (.load 1 false (.t 58)),
 .j 62 (.mkisl 5 [(.t 61)]),
 .j 63 (.app 260063 5 (.t 59) (.t 62)),
 .j 64 (.faddr 7 (.t 5)),
 .e (.store 1 (.t 64) (.t 63))]
@[go_sem] def q26_15 : List AI := [
 .j 65 (.bin .add (.t 56) (.z 1)),
 .j 56 (.mov (.t 65))]
@[go_sem] def dump_reader_function_l2' : AC := .seq (.ops [q26_13]) (.seq (.cond (.t 57) (.skip) (.exit 4)) (.seq (.block 5 (.ops [q26_14_0, q26_14_1])) (.ops [q26_15])))
def dump_reader_function_l2 : AC := dump_reader_function_l2'
theorem dump_reader_function_l2_eq : dump_reader_function_l2 = dump_reader_function_l2' := rfl
@[go_sem] def q26_16 : List AI := [
 .j 66 (.mov (.t 0)),
 .j 67 (.callp 37 [(.t 66)]),
 .j 68 (.mov (.z 0))]
@[go_sem] def q26_17 : List AI := [
 .j 69 (.bin .lss (.t 68) (.t 67))]
@[go_sem] def q26_18_0 : List AI := [
 .j 70 (.faddr 8 (.t 5)),
 .j 71 (.load 1 false (.t 70)),
 .j 72 (.mov (.t 0)),
 .j 73 (.mov (.t 1)),
 .j 74 (.bin .add (.t 73) (.z 1)),
 .j 75 (.callp 26 [(.t 72), (.t 74)]),
 .j 76 (.mkisl 11 [(.t 75)]),
 .j 77 (.app 260077 11 (.t 71) (.t 76)),
 .j 78 (.faddr 8 (.t 5)),
 .e (.store 1 (.t 78) (.t 77))]
@[go_sem] def q26_18_1 : List AI := [
 .j 70 (.faddr 8 (.t 5)),
 .j 72 (.mov (.t 0)),
 .j 73 (.mov (.t 1)),
 .j 74 (.bin .add (.t 73) (.z 1)),
 .j 75 (.callp 26 [(.t 72), (.t 74)]),
 .j 71 (.load 1 false (.t 70)),
 .j 76 (.mkisl 11 [(.t 75)]),
 .j 77 (.app 260077 11 (.t 71) (.t 76)),
 .j 78 (.faddr 8 (.t 5)),
 .e (.store 1 (.t 78) (.t 77))]
@[go_sem] def q26_19 : List AI := [
 .j 79 (.bin .add (.t 68) (.z 1)),
 .j 68 (.mov (.t 79))]
@[go_sem] def dump_reader_function_l3' : AC := .seq (.ops [q26_17]) (.seq (.cond (.t 69) (.skip) (.exit 6)) (.seq (.block 7 (.ops [q26_18_0, q26_18_1])) (.ops [q26_19])))
def dump_reader_function_l3 : AC := dump_reader_function_l3'
theorem dump_reader_function_l3_eq : dump_reader_function_l3 = dump_reader_function_l3' := rfl
@[go_sem] def q26_20 : List AI := [
 .j 80 (.mov (.t 0)),
 .j 81 (.callp 37 [(.t 80)]),
 .j 82 (.mov (.z 0))]
@[go_sem] def q26_21 : List AI := [
 .j 83 (.bin .lss (.t 82) (.t 81))]
@[go_sem] def q26_22_0 : List AI := [
 .j 84 (.faddr 9 (.t 5)),
 .j 85 (.load 1 false (.t 84)),
 .j 86 (.mov (.t 0)),
 .j 88 (.mov (.t 0)),
 .j 90 (.mov (.t 0)),
 .j 87 (.callp 34 [(.t 86)]),
 .j 89 (.callp 36 [(.t 88)]),
 .j 91 (.callp 35 [(.t 90)]),
 .j 92 (.build [(.str []), (.bool false), (.int .i64 0)] [(0, 1, (.t 87)), (1, 1, (.t 89)), (2, 1, (.t 91))]),
 .j 93 (.mkisl 3 [(.t 92)]),
 .j 94 (.app 260094 3 (.t 85) (.t 93)),
 .j 95 (.faddr 9 (.t 5)),
 .e (.store 1 (.t 95) (.t 94))]
@[go_sem] def q26_22_1 : List AI := [
 .j 84 (.faddr 9 (.t 5)),
 .j 86 (.mov (.t 0)),
 .j 88 (.mov (.t 0)),
 .j 90 (.mov (.t 0)),
 .j 87 (.callp 34 [(.t 86)]),
 .j 85 (.load 1 false (.t 84)),
 .j 89 (.callp 36 [(.t 88)]),
 .j 91 (.callp 35 [(.t 90)]),
 .j 92 (.build [(.str []), (.bool false), (.int .i64 0)] [(0, 1, (.t 87)), (1, 1, (.t 89)), (2, 1, (.t 91))]),
 .j 93 (.mkisl 3 [(.t 92)]),
 .j 94 (.app 260094 3 (.t 85) (.t 93)),
 .j 95 (.faddr 9 (.t 5)),
 .e (.store 1 (.t 95) (.t 94))]
@[go_sem] def q26_22_2 : List AI := [
 .j 84 (.faddr 9 (.t 5)),
 .j 86 (.mov (.t 0)),
 .j 88 (.mov (.t 0)),
 .j 90 (.mov (.t 0)),
 .j 87 (.callp 34 [(.t 86)]),
 .j 89 (.callp 36 [(.t 88)]),
 .j 85 (.load 1 false (.t 84)),
 .j 91 (.callp 35 [(.t 90)]),
 .j 92 (.build [(.str []), (.bool false), (.int .i64 0)] [(0, 1, (.t 87)), (1, 1, (.t 89)), (2, 1, (.t 91))]),
 .j 93 (.mkisl 3 [(.t 92)]),
 .j 94 (.app 260094 3 (.t 85) (.t 93)),
 .j 95 (.faddr 9 (.t 5)),
 .e (.store 1 (.t 95) (.t 94))]
@[go_sem] def q26_22_3 : List AI := [
 .j 84 (.faddr 9 (.t 5)),
 .j 86 (.mov (.t 0)),
 .j 88 (.mov (.t 0)),
 .j 90 (.mov (.t 0)),
 .j 87 (.callp 34 [(.t 86)]),
 .j 89 (.callp 36 [(.t 88)]),
 .j 91 (.callp 35 [(.t 90)]),
 .j 85 (.load 1 false (.t 84)),
 .j 92 (.build [(.str []), (.bool false), (.int .i64 0)] [(0, 1, (.t 87)), (1, 1, (.t 89)), (2, 1, (.t 91))]),
 .j 93 (.mkisl 3 [(.t 92)]),
 .j 94 (.app 260094 3 (.t 85) (.t 93)),
 .j 95 (.faddr 9 (.t 5)),
 .e (.store 1 (.t 95) (.t 94))]
@[go_sem] def q26_23 : List AI := [
 .j 96 (.bin .add (.t 82) (.z 1)),
 .j 82 (.mov (.t 96))]
@[go_sem] def dump_reader_function_l4' : AC := .seq (.ops [q26_21]) (.seq (.cond (.t 83) (.skip) (.exit 8)) (.seq (.block 9 (.ops [q26_22_0, q26_22_1, q26_22_2, q26_22_3])) (.ops [q26_23])))
def dump_reader_function_l4 : AC := dump_reader_function_l4'
theorem dump_reader_function_l4_eq : dump_reader_function_l4 = dump_reader_function_l4' := rfl
@[go_sem] def q26_24 : List AI := [
 .j 97 (.mov (.t 0)),
 .j 98 (.callp 37 [(.t 97)]),
 .j 99 (.mov (.z 0))]
@[go_sem] def q26_25 : List AI := [
 .j 100 (.bin .lss (.t 99) (.t 98))]
@[go_sem] def q26_26_0 : List AI := [
 .j 101 (.faddr 10 (.t 5)),
 .j 102 (.load 1 false (.t 101)),
 .j 103 (.mov (.t 0)),
 .j 105 (.mov (.t 0)),
 .j 107 (.mov (.t 0)),
 .j 109 (.mov (.t 0)),
 .j 111 (.mov (.t 0)),
 .j 104 (.callp 34 [(.t 103)]),
 .j 106 (.callp 35 [(.t 105)]),
 .j 108 (.callp 35 [(.t 107)]),
 .j 110 (.callp 35 [(.t 109)]),
 .j 112 (.callp 35 [(.t 111)]),
 .j 113 (.build [(.str []), (.int .i64 0), (.int .i64 0), (.int .i64 0), (.int .i64 0)] [(0, 1, (.t 104)), (1, 1, (.t 106)), (2, 1, (.t 108)), (3, 1, (.t 110)), (4, 1, (.t 112))]),
 .j 114 (.mkisl 5 [(.t 113)]),
 .j 115 (.app 260115 5 (.t 102) (.t 114)),
 .j 116 (.faddr 10 (.t 5)),
 .e (.store 1 (.t 116) (.t 115))]
@[go_sem] def q26_26_1 : List AI := [
 .j 101 (.faddr 10 (.t 5)),
 .j 103 (.mov (.t 0)),
 .j 105 (.mov (.t 0)),
 .j 107 (.mov (.t 0)),
 .j 109 (.mov (.t 0)),
 .j 111 (.mov (.t 0)),
 .j 104 (.callp 34 [(.t 103)]),
 .j 102 (.load 1 false (.t 101)),
 .j 106 (.callp 35 [(.t 105)]),
 .j 108 (.callp 35 [(.t 107)]),
 .j 110 (.callp 35 [(.t 109)]),
 .j 112 (.callp 35 [(.t 111)]),
 .j 113 (.build [(.str []), (.int .i64 0), (.int .i64 0), (.int .i64 0), (.int .i64 0)] [(0, 1, (.t 104)), (1, 1, (.t 106)), (2, 1, (.t 108)), (3, 1, (.t 110)), (4, 1, (.t 112))]),
 .j 114 (.mkisl 5 [(.t 113)]),
 .j 115 (.app 260115 5 (.t 102) (.t 114)),
 .j 116 (.faddr 10 (.t 5)),
 .e (.store 1 (.t 116) (.t 115))]
@[go_sem] def q26_26_2 : List AI := [
 .j 101 (.faddr 10 (.t 5)),
 .j 103 (.mov (.t 0)),
 .j 105 (.mov (.t 0)),
 .j 107 (.mov (.t 0)),
 .j 109 (.mov (.t 0)),
 .j 111 (.mov (.t 0)),
 .j 104 (.callp 34 [(.t 103)]),
 .j 106 (.callp 35 [(.t 105)]),
 .j 102 (.load 1 false (.t 101)),
 .j 108 (.callp 35 [(.t 107)]),
 .j 110 (.callp 35 [(.t 109)]),
 .j 112 (.callp 35 [(.t 111)]),
 .j 113 (.build [(.str []), (.int .i64 0), (.int .i64 0), (.int .i64 0), (.int .i64 0)] [(0, 1, (.t 104)), (1, 1, (.t 106)), (2, 1, (.t 108)), (3, 1, (.t 110)), (4, 1, (.t 112))]),
 .j 114 (.mkisl 5 [(.t 113)]),
 .j 115 (.app 260115 5 (.t 102) (.t 114)),
 .j 116 (.faddr 10 (.t 5)),
 .e (.store 1 (.t 116) (.t 115))]
@[go_sem] def q26_26_3 : List AI := [
 .j 101 (.faddr 10 (.t 5)),
 .j 103 (.mov (.t 0)),
 .j 105 (.mov (.t 0)),
 .j 107 (.mov (.t 0)),
 .j 109 (.mov (.t 0)),
 .j 111 (.mov (.t 0)),
 .j 104 (.callp 34 [(.t 103)]),
 .j 106 (.callp 35 [(.t 105)]),
 .j 108 (.callp 35 [(.t 107)]),
 .j 102 (.load 1 false (.t 101)),
 .j 110 (.callp 35 [(.t 109)]),
 .j 112 (.callp 35 [(.t 111)]),
 .j 113 (.build [(.str []), (.int .i64 0), (.int .i64 0), (.int .i64 0), (.int .i64 0)] [(0, 1, (.t 104)), (1, 1, (.t 106)), (2, 1, (.t 108)), (3, 1, (.t 110)), (4, 1, (.t 112))]),
 .j 114 (.mkisl 5 [(.t 113)]),
 .j 115 (.app 260115 5 (.t 102) (.t 114)),
 .j 116 (.faddr 10 (.t 5)),
 .e (.store 1 (.t 116) (.t 115))]
@[go_sem] def q26_26_4 : List AI := [
 .j 101 (.faddr 10 (.t 5)),
 .j 103 (.mov (.t 0)),
 .j 105 (.mov (.t 0)),
 .j 107 (.mov (.t 0)),
 .j 109 (.mov (.t 0)),
 .j 111 (.mov (.t 0)),
 .j 104 (.callp 34 [(.t 103)]),
 .j 106 (.callp 35 [(.t 105)]),
 .j 108 (.callp 35 [(.t 107)]),
 .j 110 (.callp 35 [(.t 109)]),
 .j 102 (.load 1 false (.t 101)),
 .j 112 (.callp 35 [(.t 111)]),
 .j 113 (.build [(.str []), (.int .i64 0), (.int .i64 0), (.int .i64 0), (.int .i64 0)] [(0, 1, (.t 104)), (1, 1, (.t 106)), (2, 1, (.t 108)), (3, 1, (.t 110)), (4, 1, (.t 112))]),
 .j 114 (.mkisl 5 [(.t 113)]),
 .j 115 (.app 260115 5 (.t 102) (.t 114)),
 .j 116 (.faddr 10 (.t 5)),
 .e (.store 1 (.t 116) (.t 115))]
@[go_sem] def q26_26_5 : List AI := [
 .j 101 (.faddr 10 (.t 5)),
 .j 103 (.mov (.t 0)),
 .j 105 (.mov (.t 0)),
 .j 107 (.mov (.t 0)),
 .j 109 (.mov (.t 0)),
 .j 111 (.mov (.t 0)),
 .j 104 (.callp 34 [(.t 103)]),
 .j 106 (.callp 35 [(.t 105)]),
 .j 108 (.callp 35 [(.t 107)]),
 .j 110 (.callp 35 [(.t 109)]),
 .j 112 (.callp 35 [(.t 111)]),
 .j 102 (.load 1 false (.t 101)),
 .j 113 (.build [(.str []), (.int .i64 0), (.int .i64 0), (.int .i64 0), (.int .i64 0)] [(0, 1, (.t 104)), (1, 1, (.t 106)), (2, 1, (.t 108)), (3, 1, (.t 110)), (4, 1, (.t 112))]),
 .j 114 (.mkisl 5 [(.t 113)]),
 .j 115 (.app 260115 5 (.t 102) (.t 114)),
 .j 116 (.faddr 10 (.t 5)),
 .e (.store 1 (.t 116) (.t 115))]
@[go_sem] def q26_27 : List AI := [
 .j 117 (.bin .add (.t 99) (.z 1)),
 .j 99 (.mov (.t 117))]
@[go_sem] def dump_reader_function_l5' : AC := .seq (.ops [q26_25]) (.seq (.cond (.t 100) (.skip) (.exit 10)) (.seq (.block 11 (.ops [q26_26_0, q26_26_1, q26_26_2, q26_26_3, q26_26_4, q26_26_5])) (.ops [q26_27])))
def dump_reader_function_l5 : AC := dump_reader_function_l5'
theorem dump_reader_function_l5_eq : dump_reader_function_l5 = dump_reader_function_l5' := rfl
@[go_sem] def q26_28 : List AI := [
 .j 118 (.load 11 true (.t 5)),
 .e (.store 11 (.t 4) (.t 118))]
@[go_sem] def dump_reader_function_c : AC := .seq (.ops [q26_0]) (.seq (.seq (.ops [q26_1]) (.cond (.t 7) (.ops [q26_2]) (.skip))) (.seq (.ops [q26_3]) (.seq (.seq (.ops [q26_4]) (.block 0 (.loop dump_reader_function_l0))) (.seq (.seq (.ops [q26_8]) (.block 2 (.loop dump_reader_function_l1))) (.seq (.seq (.ops [q26_12]) (.block 4 (.loop dump_reader_function_l2))) (.seq (.seq (.ops [q26_16]) (.block 6 (.loop dump_reader_function_l3))) (.seq (.seq (.ops [q26_20]) (.block 8 (.loop dump_reader_function_l4))) (.seq (.seq (.ops [q26_24]) (.block 10 (.loop dump_reader_function_l5))) (.seq (.ops [q26_28]) (.ret))))))))))
theorem dump_reader_function_ok : compF Tryd.prog 26 = some (119, dump_reader_function_c, [.c 4 11 true]) := by kernel_rfl

@[go_sem] def q27_0 : List AI := [
 .j 4 (.mov (.t 1)),
 .j 5 (.build [(.int .i64 0)] [(0, 1, (.t 4))]),
 .j 6 (.mki 69 (.t 5)),
 .e (.pan (.t 6))]
@[go_sem] def dump_reader_fail_c : AC := .ops [q27_0]
theorem dump_reader_fail_ok : compF Tryd.prog 27 = some (7, dump_reader_fail_c, []) := by kernel_rfl

@[go_sem] def q28_0 : List AI := [
 .j 3 (.load 11 true (.t 1)),
 .j 4 (.call 30 [(.t 3)]),
 .j 5 (.mov (.t 0)),
 .j 6 (.call 29 [(.t 4), (.t 5)])]
@[go_sem] def proto_Each_1_c : AC := .ops [q28_0]
theorem proto_Each_1_ok : compF Tryd.prog 28 = some (7, proto_Each_1_c, []) := by kernel_rfl

@[go_sem] def q29_0 : List AI := [
 .j 2 (.box 290002 11 (.t 0)),
 .j 4 (.mov (.c (.bool false)))]
@[go_sem] def q29_1 : List AI := [
 .j 7 (.mov (.t 1)),
 .j 8 (.load 11 true (.t 2)),
 .j 9 (.callv (.t 7) [(.t 8)]),
 .j 10 (.un .not (.t 9))]
@[go_sem] def q29_2 : List AI := [
 .j 4 (.mov (.c (.bool false)))]
@[go_sem] def q29_3 : List AI := [
 .j 11 (.faddr 8 (.t 2)),
 .j 12 (.load 1 false (.t 11)),
 .j 13 (.len 0 (.t 12)),
 .j 14 (.mov (.z 0))]
@[go_sem] def q29_4 : List AI := [
 .j 15 (.bin .lss (.t 14) (.t 13))]
@[go_sem] def q29_5 : List AI := [
 .j 16 (.iaddr 11 (.t 12) (.t 14)),
 .j 17 (.load 11 true (.t 16)),
 .j 6 (.box 290006 11 (.c (.agg [(.str []), (.int .i64 0), (.int .i64 0), (.bool false), (.int .i64 0), .nils, .nils, .nils, .nils, .nils, .nils]))),
 .e (.store 11 (.t 6) (.t 17))]
@[go_sem] def q29_6 : List AI := [
 .j 18 (.load 11 true (.t 6)),
 .j 19 (.mov (.t 1)),
 .j 20 (.call 29 [(.t 18), (.t 19)]),
 .j 21 (.un .not (.t 20))]
@[go_sem] def q29_7 : List AI := [
 .j 4 (.mov (.c (.bool false)))]
@[go_sem] def q29_8 : List AI := [
 .j 22 (.bin .add (.t 14) (.z 1)),
 .j 14 (.mov (.t 22))]
@[go_sem] def proto_walk_l0' : AC := .seq (.ops [q29_4]) (.seq (.cond (.t 15) (.skip) (.exit 0)) (.seq (.block 1 (.seq (.ops [q29_5]) (.seq (.ops [q29_6]) (.cond (.t 21) (.seq (.ops [q29_7]) (.ret)) (.skip))))) (.ops [q29_8])))
def proto_walk_l0 : AC := proto_walk_l0'
theorem proto_walk_l0_eq : proto_walk_l0 = proto_walk_l0' := rfl
@[go_sem] def q29_9 : List AI := [
 .j 4 (.mov (.c (.bool true)))]
@[go_sem] def proto_walk_c : AC := .seq (.ops [q29_0]) (.seq (.seq (.ops [q29_1]) (.cond (.t 10) (.seq (.ops [q29_2]) (.ret)) (.skip))) (.seq (.seq (.ops [q29_3]) (.block 0 (.loop proto_walk_l0))) (.seq (.ops [q29_9]) (.ret))))
theorem proto_walk_ok : compF Tryd.prog 29 = some (23, proto_walk_c, [.t 4]) := by kernel_rfl

@[go_sem] def q30_0 : List AI := [
 .j 1 (.box 300001 11 (.t 0)),
 .j 2 (.box 300002 11 (.c (.agg [(.str []), (.int .i64 0), (.int .i64 0), (.bool false), (.int .i64 0), .nils, .nils, .nils, .nils, .nils, .nils])))]
@[go_sem] def q30_1 : List AI := [
 .j 6 (.faddr 5 (.t 1)),
 .j 7 (.load 1 false (.t 6)),
 .j 9 (.faddr 6 (.t 1)),
 .j 10 (.load 1 false (.t 9)),
 .j 12 (.faddr 7 (.t 1)),
 .j 13 (.load 1 false (.t 12)),
 .j 15 (.faddr 9 (.t 1)),
 .j 16 (.load 1 false (.t 15)),
 .j 18 (.faddr 10 (.t 1)),
 .j 19 (.load 1 false (.t 18)),
 .j 8 (.pcall 39 [(.t 7)]),
 .j 21 (.faddr 5 (.t 1)),
 .j 11 (.pcall 40 [(.t 10)]),
 .j 14 (.pcall 41 [(.t 13)]),
 .j 17 (.pcall 42 [(.t 16)]),
 .j 20 (.pcall 43 [(.t 19)]),
 .e (.store 1 (.t 21) (.t 8)),
 .j 22 (.faddr 6 (.t 1)),
 .e (.store 1 (.t 22) (.t 11)),
 .j 23 (.faddr 7 (.t 1)),
 .e (.store 1 (.t 23) (.t 14)),
 .j 24 (.faddr 9 (.t 1)),
 .e (.store 1 (.t 24) (.t 17)),
 .j 25 (.faddr 10 (.t 1)),
 .e (.store 1 (.t 25) (.t 20))]
@[go_sem] def q30_2 : List AI := [
 .j 3 (.mov (.c .nils))]
@[go_sem] def q30_3 : List AI := [
 .j 26 (.faddr 8 (.t 1)),
 .j 27 (.load 1 false (.t 26)),
 .j 28 (.len 0 (.t 27)),
 .j 29 (.mov (.z 0))]
@[go_sem] def q30_4 : List AI := [
 .j 30 (.bin .lss (.t 29) (.t 28))]
@[go_sem] def q30_5 : List AI := [
 .j 31 (.iaddr 11 (.t 27) (.t 29)),
 .j 32 (.load 11 true (.t 31)),
 .j 5 (.box 300005 11 (.c (.agg [(.str []), (.int .i64 0), (.int .i64 0), (.bool false), (.int .i64 0), .nils, .nils, .nils, .nils, .nils, .nils]))),
 .e (.store 11 (.t 5) (.t 32))]
@[go_sem] def q30_6 : List AI := [
 .j 33 (.mov (.t 3)),
 .j 34 (.load 11 true (.t 5)),
 .j 35 (.call 30 [(.t 34)]),
 .j 36 (.mkisl 11 [(.t 35)]),
 .j 37 (.apb 733007751850 300037 11 (.t 33) (.t 36)),
 .j 3 (.mov (.t 37))]
@[go_sem] def q30_7 : List AI := [
 .j 38 (.bin .add (.t 29) (.z 1)),
 .j 29 (.mov (.t 38))]
@[go_sem] def proto_copied_l0' : AC := .seq (.ops [q30_4]) (.seq (.cond (.t 30) (.skip) (.exit 0)) (.seq (.block 1 (.seq (.ops [q30_5]) (.ops [q30_6]))) (.ops [q30_7])))
def proto_copied_l0 : AC := proto_copied_l0'
theorem proto_copied_l0_eq : proto_copied_l0 = proto_copied_l0' := rfl
@[go_sem] def q30_8 : List AI := [
 .j 39 (.mov (.t 3)),
 .j 40 (.faddr 8 (.t 1)),
 .e (.store 1 (.t 40) (.t 39))]
@[go_sem] def q30_9 : List AI := [
 .j 41 (.load 11 true (.t 1)),
 .e (.store 11 (.t 2) (.t 41))]
@[go_sem] def proto_copied_c : AC := .seq (.ops [q30_0]) (.seq (.ops [q30_1]) (.seq (.ops [q30_2]) (.seq (.seq (.ops [q30_3]) (.block 0 (.loop proto_copied_l0))) (.seq (.ops [q30_8]) (.seq (.ops [q30_9]) (.ret))))))
theorem proto_copied_ok : compF Tryd.prog 30 = some (42, proto_copied_c, [.c 2 11 true]) := by kernel_rfl

@[go_sem] def q31_0 : List AI := [
 .j 1 (.box 310001 11 (.t 0)),
 .j 2 (.mov (.z 0))]
@[go_sem] def q31_1 : List AI := [
 .j 4 (.faddr 5 (.t 1)),
 .j 5 (.load 1 false (.t 4)),
 .j 6 (.len 0 (.t 5)),
 .j 7 (.bin .gtr (.t 6) (.z 16384)),
 .j 8 (.mov (.t 7)),
 .k 9 8 false (.faddr 7 (.t 1)),
 .k 10 8 false (.load 1 false (.t 9)),
 .k 11 8 false (.len 0 (.t 10)),
 .k 12 8 false (.bin .gtr (.t 11) (.z 4096)),
 .j 13 (.pick (.t 8) (.c (.bool true)) (.t 12)),
 .j 14 (.mov (.t 13)),
 .k 15 14 false (.faddr 8 (.t 1)),
 .k 16 14 false (.load 1 false (.t 15)),
 .k 17 14 false (.len 0 (.t 16)),
 .k 18 14 false (.bin .gtr (.t 17) (.z 1024)),
 .j 19 (.pick (.t 14) (.c (.bool true)) (.t 18)),
 .j 20 (.mov (.t 19)),
 .k 21 20 false (.faddr 9 (.t 1)),
 .k 22 20 false (.load 1 false (.t 21)),
 .k 23 20 false (.len 0 (.t 22)),
 .k 24 20 false (.bin .gtr (.t 23) (.z 60)),
 .j 25 (.pick (.t 20) (.c (.bool true)) (.t 24)),
 .j 26 (.mov (.t 25)),
 .k 27 26 false (.faddr 10 (.t 1)),
 .k 28 26 false (.load 1 false (.t 27)),
 .k 29 26 false (.len 0 (.t 28)),
 .k 30 26 false (.bin .gtr (.t 29) (.z 16384)),
 .j 31 (.pick (.t 26) (.c (.bool true)) (.t 30)),
 .j 32 (.mov (.t 31)),
 .k 33 32 false (.faddr 4 (.t 1)),
 .k 34 32 false (.load 1 false (.t 33)),
 .k 35 32 false (.bin .gtr (.t 34) (.z 4096)),
 .j 36 (.pick (.t 32) (.c (.bool true)) (.t 35)),
 .j 37 (.mov (.t 36)),
 .k 38 37 false (.faddr 0 (.t 1)),
 .k 39 37 false (.load 1 false (.t 38)),
 .k 40 37 false (.len 1 (.t 39)),
 .k 41 37 false (.bin .gtr (.t 40) (.z 4096)),
 .j 42 (.pick (.t 37) (.c (.bool true)) (.t 41))]
@[go_sem] def q31_2 : List AI := [
 .j 2 (.mov (.z 3))]
@[go_sem] def q31_3 : List AI := [
 .j 3 (.box 310003 1 (.c (.cst .nilFunc))),
 .e (.store 1 (.t 3) (.f 44))]
@[go_sem] def q31_4 : List AI := [
 .j 43 (.faddr 9 (.t 1)),
 .j 44 (.load 1 false (.t 43)),
 .j 45 (.mkfn 46 [(.t 3)]),
 .j 46 (.call 45 [(.t 44), (.t 45)]),
 .j 47 (.mov (.t 46)),
 .k 48 47 false (.faddr 10 (.t 1)),
 .k 49 47 false (.load 1 false (.t 48)),
 .k 50 47 false (.mkfn 48 [(.t 3)]),
 .k 51 47 false (.call 47 [(.t 49), (.t 50)]),
 .j 52 (.pick (.t 47) (.c (.bool true)) (.t 51))]
@[go_sem] def q31_5 : List AI := [
 .j 2 (.mov (.z 3))]
@[go_sem] def q31_6 : List AI := [
 .j 2 (.mov (.z 0))]
@[go_sem] def proto_limits_c : AC := .seq (.ops [q31_0]) (.seq (.seq (.ops [q31_1]) (.cond (.t 42) (.seq (.ops [q31_2]) (.ret)) (.skip))) (.seq (.ops [q31_3]) (.seq (.seq (.ops [q31_4]) (.cond (.t 52) (.seq (.ops [q31_5]) (.ret)) (.skip))) (.seq (.ops [q31_6]) (.ret)))))
theorem proto_limits_ok : compF Tryd.prog 31 = some (53, proto_limits_c, [.t 2]) := by kernel_rfl

@[go_sem] def q32_0 : List AI := [
 .j 1 (.box 320001 11 (.t 0)),
 .j 2 (.mov (.z 0))]
@[go_sem] def q32_1 : List AI := [
 .j 8 (.faddr 5 (.t 1)),
 .j 9 (.load 1 false (.t 8)),
 .j 10 (.len 0 (.t 9)),
 .j 3 (.mov (.t 10))]
@[go_sem] def q32_2 : List AI := [
 .j 11 (.mov (.t 3)),
 .j 12 (.bin .eql (.t 11) (.z 0)),
 .j 13 (.mov (.t 12)),
 .k 14 13 false (.faddr 4 (.t 1)),
 .k 15 13 false (.load 1 false (.t 14)),
 .k 16 13 false (.bin .lss (.t 15) (.z 0)),
 .j 17 (.pick (.t 13) (.c (.bool true)) (.t 16)),
 .j 18 (.mov (.t 17)),
 .k 19 18 false (.faddr 2 (.t 1)),
 .k 20 18 false (.load 1 false (.t 19)),
 .k 21 18 false (.bin .lss (.t 20) (.z 0)),
 .j 22 (.pick (.t 18) (.c (.bool true)) (.t 21)),
 .j 23 (.mov (.t 22)),
 .k 24 23 false (.faddr 1 (.t 1)),
 .k 25 23 false (.load 1 false (.t 24)),
 .k 26 23 false (.bin .lss (.t 25) (.z 0)),
 .j 27 (.pick (.t 23) (.c (.bool true)) (.t 26)),
 .j 28 (.mov (.t 27)),
 .k 29 28 false (.faddr 2 (.t 1)),
 .k 30 28 false (.load 1 false (.t 29)),
 .k 31 28 false (.faddr 4 (.t 1)),
 .k 32 28 false (.load 1 false (.t 31)),
 .k 33 28 false (.bin .gtr (.t 30) (.t 32)),
 .j 34 (.pick (.t 28) (.c (.bool true)) (.t 33)),
 .j 35 (.mov (.t 34)),
 .k 36 35 false (.faddr 6 (.t 1)),
 .k 37 35 false (.load 1 false (.t 36)),
 .k 38 35 false (.len 0 (.t 37)),
 .k 39 35 false (.bin .neq (.t 38) (.z 0)),
 .k 40 35 false (.mov (.t 39)),
 .k 41 40 true (.faddr 6 (.t 1)),
 .k 42 40 true (.load 1 false (.t 41)),
 .k 43 40 true (.len 0 (.t 42)),
 .k 44 40 true (.mov (.t 3)),
 .k 45 40 true (.bin .neq (.t 43) (.t 44)),
 .k 46 35 false (.pick (.t 40) (.t 45) (.c (.bool false))),
 .j 47 (.pick (.t 35) (.c (.bool true)) (.t 46))]
@[go_sem] def q32_3 : List AI := [
 .j 2 (.mov (.z 4))]
@[go_sem] def q32_4 : List AI := [
 .j 48 (.faddr 6 (.t 1)),
 .j 49 (.load 1 false (.t 48)),
 .j 50 (.call 49 [(.t 49), (.f 50)]),
 .j 51 (.mov (.t 50)),
 .k 52 51 false (.faddr 9 (.t 1)),
 .k 53 51 false (.load 1 false (.t 52)),
 .k 54 51 false (.call 45 [(.t 53), (.f 51)]),
 .j 55 (.pick (.t 51) (.c (.bool true)) (.t 54))]
@[go_sem] def q32_5 : List AI := [
 .j 2 (.mov (.z 4))]
@[go_sem] def q32_6 : List AI := [
 .j 56 (.faddr 7 (.t 1)),
 .j 57 (.load 1 false (.t 56)),
 .j 58 (.len 0 (.t 57)),
 .j 59 (.mov (.z 0))]
@[go_sem] def q32_7 : List AI := [
 .j 60 (.bin .lss (.t 59) (.t 58))]
@[go_sem] def q32_8 : List AI := [
 .j 61 (.iaddr 5 (.t 57) (.t 59)),
 .j 62 (.load 5 true (.t 61)),
 .j 5 (.box 320005 5 (.c (.agg [(.int .i64 0), (.int .i64 0), (.int .i64 0), (.str []), (.int .i64 0)]))),
 .e (.store 5 (.t 5) (.t 62))]
@[go_sem] def q32_9 : List AI := [
 .j 63 (.faddr 0 (.t 5)),
 .j 64 (.load 1 false (.t 63)),
 .j 65 (.bin .gtr (.t 64) (.z 3)),
 .j 66 (.mov (.t 65)),
 .k 67 66 false (.load 5 true (.t 5)),
 .k 68 66 false (.call 52 [(.t 67)]),
 .k 69 66 false (.un .not (.t 68)),
 .j 70 (.pick (.t 66) (.c (.bool true)) (.t 69))]
@[go_sem] def q32_10 : List AI := [
 .j 2 (.mov (.z 4))]
@[go_sem] def q32_11 : List AI := [
 .j 71 (.bin .add (.t 59) (.z 1)),
 .j 59 (.mov (.t 71))]
@[go_sem] def proto_form_l0' : AC := .seq (.ops [q32_7]) (.seq (.cond (.t 60) (.skip) (.exit 0)) (.seq (.block 1 (.seq (.ops [q32_8]) (.seq (.ops [q32_9]) (.cond (.t 70) (.seq (.ops [q32_10]) (.ret)) (.skip))))) (.ops [q32_11])))
def proto_form_l0 : AC := proto_form_l0'
theorem proto_form_l0_eq : proto_form_l0 = proto_form_l0' := rfl
@[go_sem] def q32_12 : List AI := [
 .j 72 (.faddr 10 (.t 1)),
 .j 73 (.load 1 false (.t 72)),
 .j 74 (.len 0 (.t 73)),
 .j 75 (.mov (.z 0))]
@[go_sem] def q32_13 : List AI := [
 .j 76 (.bin .lss (.t 75) (.t 74))]
@[go_sem] def q32_14 : List AI := [
 .j 77 (.iaddr 5 (.t 73) (.t 75)),
 .j 78 (.load 5 true (.t 77)),
 .j 7 (.box 320007 5 (.c (.agg [(.str []), (.int .i64 0), (.int .i64 0), (.int .i64 0), (.int .i64 0)]))),
 .e (.store 5 (.t 7) (.t 78))]
@[go_sem] def q32_15 : List AI := [
 .j 79 (.faddr 1 (.t 7)),
 .j 80 (.load 1 false (.t 79)),
 .j 81 (.bin .lss (.t 80) (.z 0)),
 .j 82 (.mov (.t 81)),
 .k 83 82 false (.faddr 1 (.t 7)),
 .k 84 82 false (.load 1 false (.t 83)),
 .k 85 82 false (.faddr 4 (.t 1)),
 .k 86 82 false (.load 1 false (.t 85)),
 .k 87 82 false (.bin .geq (.t 84) (.t 86)),
 .j 88 (.pick (.t 82) (.c (.bool true)) (.t 87)),
 .j 89 (.mov (.t 88)),
 .k 90 89 false (.faddr 4 (.t 7)),
 .k 91 89 false (.load 1 false (.t 90)),
 .k 92 89 false (.bin .lss (.t 91) (.z 0)),
 .j 93 (.pick (.t 89) (.c (.bool true)) (.t 92)),
 .j 94 (.mov (.t 93)),
 .k 95 94 false (.faddr 4 (.t 7)),
 .k 96 94 false (.load 1 false (.t 95)),
 .k 97 94 false (.bin .gtr (.t 96) (.z 2)),
 .j 98 (.pick (.t 94) (.c (.bool true)) (.t 97)),
 .j 99 (.mov (.t 98)),
 .k 100 99 false (.faddr 2 (.t 7)),
 .k 101 99 false (.load 1 false (.t 100)),
 .k 102 99 false (.bin .lss (.t 101) (.z 0)),
 .j 103 (.pick (.t 99) (.c (.bool true)) (.t 102)),
 .j 104 (.mov (.t 103)),
 .k 105 104 false (.faddr 3 (.t 7)),
 .k 106 104 false (.load 1 false (.t 105)),
 .k 107 104 false (.faddr 2 (.t 7)),
 .k 108 104 false (.load 1 false (.t 107)),
 .k 109 104 false (.bin .lss (.t 106) (.t 108)),
 .j 110 (.pick (.t 104) (.c (.bool true)) (.t 109)),
 .j 111 (.mov (.t 110)),
 .k 112 111 false (.faddr 3 (.t 7)),
 .k 113 111 false (.load 1 false (.t 112)),
 .k 114 111 false (.mov (.t 3)),
 .k 115 111 false (.bin .gtr (.t 113) (.t 114)),
 .j 116 (.pick (.t 111) (.c (.bool true)) (.t 115))]
@[go_sem] def q32_16 : List AI := [
 .j 2 (.mov (.z 4))]
@[go_sem] def q32_17 : List AI := [
 .j 117 (.bin .add (.t 75) (.z 1)),
 .j 75 (.mov (.t 117))]
@[go_sem] def proto_form_l1' : AC := .seq (.ops [q32_13]) (.seq (.cond (.t 76) (.skip) (.exit 2)) (.seq (.block 3 (.seq (.ops [q32_14]) (.seq (.ops [q32_15]) (.cond (.t 116) (.seq (.ops [q32_16]) (.ret)) (.skip))))) (.ops [q32_17])))
def proto_form_l1 : AC := proto_form_l1'
theorem proto_form_l1_eq : proto_form_l1 = proto_form_l1' := rfl
@[go_sem] def q32_18 : List AI := [
 .j 2 (.mov (.z 0))]
@[go_sem] def proto_form_c : AC := .seq (.ops [q32_0]) (.seq (.ops [q32_1]) (.seq (.seq (.ops [q32_2]) (.cond (.t 47) (.seq (.ops [q32_3]) (.ret)) (.skip))) (.seq (.seq (.ops [q32_4]) (.cond (.t 55) (.seq (.ops [q32_5]) (.ret)) (.skip))) (.seq (.seq (.ops [q32_6]) (.block 0 (.loop proto_form_l0))) (.seq (.seq (.ops [q32_12]) (.block 2 (.loop proto_form_l1))) (.seq (.ops [q32_18]) (.ret)))))))
theorem proto_form_ok : compF Tryd.prog 32 = some (118, proto_form_c, [.t 2]) := by kernel_rfl

@[go_sem] def q33_0 : List AI := [
 .j 2 (.box 330002 11 (.t 0)),
 .j 3 (.box 330003 5 (.t 1)),
 .j 4 (.mov (.z 0))]
@[go_sem] def q33_1 : List AI := [
 .j 12 (.load 5 true (.t 3)),
 .j 13 (.call 53 [(.t 12)]),
 .j 5 (.mov (.t 13))]
@[go_sem] def q33_2 : List AI := [
 .j 14 (.mov (.t 5)),
 .j 15 (.bin .neq (.t 14) (.z 0))]
@[go_sem] def q33_3 : List AI := [
 .j 16 (.mov (.t 5)),
 .j 4 (.mov (.t 16))]
@[go_sem] def q33_4 : List AI := [
 .j 18 (.load 5 true (.t 3)),
 .j 19 (.call 54 [(.t 18)]),
 .j 17 (.mov (.t 19)),
 .j 20 (.ext 0 (.t 17)),
 .j 21 (.ext 1 (.t 17)),
 .j 6 (.mov (.t 20)),
 .j 7 (.mov (.t 21))]
@[go_sem] def q33_5 : List AI := [
 .j 23 (.load 5 true (.t 3)),
 .j 24 (.call 55 [(.t 23)]),
 .j 22 (.mov (.t 24)),
 .j 25 (.ext 0 (.t 22)),
 .j 26 (.ext 1 (.t 22)),
 .j 8 (.mov (.t 25)),
 .j 9 (.mov (.t 26))]
@[go_sem] def q33_6 : List AI := [
 .j 27 (.load 11 true (.t 2)),
 .j 28 (.mov (.t 6)),
 .j 29 (.mov (.t 7)),
 .j 30 (.call 56 [(.t 27), (.t 28), (.t 29)]),
 .j 31 (.un .not (.t 30)),
 .j 32 (.mov (.t 31)),
 .k 33 32 false (.load 11 true (.t 2)),
 .k 34 32 false (.mov (.t 8)),
 .k 35 32 false (.mov (.t 9)),
 .k 36 32 false (.call 56 [(.t 33), (.t 34), (.t 35)]),
 .k 37 32 false (.un .not (.t 36)),
 .j 38 (.pick (.t 32) (.c (.bool true)) (.t 37))]
@[go_sem] def q33_7 : List AI := [
 .j 4 (.mov (.z 4))]
@[go_sem] def q33_8 : List AI := [
 .j 40 (.load 5 true (.t 3)),
 .j 41 (.call 57 [(.t 40)]),
 .j 39 (.mov (.t 41)),
 .j 42 (.ext 0 (.t 39)),
 .j 43 (.ext 1 (.t 39)),
 .j 10 (.mov (.t 42)),
 .j 11 (.mov (.t 43))]
@[go_sem] def q33_9 : List AI := [
 .j 44 (.mov (.t 11)),
 .j 45 (.mov (.t 44)),
 .k 46 45 true (.mov (.t 10)),
 .k 47 45 true (.bin .lss (.t 46) (.z 0)),
 .k 48 45 true (.mov (.t 47)),
 .k 49 48 false (.mov (.t 10)),
 .k 50 48 false (.faddr 5 (.t 2)),
 .k 51 48 false (.load 1 false (.t 50)),
 .k 52 48 false (.len 0 (.t 51)),
 .k 53 48 false (.bin .geq (.t 49) (.t 52)),
 .k 54 45 true (.pick (.t 48) (.c (.bool true)) (.t 53)),
 .j 55 (.pick (.t 45) (.t 54) (.c (.bool false)))]
@[go_sem] def q33_10 : List AI := [
 .j 4 (.mov (.z 4))]
@[go_sem] def q33_11 : List AI := [
 .j 56 (.load 11 true (.t 2)),
 .j 57 (.load 5 true (.t 3)),
 .j 58 (.call 58 [(.t 56), (.t 57)]),
 .j 59 (.un .not (.t 58))]
@[go_sem] def q33_12 : List AI := [
 .j 4 (.mov (.z 4))]
@[go_sem] def q33_13 : List AI := [
 .j 4 (.mov (.z 0))]
@[go_sem] def proto_instruction_c : AC := .seq (.ops [q33_0]) (.seq (.seq (.ops [q33_1]) (.seq (.ops [q33_2]) (.cond (.t 15) (.seq (.ops [q33_3]) (.ret)) (.skip)))) (.seq (.ops [q33_4]) (.seq (.ops [q33_5]) (.seq (.seq (.ops [q33_6]) (.cond (.t 38) (.seq (.ops [q33_7]) (.ret)) (.skip))) (.seq (.seq (.ops [q33_8]) (.seq (.ops [q33_9]) (.cond (.t 55) (.seq (.ops [q33_10]) (.ret)) (.skip)))) (.seq (.seq (.ops [q33_11]) (.cond (.t 59) (.seq (.ops [q33_12]) (.ret)) (.skip))) (.seq (.ops [q33_13]) (.ret))))))))
theorem proto_instruction_ok : compF Tryd.prog 33 = some (60, proto_instruction_c, [.t 4]) := by kernel_rfl

@[go_sem] def q34_0 : List AI := [
 .j 2 (.mov (.c (.str [])))]
@[go_sem] def q34_1 : List AI := [
 .j 3 (.mov (.t 0)),
 .j 4 (.mov (.t 0)),
 .j 5 (.callp 37 [(.t 4)]),
 .j 6 (.callp 59 [(.t 3), (.t 5)]),
 .j 7 (.bst (.t 6)),
 .j 2 (.mov (.t 7))]
@[go_sem] def dump_reader_str_c : AC := .seq (.ops [q34_0]) (.seq (.ops [q34_1]) (.ret))
theorem dump_reader_str_ok : compF Tryd.prog 34 = some (8, dump_reader_str_c, [.t 2]) := by kernel_rfl

@[go_sem] def q35_0 : List AI := [
 .j 2 (.mov (.z 0))]
@[go_sem] def q35_1 : List AI := [
 .j 3 (.mov (.c (.int .u64 0)))]
@[go_sem] def q35_2 : List AI := [
 .j 6 (.mov (.t 0)),
 .j 7 (.callp 59 [(.t 6), (.z 8)]),
 .j 8 (.len 0 (.t 7)),
 .j 9 (.mov (.z 0))]
@[go_sem] def q35_3 : List AI := [
 .j 10 (.bin .lss (.t 9) (.t 8))]
@[go_sem] def q35_4 : List AI := [
 .j 11 (.mov (.t 9)),
 .j 12 (.iaddr 1 (.t 7) (.t 9)),
 .j 13 (.load 1 false (.t 12)),
 .j 4 (.mov (.t 11)),
 .j 5 (.mov (.t 13))]
@[go_sem] def q35_5 : List AI := [
 .j 14 (.mov (.t 3)),
 .j 15 (.mov (.t 5)),
 .j 16 (.conv .u64 (.t 15)),
 .j 17 (.mov (.t 4)),
 .j 18 (.bin .mul (.z 8) (.t 17)),
 .j 19 (.sh true (.t 16) (.t 18)),
 .j 20 (.bin .or (.t 14) (.t 19)),
 .j 3 (.mov (.t 20))]
@[go_sem] def q35_6 : List AI := [
 .j 21 (.bin .add (.t 9) (.z 1)),
 .j 9 (.mov (.t 21))]
@[go_sem] def dump_reader_num_l0' : AC := .seq (.ops [q35_3]) (.seq (.cond (.t 10) (.skip) (.exit 0)) (.seq (.block 1 (.seq (.ops [q35_4]) (.ops [q35_5]))) (.ops [q35_6])))
def dump_reader_num_l0 : AC := dump_reader_num_l0'
theorem dump_reader_num_l0_eq : dump_reader_num_l0 = dump_reader_num_l0' := rfl
@[go_sem] def q35_7 : List AI := [
 .j 22 (.mov (.t 3)),
 .j 23 (.conv .i64 (.t 22)),
 .j 2 (.mov (.t 23))]
@[go_sem] def dump_reader_num_c : AC := .seq (.ops [q35_0]) (.seq (.ops [q35_1]) (.seq (.seq (.ops [q35_2]) (.block 0 (.loop dump_reader_num_l0))) (.seq (.ops [q35_7]) (.ret))))
theorem dump_reader_num_ok : compF Tryd.prog 35 = some (24, dump_reader_num_c, [.t 2]) := by kernel_rfl

@[go_sem] def q36_0 : List AI := [
 .j 2 (.mov (.c (.bool false)))]
@[go_sem] def q36_1 : List AI := [
 .j 4 (.mov (.t 0)),
 .j 5 (.callp 59 [(.t 4), (.z 1)]),
 .j 6 (.iaddr 1 (.t 5) (.z 0)),
 .j 7 (.load 1 false (.t 6)),
 .j 3 (.mov (.t 7))]
@[go_sem] def q36_2 : List AI := [
 .j 8 (.mov (.t 3)),
 .j 9 (.bin .gtr (.t 8) (.c (.int .u8 1)))]
@[go_sem] def q36_3 : List AI := [
 .j 10 (.mov (.t 0)),
 .j 11 (.callp 27 [(.t 10), (.z 4)])]
@[go_sem] def q36_4 : List AI := [
 .j 12 (.mov (.t 3)),
 .j 13 (.bin .eql (.t 12) (.c (.int .u8 1))),
 .j 2 (.mov (.t 13))]
@[go_sem] def dump_reader_truth_c : AC := .seq (.ops [q36_0]) (.seq (.ops [q36_1]) (.seq (.seq (.ops [q36_2]) (.cond (.t 9) (.ops [q36_3]) (.skip))) (.seq (.ops [q36_4]) (.ret))))
theorem dump_reader_truth_ok : compF Tryd.prog 36 = some (14, dump_reader_truth_c, [.t 2]) := by kernel_rfl

@[go_sem] def q37_0 : List AI := [
 .j 2 (.mov (.z 0))]
@[go_sem] def q37_1 : List AI := [
 .j 4 (.mov (.t 0)),
 .j 5 (.callp 35 [(.t 4)]),
 .j 3 (.mov (.t 5))]
@[go_sem] def q37_2 : List AI := [
 .j 7 (.mov (.t 3)),
 .j 8 (.bin .lss (.t 7) (.z 0)),
 .j 6 (.mov (.t 8))]
@[go_sem] def q37_3 : List AI := [
 .j 9 (.mov (.t 0)),
 .j 10 (.callp 27 [(.t 9), (.z 4)])]
@[go_sem] def q37_4 : List AI := [
 .j 12 (.mov (.t 3)),
 .j 13 (.mov (.t 0)),
 .j 14 (.nilck (.t 13)),
 .j 15 (.faddr 0 (.t 14)),
 .j 16 (.load 1 false (.t 15)),
 .j 17 (.len 0 (.t 16)),
 .j 18 (.bin .gtr (.t 12) (.t 17)),
 .j 11 (.mov (.t 18))]
@[go_sem] def q37_5 : List AI := [
 .j 19 (.mov (.t 0)),
 .j 20 (.callp 27 [(.t 19), (.z 5)])]
@[go_sem] def q37_6 : List AI := [
 .j 21 (.mov (.t 3)),
 .j 2 (.mov (.t 21))]
@[go_sem] def dump_reader_length_c : AC := .seq (.ops [q37_0]) (.seq (.ops [q37_1]) (.seq (.block 0 (.seq (.ops [q37_2]) (.cond (.t 6) (.ops [q37_3]) (.seq (.ops [q37_4]) (.cond (.t 11) (.ops [q37_5]) (.skip)))))) (.seq (.ops [q37_6]) (.ret))))
theorem dump_reader_length_ok : compF Tryd.prog 37 = some (22, dump_reader_length_c, [.t 2]) := by kernel_rfl

@[go_sem] def q38_0 : List AI := [
 .j 2 (.box 380002 5 (.c (.agg [(.int .i64 0), (.int .i64 0), (.int .i64 0), (.str []), (.int .i64 0)])))]
@[go_sem] def q38_1 : List AI := [
 .j 4 (.mov (.t 0)),
 .j 5 (.callp 59 [(.t 4), (.z 1)]),
 .j 6 (.iaddr 1 (.t 5) (.z 0)),
 .j 7 (.load 1 false (.t 6)),
 .j 8 (.conv .i64 (.t 7)),
 .j 9 (.build [(.int .i64 0), (.int .i64 0), (.int .i64 0), (.str []), (.int .i64 0)] [(0, 1, (.t 8))]),
 .j 3 (.box 380003 5 (.c (.agg [(.int .i64 0), (.int .i64 0), (.int .i64 0), (.str []), (.int .i64 0)]))),
 .e (.store 5 (.t 3) (.t 9))]
@[go_sem] def q38_2 : List AI := [
 .j 10 (.faddr 0 (.t 3)),
 .j 11 (.load 1 false (.t 10))]
@[go_sem] def q38_3 : List AI := [
 .j 15 (.bin .eql (.t 11) (.z 0)),
 .j 14 (.mov (.t 15))]
@[go_sem] def q38_4 : List AI := [
 .j 17 (.bin .eql (.t 11) (.z 1)),
 .j 16 (.mov (.t 17))]
@[go_sem] def q38_5 : List AI := [
 .j 18 (.mov (.t 0)),
 .j 19 (.callp 36 [(.t 18)])]
@[go_sem] def q38_6 : List AI := [
 .j 20 (.faddr 4 (.t 3)),
 .e (.store 1 (.t 20) (.z 1))]
@[go_sem] def q38_7 : List AI := [
 .j 22 (.bin .eql (.t 11) (.z 2)),
 .j 21 (.mov (.t 22))]
@[go_sem] def q38_8 : List AI := [
 .j 23 (.mov (.t 0)),
 .j 24 (.callp 35 [(.t 23)]),
 .j 25 (.faddr 1 (.t 3)),
 .j 26 (.faddr 0 (.t 25)),
 .e (.store 1 (.t 26) (.t 24))]
@[go_sem] def q38_9 : List AI := [
 .j 27 (.mov (.t 0)),
 .j 28 (.callp 35 [(.t 27)]),
 .j 29 (.faddr 1 (.t 3)),
 .j 30 (.faddr 1 (.t 29)),
 .e (.store 1 (.t 30) (.t 28))]
@[go_sem] def q38_10 : List AI := [
 .j 32 (.bin .eql (.t 11) (.z 3)),
 .j 31 (.mov (.t 32))]
@[go_sem] def q38_11 : List AI := [
 .j 33 (.mov (.t 0)),
 .j 34 (.callp 34 [(.t 33)]),
 .j 35 (.faddr 3 (.t 3)),
 .e (.store 1 (.t 35) (.t 34))]
@[go_sem] def q38_12 : List AI := [
 .j 12 (.mov (.t 0)),
 .j 13 (.callp 27 [(.t 12), (.z 4)])]
@[go_sem] def q38_13 : List AI := [
 .j 36 (.load 5 true (.t 3)),
 .e (.store 5 (.t 2) (.t 36))]
@[go_sem] def dump_reader_value_c : AC := .seq (.ops [q38_0]) (.seq (.ops [q38_1]) (.seq (.seq (.ops [q38_2]) (.block 0 (.seq (.ops [q38_3]) (.cond (.t 14) (.skip) (.seq (.ops [q38_4]) (.cond (.t 16) (.seq (.ops [q38_5]) (.cond (.t 19) (.ops [q38_6]) (.skip))) (.seq (.ops [q38_7]) (.cond (.t 21) (.seq (.ops [q38_8]) (.ops [q38_9])) (.seq (.ops [q38_10]) (.cond (.t 31) (.ops [q38_11]) (.ops [q38_12]))))))))))) (.seq (.ops [q38_13]) (.ret))))
theorem dump_reader_value_ok : compF Tryd.prog 38 = some (37, dump_reader_value_c, [.c 2 5 true]) := by kernel_rfl

@[go_sem] def q39_0 : List AI := [
 .j 2 (.mov (.c .nils))]
@[go_sem] def q39_1 : List AI := [
 .j 3 (.mov (.t 0)),
 .j 4 (.eqn false false (.t 3))]
@[go_sem] def q39_2 : List AI := [
 .j 2 (.mov (.c .nils))]
@[go_sem] def q39_3 : List AI := [
 .j 5 (.mkrow 390005 5 []),
 .j 6 (.mov (.t 0)),
 .j 7 (.apb 3518437208883 390007 5 (.t 5) (.t 6)),
 .j 2 (.mov (.t 7))]
@[go_sem] def slices_Clone_api_Instr_api_Instr_c : AC := .seq (.ops [q39_0]) (.seq (.seq (.ops [q39_1]) (.cond (.t 4) (.seq (.ops [q39_2]) (.ret)) (.skip))) (.seq (.ops [q39_3]) (.ret)))
theorem slices_Clone_api_Instr_api_Instr_ok : compF Tryd.prog 39 = some (8, slices_Clone_api_Instr_api_Instr_c, [.t 2]) := by kernel_rfl

@[go_sem] def q40_0 : List AI := [
 .j 2 (.mov (.c .nils))]
@[go_sem] def q40_1 : List AI := [
 .j 3 (.mov (.t 0)),
 .j 4 (.eqn false false (.t 3))]
@[go_sem] def q40_2 : List AI := [
 .j 2 (.mov (.c .nils))]
@[go_sem] def q40_3 : List AI := [
 .j 5 (.mkrow 400005 1 []),
 .j 6 (.mov (.t 0)),
 .j 7 (.apb 17592186044416 400007 1 (.t 5) (.t 6)),
 .j 2 (.mov (.t 7))]
@[go_sem] def slices_Clone_int_int_c : AC := .seq (.ops [q40_0]) (.seq (.seq (.ops [q40_1]) (.cond (.t 4) (.seq (.ops [q40_2]) (.ret)) (.skip))) (.seq (.ops [q40_3]) (.ret)))
theorem slices_Clone_int_int_ok : compF Tryd.prog 40 = some (8, slices_Clone_int_int_c, [.t 2]) := by kernel_rfl

@[go_sem] def q41_0 : List AI := [
 .j 2 (.mov (.c .nils))]
@[go_sem] def q41_1 : List AI := [
 .j 3 (.mov (.t 0)),
 .j 4 (.eqn false false (.t 3))]
@[go_sem] def q41_2 : List AI := [
 .j 2 (.mov (.c .nils))]
@[go_sem] def q41_3 : List AI := [
 .j 5 (.mkrow 410005 5 []),
 .j 6 (.mov (.t 0)),
 .j 7 (.apb 2932031007402 410007 5 (.t 5) (.t 6)),
 .j 2 (.mov (.t 7))]
@[go_sem] def slices_Clone_api_Value_api_Value_c : AC := .seq (.ops [q41_0]) (.seq (.seq (.ops [q41_1]) (.cond (.t 4) (.seq (.ops [q41_2]) (.ret)) (.skip))) (.seq (.ops [q41_3]) (.ret)))
theorem slices_Clone_api_Value_api_Value_ok : compF Tryd.prog 41 = some (8, slices_Clone_api_Value_api_Value_c, [.t 2]) := by kernel_rfl

@[go_sem] def q42_0 : List AI := [
 .j 2 (.mov (.c .nils))]
@[go_sem] def q42_1 : List AI := [
 .j 3 (.mov (.t 0)),
 .j 4 (.eqn false false (.t 3))]
@[go_sem] def q42_2 : List AI := [
 .j 2 (.mov (.c .nils))]
@[go_sem] def q42_3 : List AI := [
 .j 5 (.mkrow 420005 3 []),
 .j 6 (.mov (.t 0)),
 .j 7 (.apb 4398046511104 420007 3 (.t 5) (.t 6)),
 .j 2 (.mov (.t 7))]
@[go_sem] def slices_Clone_api_Up_api_Up_c : AC := .seq (.ops [q42_0]) (.seq (.seq (.ops [q42_1]) (.cond (.t 4) (.seq (.ops [q42_2]) (.ret)) (.skip))) (.seq (.ops [q42_3]) (.ret)))
theorem slices_Clone_api_Up_api_Up_ok : compF Tryd.prog 42 = some (8, slices_Clone_api_Up_api_Up_c, [.t 2]) := by kernel_rfl

@[go_sem] def q43_0 : List AI := [
 .j 2 (.mov (.c .nils))]
@[go_sem] def q43_1 : List AI := [
 .j 3 (.mov (.t 0)),
 .j 4 (.eqn false false (.t 3))]
@[go_sem] def q43_2 : List AI := [
 .j 2 (.mov (.c .nils))]
@[go_sem] def q43_3 : List AI := [
 .j 5 (.mkrow 430005 5 []),
 .j 6 (.mov (.t 0)),
 .j 7 (.apb 2932031007402 430007 5 (.t 5) (.t 6)),
 .j 2 (.mov (.t 7))]
@[go_sem] def slices_Clone_api_Var_api_Var_c : AC := .seq (.ops [q43_0]) (.seq (.seq (.ops [q43_1]) (.cond (.t 4) (.seq (.ops [q43_2]) (.ret)) (.skip))) (.seq (.ops [q43_3]) (.ret)))
theorem slices_Clone_api_Var_api_Var_ok : compF Tryd.prog 43 = some (8, slices_Clone_api_Var_api_Var_c, [.t 2]) := by kernel_rfl

@[go_sem] def q44_0 : List AI := [
 .j 2 (.mov (.c (.bool false)))]
@[go_sem] def q44_1 : List AI := [
 .j 3 (.mov (.t 0)),
 .j 4 (.len 1 (.t 3)),
 .j 5 (.bin .gtr (.t 4) (.z 40)),
 .j 2 (.mov (.t 5))]
@[go_sem] def proto_limits_1_c : AC := .seq (.ops [q44_0]) (.seq (.ops [q44_1]) (.ret))
theorem proto_limits_1_ok : compF Tryd.prog 44 = some (6, proto_limits_1_c, [.t 2]) := by kernel_rfl

@[go_sem] def q45_0 : List AI := [
 .j 4 (.mov (.c (.bool false)))]
@[go_sem] def q45_1 : List AI := [
 .j 5 (.mov (.t 0)),
 .j 6 (.mov (.t 1)),
 .j 7 (.call 60 [(.t 5), (.t 6)]),
 .j 8 (.bin .geq (.t 7) (.z 0)),
 .j 4 (.mov (.t 8))]
@[go_sem] def slices_ContainsFunc_api_Up_api_Up_c : AC := .seq (.ops [q45_0]) (.seq (.ops [q45_1]) (.ret))
theorem slices_ContainsFunc_api_Up_api_Up_ok : compF Tryd.prog 45 = some (9, slices_ContainsFunc_api_Up_api_Up_c, [.t 4]) := by kernel_rfl

@[go_sem] def q46_0 : List AI := [
 .j 2 (.box 460002 3 (.t 0)),
 .j 3 (.mov (.c (.bool false)))]
@[go_sem] def q46_1 : List AI := [
 .j 4 (.load 1 false (.t 1)),
 .j 5 (.faddr 0 (.t 2)),
 .j 6 (.load 1 false (.t 5)),
 .j 7 (.callv (.t 4) [(.t 6)]),
 .j 3 (.mov (.t 7))]
@[go_sem] def proto_limits_2_c : AC := .seq (.ops [q46_0]) (.seq (.ops [q46_1]) (.ret))
theorem proto_limits_2_ok : compF Tryd.prog 46 = some (8, proto_limits_2_c, [.t 3]) := by kernel_rfl

@[go_sem] def q47_0 : List AI := [
 .j 4 (.mov (.c (.bool false)))]
@[go_sem] def q47_1 : List AI := [
 .j 5 (.mov (.t 0)),
 .j 6 (.mov (.t 1)),
 .j 7 (.call 61 [(.t 5), (.t 6)]),
 .j 8 (.bin .geq (.t 7) (.z 0)),
 .j 4 (.mov (.t 8))]
@[go_sem] def slices_ContainsFunc_api_Var_api_Var_c : AC := .seq (.ops [q47_0]) (.seq (.ops [q47_1]) (.ret))
theorem slices_ContainsFunc_api_Var_api_Var_ok : compF Tryd.prog 47 = some (9, slices_ContainsFunc_api_Var_api_Var_c, [.t 4]) := by kernel_rfl

@[go_sem] def q48_0 : List AI := [
 .j 2 (.box 480002 5 (.t 0)),
 .j 3 (.mov (.c (.bool false)))]
@[go_sem] def q48_1 : List AI := [
 .j 4 (.load 1 false (.t 1)),
 .j 5 (.faddr 0 (.t 2)),
 .j 6 (.load 1 false (.t 5)),
 .j 7 (.callv (.t 4) [(.t 6)]),
 .j 3 (.mov (.t 7))]
@[go_sem] def proto_limits_3_c : AC := .seq (.ops [q48_0]) (.seq (.ops [q48_1]) (.ret))
theorem proto_limits_3_ok : compF Tryd.prog 48 = some (8, proto_limits_3_c, [.t 3]) := by kernel_rfl

@[go_sem] def q49_0 : List AI := [
 .j 4 (.mov (.c (.bool false)))]
@[go_sem] def q49_1 : List AI := [
 .j 5 (.mov (.t 0)),
 .j 6 (.mov (.t 1)),
 .j 7 (.call 62 [(.t 5), (.t 6)]),
 .j 8 (.bin .geq (.t 7) (.z 0)),
 .j 4 (.mov (.t 8))]
@[go_sem] def slices_ContainsFunc_int_int_c : AC := .seq (.ops [q49_0]) (.seq (.ops [q49_1]) (.ret))
theorem slices_ContainsFunc_int_int_ok : compF Tryd.prog 49 = some (9, slices_ContainsFunc_int_int_c, [.t 4]) := by kernel_rfl

@[go_sem] def q50_0 : List AI := [
 .j 2 (.mov (.c (.bool false)))]
@[go_sem] def q50_1 : List AI := [
 .j 3 (.mov (.t 0)),
 .j 4 (.bin .lss (.t 3) (.z 0)),
 .j 2 (.mov (.t 4))]
@[go_sem] def proto_form_1_c : AC := .seq (.ops [q50_0]) (.seq (.ops [q50_1]) (.ret))
theorem proto_form_1_ok : compF Tryd.prog 50 = some (5, proto_form_1_c, [.t 2]) := by kernel_rfl

@[go_sem] def q51_0 : List AI := [
 .j 1 (.box 510001 3 (.t 0)),
 .j 2 (.mov (.c (.bool false)))]
@[go_sem] def q51_1 : List AI := [
 .j 3 (.faddr 2 (.t 1)),
 .j 4 (.load 1 false (.t 3)),
 .j 5 (.bin .lss (.t 4) (.z 0)),
 .j 2 (.mov (.t 5))]
@[go_sem] def proto_form_2_c : AC := .seq (.ops [q51_0]) (.seq (.ops [q51_1]) (.ret))
theorem proto_form_2_ok : compF Tryd.prog 51 = some (6, proto_form_2_c, [.t 2]) := by kernel_rfl

@[go_sem] def q52_0 : List AI := [
 .j 1 (.box 520001 5 (.t 0)),
 .j 2 (.mov (.c (.bool false)))]
@[go_sem] def q52_1 : List AI := [
 .j 5 (.faddr 0 (.t 1)),
 .j 6 (.load 1 false (.t 5)),
 .j 7 (.build [(.int .i64 0), (.int .i64 0), (.int .i64 0), (.str []), (.int .i64 0)] [(0, 1, (.t 6))]),
 .j 3 (.box 520003 5 (.c (.agg [(.int .i64 0), (.int .i64 0), (.int .i64 0), (.str []), (.int .i64 0)]))),
 .e (.store 5 (.t 3) (.t 7))]
@[go_sem] def q52_2 : List AI := [
 .j 4 (.mov (.c (.bool true)))]
@[go_sem] def q52_3 : List AI := [
 .j 8 (.faddr 0 (.t 1)),
 .j 9 (.load 1 false (.t 8))]
@[go_sem] def q52_4 : List AI := [
 .j 11 (.bin .eql (.t 9) (.z 0)),
 .j 10 (.mov (.t 11))]
@[go_sem] def q52_5 : List AI := [
 .j 13 (.bin .eql (.t 9) (.z 1)),
 .j 12 (.mov (.t 13))]
@[go_sem] def q52_6 : List AI := [
 .j 14 (.faddr 4 (.t 1)),
 .j 15 (.load 1 false (.t 14)),
 .j 16 (.faddr 4 (.t 3)),
 .e (.store 1 (.t 16) (.t 15))]
@[go_sem] def q52_7 : List AI := [
 .j 17 (.faddr 4 (.t 1)),
 .j 18 (.load 1 false (.t 17)),
 .j 19 (.bin .eql (.t 18) (.z 0)),
 .j 20 (.mov (.t 19)),
 .k 21 20 false (.faddr 4 (.t 1)),
 .k 22 20 false (.load 1 false (.t 21)),
 .k 23 20 false (.bin .eql (.t 22) (.z 1)),
 .j 24 (.pick (.t 20) (.c (.bool true)) (.t 23)),
 .j 4 (.mov (.t 24))]
@[go_sem] def q52_8 : List AI := [
 .j 26 (.bin .eql (.t 9) (.z 2)),
 .j 25 (.mov (.t 26))]
@[go_sem] def q52_9 : List AI := [
 .j 27 (.faddr 1 (.t 1)),
 .j 28 (.load 2 true (.t 27)),
 .j 29 (.faddr 1 (.t 3)),
 .e (.store 2 (.t 29) (.t 28))]
@[go_sem] def q52_10 : List AI := [
 .j 30 (.faddr 1 (.t 1)),
 .j 31 (.load 2 true (.t 30)),
 .j 32 (.call 63 [(.t 31)]),
 .j 4 (.mov (.t 32))]
@[go_sem] def q52_11 : List AI := [
 .j 34 (.bin .eql (.t 9) (.z 3)),
 .j 33 (.mov (.t 34))]
@[go_sem] def q52_12 : List AI := [
 .j 35 (.faddr 3 (.t 1)),
 .j 36 (.load 1 false (.t 35)),
 .j 37 (.faddr 3 (.t 3)),
 .e (.store 1 (.t 37) (.t 36))]
@[go_sem] def q52_13 : List AI := [
 .j 38 (.faddr 3 (.t 1)),
 .j 39 (.load 1 false (.t 38)),
 .j 40 (.len 1 (.t 39)),
 .j 41 (.bin .leq (.t 40) (.z 4096)),
 .j 4 (.mov (.t 41))]
@[go_sem] def q52_14 : List AI := [
 .j 43 (.bin .eql (.t 9) (.z 4)),
 .j 42 (.mov (.t 43))]
@[go_sem] def q52_15 : List AI := [
 .j 44 (.bin .eql (.t 9) (.z 5)),
 .j 42 (.mov (.t 44))]
@[go_sem] def q52_16 : List AI := [
 .j 45 (.bin .eql (.t 9) (.z 7)),
 .j 42 (.mov (.t 45))]
@[go_sem] def q52_17 : List AI := [
 .j 46 (.bin .eql (.t 9) (.z 8)),
 .j 42 (.mov (.t 46))]
@[go_sem] def q52_18 : List AI := [
 .j 47 (.faddr 4 (.t 1)),
 .j 48 (.load 1 false (.t 47)),
 .j 49 (.faddr 4 (.t 3)),
 .e (.store 1 (.t 49) (.t 48))]
@[go_sem] def q52_19 : List AI := [
 .j 50 (.faddr 4 (.t 1)),
 .j 51 (.load 1 false (.t 50)),
 .j 52 (.bin .geq (.t 51) (.z 1)),
 .j 4 (.mov (.t 52))]
@[go_sem] def q52_20 : List AI := [
 .j 54 (.bin .eql (.t 9) (.z 6)),
 .j 53 (.mov (.t 54))]
@[go_sem] def q52_21 : List AI := [
 .j 55 (.faddr 3 (.t 1)),
 .j 56 (.load 1 false (.t 55)),
 .j 57 (.faddr 3 (.t 3)),
 .e (.store 1 (.t 57) (.t 56))]
@[go_sem] def q52_22 : List AI := [
 .j 58 (.faddr 3 (.t 1)),
 .j 59 (.load 1 false (.t 58)),
 .j 60 (.len 1 (.t 59)),
 .j 61 (.bin .geq (.t 60) (.z 1)),
 .j 62 (.mov (.t 61)),
 .k 63 62 true (.faddr 3 (.t 1)),
 .k 64 62 true (.load 1 false (.t 63)),
 .k 65 62 true (.len 1 (.t 64)),
 .k 66 62 true (.bin .leq (.t 65) (.z 4096)),
 .j 67 (.pick (.t 62) (.t 66) (.c (.bool false))),
 .j 4 (.mov (.t 67))]
@[go_sem] def q52_23 : List AI := [
 .j 4 (.mov (.c (.bool false)))]
@[go_sem] def q52_24 : List AI := [
 .j 68 (.mov (.t 4)),
 .j 69 (.mov (.t 68)),
 .k 70 69 true (.load 5 true (.t 1)),
 .k 71 69 true (.load 5 true (.t 3)),
 .k 72 69 true (.eqa false (.agg [(0, 1, (.leaf 1)), (1, 2, (.agg [(0, 1, (.leaf 1)), (1, 1, (.leaf 1))])), (3, 1, (.leaf 2)), (4, 1, (.leaf 1))]) (.t 70) (.t 71)),
 .j 73 (.pick (.t 69) (.t 72) (.c (.bool false))),
 .j 2 (.mov (.t 73))]
@[go_sem] def value_Valid_c : AC := .seq (.ops [q52_0]) (.seq (.ops [q52_1]) (.seq (.ops [q52_2]) (.seq (.seq (.ops [q52_3]) (.block 0 (.seq (.ops [q52_4]) (.cond (.t 10) (.skip) (.seq (.ops [q52_5]) (.cond (.t 12) (.seq (.ops [q52_6]) (.ops [q52_7])) (.seq (.ops [q52_8]) (.cond (.t 25) (.seq (.ops [q52_9]) (.ops [q52_10])) (.seq (.ops [q52_11]) (.cond (.t 33) (.seq (.ops [q52_12]) (.ops [q52_13])) (.seq (.seq (.ops [q52_14]) (.cond (.t 42) (.skip) (.seq (.ops [q52_15]) (.cond (.t 42) (.skip) (.seq (.ops [q52_16]) (.cond (.t 42) (.skip) (.ops [q52_17]))))))) (.cond (.t 42) (.seq (.ops [q52_18]) (.ops [q52_19])) (.seq (.ops [q52_20]) (.cond (.t 53) (.seq (.ops [q52_21]) (.ops [q52_22])) (.ops [q52_23]))))))))))))))) (.seq (.ops [q52_24]) (.ret)))))
theorem value_Valid_ok : compF Tryd.prog 52 = some (74, value_Valid_c, [.t 2]) := by kernel_rfl

@[go_sem] def q53_0 : List AI := [
 .j 1 (.box 530001 5 (.t 0)),
 .j 2 (.mov (.z 0))]
@[go_sem] def q53_1 : List AI := [
 .j 14 (.faddr 0 (.t 1)),
 .j 15 (.load 1 false (.t 14)),
 .j 16 (.call 64 [(.t 15)]),
 .j 13 (.mov (.t 16)),
 .j 17 (.ext 0 (.t 13)),
 .j 18 (.ext 1 (.t 13)),
 .j 3 (.box 530003 6 (.c (.agg [(.str []), (.int .i64 0), (.int .i64 0), (.int .i64 0), (.int .i64 0), (.int .i64 0)]))),
 .e (.store 6 (.t 3) (.t 17)),
 .j 4 (.mov (.t 18))]
@[go_sem] def q53_2 : List AI := [
 .j 19 (.mov (.t 4)),
 .j 20 (.un .not (.t 19))]
@[go_sem] def q53_3 : List AI := [
 .j 2 (.mov (.z 4))]
@[go_sem] def q53_4 : List AI := [
 .j 22 (.load 6 true (.t 3)),
 .j 23 (.load 5 true (.t 1)),
 .j 24 (.call 65 [(.t 22), (.t 23)]),
 .j 21 (.mov (.t 24)),
 .j 25 (.ext 0 (.t 21)),
 .j 26 (.ext 1 (.t 21)),
 .j 5 (.box 530005 4 (.c (.agg [(.int .i64 0), (.int .i64 0), (.int .i64 0), (.int .i64 0)]))),
 .j 6 (.box 530006 4 (.c (.agg [(.int .i64 0), (.int .i64 0), (.int .i64 0), (.int .i64 0)]))),
 .e (.store 4 (.t 5) (.t 25)),
 .e (.store 4 (.t 6) (.t 26))]
@[go_sem] def q53_5 : List AI := [
 .j 27 (.load 4 true (.t 5)),
 .j 28 (.mov (.z 0))]
@[go_sem] def q53_6 : List AI := [
 .j 29 (.bin .lss (.t 28) (.z 4))]
@[go_sem] def q53_7 : List AI := [
 .j 30 (.mov (.t 28)),
 .j 31 (.idxA 4 1 1 false (.t 27) (.t 28)),
 .j 7 (.mov (.t 30)),
 .j 8 (.mov (.t 31))]
@[go_sem] def q53_8 : List AI := [
 .j 32 (.mov (.t 8)),
 .j 33 (.bin .eql (.t 32) (.z 0)),
 .j 34 (.mov (.t 33)),
 .k 35 34 true (.mov (.t 7)),
 .k 36 34 true (.iaddrA 4 1 (.t 6) (.t 35)),
 .k 37 34 true (.load 1 false (.t 36)),
 .k 38 34 true (.bin .neq (.t 37) (.z 0)),
 .j 39 (.pick (.t 34) (.t 38) (.c (.bool false)))]
@[go_sem] def q53_9 : List AI := [
 .j 2 (.mov (.z 4))]
@[go_sem] def q53_10 : List AI := [
 .j 40 (.bin .add (.t 28) (.z 1)),
 .j 28 (.mov (.t 40))]
@[go_sem] def opcode_Check_l0' : AC := .seq (.ops [q53_6]) (.seq (.cond (.t 29) (.skip) (.exit 0)) (.seq (.block 1 (.seq (.ops [q53_7]) (.seq (.ops [q53_8]) (.cond (.t 39) (.seq (.ops [q53_9]) (.ret)) (.skip))))) (.ops [q53_10])))
def opcode_Check_l0 : AC := opcode_Check_l0'
theorem opcode_Check_l0_eq : opcode_Check_l0 = opcode_Check_l0' := rfl
@[go_sem] def q53_11 : List AI := [
 .j 41 (.load 4 true (.t 5)),
 .j 42 (.mov (.z 0))]
@[go_sem] def q53_12 : List AI := [
 .j 43 (.bin .lss (.t 42) (.z 4))]
@[go_sem] def q53_13 : List AI := [
 .j 44 (.mov (.t 42)),
 .j 45 (.idxA 4 1 1 false (.t 41) (.t 42)),
 .j 9 (.mov (.t 44)),
 .j 10 (.mov (.t 45))]
@[go_sem] def q53_14 : List AI := [
 .j 47 (.mov (.t 10)),
 .j 48 (.call 66 [(.t 47)]),
 .j 46 (.mov (.t 48)),
 .j 49 (.ext 0 (.t 46)),
 .j 50 (.ext 1 (.t 46)),
 .j 11 (.mov (.t 49)),
 .j 12 (.mov (.t 50))]
@[go_sem] def q53_15 : List AI := [
 .j 51 (.mov (.t 9)),
 .j 52 (.iaddrA 4 1 (.t 6) (.t 51)),
 .j 53 (.load 1 false (.t 52)),
 .j 54 (.mov (.t 11)),
 .j 55 (.bin .lss (.t 53) (.t 54)),
 .j 56 (.mov (.t 55)),
 .k 57 56 false (.mov (.t 9)),
 .k 58 56 false (.iaddrA 4 1 (.t 6) (.t 57)),
 .k 59 56 false (.load 1 false (.t 58)),
 .k 60 56 false (.mov (.t 12)),
 .k 61 56 false (.bin .gtr (.t 59) (.t 60)),
 .j 62 (.pick (.t 56) (.c (.bool true)) (.t 61))]
@[go_sem] def q53_16 : List AI := [
 .j 2 (.mov (.z 6))]
@[go_sem] def q53_17 : List AI := [
 .j 63 (.bin .add (.t 42) (.z 1)),
 .j 42 (.mov (.t 63))]
@[go_sem] def opcode_Check_l1' : AC := .seq (.ops [q53_12]) (.seq (.cond (.t 43) (.skip) (.exit 2)) (.seq (.block 3 (.seq (.ops [q53_13]) (.seq (.ops [q53_14]) (.seq (.ops [q53_15]) (.cond (.t 62) (.seq (.ops [q53_16]) (.ret)) (.skip)))))) (.ops [q53_17])))
def opcode_Check_l1 : AC := opcode_Check_l1'
theorem opcode_Check_l1_eq : opcode_Check_l1 = opcode_Check_l1' := rfl
@[go_sem] def q53_18 : List AI := [
 .j 64 (.faddr 1 (.t 3)),
 .j 65 (.load 1 false (.t 64)),
 .j 66 (.bin .eql (.t 65) (.z 1)),
 .j 67 (.mov (.t 66)),
 .k 68 67 true (.load 6 true (.t 3)),
 .k 69 67 true (.load 5 true (.t 1)),
 .k 70 67 true (.call 67 [(.t 68), (.t 69)]),
 .k 71 67 true (.bin .geq (.t 70) (.z 4096)),
 .j 72 (.pick (.t 67) (.t 71) (.c (.bool false))),
 .j 73 (.mov (.t 72)),
 .k 74 73 false (.faddr 0 (.t 1)),
 .k 75 73 false (.load 1 false (.t 74)),
 .k 76 73 false (.bin .eql (.t 75) (.z 3)),
 .k 77 73 false (.mov (.t 76)),
 .k 78 77 true (.faddr 2 (.t 1)),
 .k 79 77 true (.load 1 false (.t 78)),
 .k 80 77 true (.faddr 1 (.t 1)),
 .k 81 77 true (.load 1 false (.t 80)),
 .k 82 77 true (.bin .lss (.t 79) (.t 81)),
 .k 83 73 false (.pick (.t 77) (.t 82) (.c (.bool false))),
 .j 84 (.pick (.t 73) (.c (.bool true)) (.t 83))]
@[go_sem] def q53_19 : List AI := [
 .j 2 (.mov (.z 6))]
@[go_sem] def q53_20 : List AI := [
 .j 2 (.mov (.z 0))]
@[go_sem] def opcode_Check_c : AC := .seq (.ops [q53_0]) (.seq (.ops [q53_1]) (.seq (.seq (.ops [q53_2]) (.cond (.t 20) (.seq (.ops [q53_3]) (.ret)) (.skip))) (.seq (.ops [q53_4]) (.seq (.seq (.ops [q53_5]) (.block 0 (.loop opcode_Check_l0))) (.seq (.seq (.ops [q53_11]) (.block 2 (.loop opcode_Check_l1))) (.seq (.seq (.ops [q53_18]) (.cond (.t 84) (.seq (.ops [q53_19]) (.ret)) (.skip))) (.seq (.ops [q53_20]) (.ret))))))))
theorem opcode_Check_ok : compF Tryd.prog 53 = some (85, opcode_Check_c, [.t 2]) := by kernel_rfl

@[go_sem] def q54_0 : List AI := [
 .j 1 (.box 540001 5 (.t 0)),
 .j 2 (.mov (.c .nils)),
 .j 3 (.mov (.z 0))]
@[go_sem] def q54_1 : List AI := [
 .j 6 (.load 5 true (.t 1)),
 .j 7 (.call 53 [(.t 6)]),
 .j 8 (.bin .neq (.t 7) (.z 0))]
@[go_sem] def q54_2 : List AI := [
 .j 2 (.mov (.c .nils)),
 .j 3 (.mov (.z (-1)))]
@[go_sem] def q54_3 : List AI := [
 .j 9 (.faddr 0 (.t 1)),
 .j 10 (.load 1 false (.t 9))]
@[go_sem] def q54_4 : List AI := [
 .j 12 (.bin .eql (.t 10) (.z 1)),
 .j 11 (.mov (.t 12))]
@[go_sem] def q54_5 : List AI := [
 .j 13 (.bin .eql (.t 10) (.z 6)),
 .j 11 (.mov (.t 13))]
@[go_sem] def q54_6 : List AI := [
 .j 14 (.bin .eql (.t 10) (.z 8)),
 .j 11 (.mov (.t 14))]
@[go_sem] def q54_7 : List AI := [
 .j 15 (.bin .eql (.t 10) (.z 11)),
 .j 11 (.mov (.t 15))]
@[go_sem] def q54_8 : List AI := [
 .j 16 (.bin .eql (.t 10) (.z 12)),
 .j 11 (.mov (.t 16))]
@[go_sem] def q54_9 : List AI := [
 .j 17 (.faddr 2 (.t 1)),
 .j 18 (.load 1 false (.t 17)),
 .j 19 (.mkrow 540019 1 [(.t 18)]),
 .j 2 (.mov (.t 19)),
 .j 3 (.mov (.z (-1)))]
@[go_sem] def q54_10 : List AI := [
 .j 21 (.bin .eql (.t 10) (.z 9)),
 .j 20 (.mov (.t 21))]
@[go_sem] def q54_11 : List AI := [
 .j 22 (.bin .eql (.t 10) (.z 13)),
 .j 20 (.mov (.t 22))]
@[go_sem] def q54_12 : List AI := [
 .j 23 (.faddr 2 (.t 1)),
 .j 24 (.load 1 false (.t 23)),
 .j 25 (.faddr 3 (.t 1)),
 .j 26 (.load 1 false (.t 25)),
 .j 27 (.mkrow 540027 1 [(.t 24), (.t 26)]),
 .j 28 (.call 68 [(.t 27)]),
 .j 2 (.mov (.t 28)),
 .j 3 (.mov (.z (-1)))]
@[go_sem] def q54_13 : List AI := [
 .j 30 (.bin .eql (.t 10) (.z 10)),
 .j 29 (.mov (.t 30))]
@[go_sem] def q54_14 : List AI := [
 .j 31 (.faddr 1 (.t 1)),
 .j 32 (.load 1 false (.t 31)),
 .j 33 (.faddr 2 (.t 1)),
 .j 34 (.load 1 false (.t 33)),
 .j 35 (.faddr 3 (.t 1)),
 .j 36 (.load 1 false (.t 35)),
 .j 37 (.mkrow 540037 1 [(.t 32), (.t 34), (.t 36)]),
 .j 38 (.call 68 [(.t 37)]),
 .j 2 (.mov (.t 38)),
 .j 3 (.mov (.z (-1)))]
@[go_sem] def q54_15 : List AI := [
 .j 40 (.bin .eql (.t 10) (.z 15)),
 .j 39 (.mov (.t 40))]
@[go_sem] def q54_16 : List AI := [
 .j 41 (.bin .eql (.t 10) (.z 28)),
 .j 39 (.mov (.t 41))]
@[go_sem] def q54_17 : List AI := [
 .j 42 (.faddr 1 (.t 1)),
 .j 43 (.load 1 false (.t 42)),
 .j 44 (.mkrow 540044 1 [(.t 43)]),
 .j 2 (.mov (.t 44)),
 .j 3 (.mov (.z (-1)))]
@[go_sem] def q54_18 : List AI := [
 .j 46 (.bin .eql (.t 10) (.z 16)),
 .j 45 (.mov (.t 46))]
@[go_sem] def q54_19 : List AI := [
 .j 47 (.bin .eql (.t 10) (.z 17)),
 .j 45 (.mov (.t 47))]
@[go_sem] def q54_20 : List AI := [
 .j 48 (.bin .eql (.t 10) (.z 21)),
 .j 45 (.mov (.t 48))]
@[go_sem] def q54_21 : List AI := [
 .j 50 (.faddr 1 (.t 1)),
 .j 51 (.load 1 false (.t 50)),
 .j 52 (.bin .add (.t 51) (.z 1)),
 .j 53 (.faddr 2 (.t 1)),
 .j 54 (.load 1 false (.t 53)),
 .j 55 (.call 69 [(.t 52), (.t 54)]),
 .j 49 (.mov (.t 55)),
 .j 56 (.ext 0 (.t 49)),
 .j 57 (.ext 1 (.t 49)),
 .j 4 (.mov (.t 56)),
 .j 5 (.mov (.t 57))]
@[go_sem] def q54_22 : List AI := [
 .j 58 (.faddr 1 (.t 1)),
 .j 59 (.load 1 false (.t 58)),
 .j 60 (.mkrow 540060 1 [(.t 59)]),
 .j 61 (.mov (.t 4)),
 .j 62 (.app 540062 1 (.t 60) (.t 61)),
 .j 63 (.mov (.t 5)),
 .j 2 (.mov (.t 62)),
 .j 3 (.mov (.t 63))]
@[go_sem] def q54_23 : List AI := [
 .j 65 (.bin .eql (.t 10) (.z 18)),
 .j 64 (.mov (.t 65))]
@[go_sem] def q54_24 : List AI := [
 .j 66 (.faddr 1 (.t 1)),
 .j 67 (.load 1 false (.t 66)),
 .j 68 (.faddr 2 (.t 1)),
 .j 69 (.load 1 false (.t 68)),
 .j 70 (.call 69 [(.t 67), (.t 69)]),
 .j 71 (.ext 0 (.t 70)),
 .j 72 (.ext 1 (.t 70)),
 .j 2 (.mov (.t 71)),
 .j 3 (.mov (.t 72))]
@[go_sem] def q54_25 : List AI := [
 .j 74 (.bin .eql (.t 10) (.z 23)),
 .j 73 (.mov (.t 74))]
@[go_sem] def q54_26 : List AI := [
 .j 75 (.bin .eql (.t 10) (.z 24)),
 .j 73 (.mov (.t 75))]
@[go_sem] def q54_27 : List AI := [
 .j 76 (.bin .eql (.t 10) (.z 25)),
 .j 73 (.mov (.t 76))]
@[go_sem] def q54_28 : List AI := [
 .j 77 (.faddr 1 (.t 1)),
 .j 78 (.load 1 false (.t 77)),
 .j 79 (.call 69 [(.t 78), (.z 3)]),
 .j 80 (.ext 0 (.t 79)),
 .j 81 (.ext 1 (.t 79)),
 .j 2 (.mov (.t 80)),
 .j 3 (.mov (.t 81))]
@[go_sem] def q54_29 : List AI := [
 .j 83 (.bin .eql (.t 10) (.z 26)),
 .j 82 (.mov (.t 83))]
@[go_sem] def q54_30 : List AI := [
 .j 84 (.faddr 1 (.t 1)),
 .j 85 (.load 1 false (.t 84)),
 .j 86 (.bin .add (.t 85) (.z 3)),
 .j 87 (.mkrow 540087 1 [(.t 86)]),
 .j 2 (.mov (.t 87)),
 .j 3 (.mov (.z (-1)))]
@[go_sem] def q54_31 : List AI := [
 .j 2 (.mov (.c .nils)),
 .j 3 (.mov (.z (-1)))]
@[go_sem] def opcode_Reads_c : AC := .seq (.ops [q54_0]) (.seq (.seq (.ops [q54_1]) (.cond (.t 8) (.seq (.ops [q54_2]) (.ret)) (.skip))) (.seq (.seq (.ops [q54_3]) (.block 0 (.seq (.seq (.ops [q54_4]) (.cond (.t 11) (.skip) (.seq (.ops [q54_5]) (.cond (.t 11) (.skip) (.seq (.ops [q54_6]) (.cond (.t 11) (.skip) (.seq (.ops [q54_7]) (.cond (.t 11) (.skip) (.ops [q54_8]))))))))) (.cond (.t 11) (.seq (.ops [q54_9]) (.ret)) (.seq (.seq (.ops [q54_10]) (.cond (.t 20) (.skip) (.ops [q54_11]))) (.cond (.t 20) (.seq (.ops [q54_12]) (.ret)) (.seq (.ops [q54_13]) (.cond (.t 29) (.seq (.ops [q54_14]) (.ret)) (.seq (.seq (.ops [q54_15]) (.cond (.t 39) (.skip) (.ops [q54_16]))) (.cond (.t 39) (.seq (.ops [q54_17]) (.ret)) (.seq (.seq (.ops [q54_18]) (.cond (.t 45) (.skip) (.seq (.ops [q54_19]) (.cond (.t 45) (.skip) (.ops [q54_20]))))) (.cond (.t 45) (.seq (.ops [q54_21]) (.seq (.ops [q54_22]) (.ret))) (.seq (.ops [q54_23]) (.cond (.t 64) (.seq (.ops [q54_24]) (.ret)) (.seq (.seq (.ops [q54_25]) (.cond (.t 73) (.skip) (.seq (.ops [q54_26]) (.cond (.t 73) (.skip) (.ops [q54_27]))))) (.cond (.t 73) (.seq (.ops [q54_28]) (.ret)) (.seq (.ops [q54_29]) (.cond (.t 82) (.seq (.ops [q54_30]) (.ret)) (.skip))))))))))))))))))) (.seq (.ops [q54_31]) (.ret))))
theorem opcode_Reads_ok : compF Tryd.prog 54 = some (88, opcode_Reads_c, [.t 2, .t 3]) := by kernel_rfl

@[go_sem] def q55_0 : List AI := [
 .j 1 (.box 550001 5 (.t 0)),
 .j 2 (.mov (.c .nils)),
 .j 3 (.mov (.z 0))]
@[go_sem] def q55_1 : List AI := [
 .j 4 (.load 5 true (.t 1)),
 .j 5 (.call 53 [(.t 4)]),
 .j 6 (.bin .neq (.t 5) (.z 0))]
@[go_sem] def q55_2 : List AI := [
 .j 2 (.mov (.c .nils)),
 .j 3 (.mov (.z (-1)))]
@[go_sem] def q55_3 : List AI := [
 .j 7 (.faddr 0 (.t 1)),
 .j 8 (.load 1 false (.t 7))]
@[go_sem] def q55_4 : List AI := [
 .j 10 (.bin .eql (.t 8) (.z 1)),
 .j 9 (.mov (.t 10))]
@[go_sem] def q55_5 : List AI := [
 .j 11 (.bin .eql (.t 8) (.z 2)),
 .j 9 (.mov (.t 11))]
@[go_sem] def q55_6 : List AI := [
 .j 12 (.bin .eql (.t 8) (.z 4)),
 .j 9 (.mov (.t 12))]
@[go_sem] def q55_7 : List AI := [
 .j 13 (.bin .eql (.t 8) (.z 5)),
 .j 9 (.mov (.t 13))]
@[go_sem] def q55_8 : List AI := [
 .j 14 (.bin .eql (.t 8) (.z 7)),
 .j 9 (.mov (.t 14))]
@[go_sem] def q55_9 : List AI := [
 .j 15 (.bin .eql (.t 8) (.z 9)),
 .j 9 (.mov (.t 15))]
@[go_sem] def q55_10 : List AI := [
 .j 16 (.bin .eql (.t 8) (.z 12)),
 .j 9 (.mov (.t 16))]
@[go_sem] def q55_11 : List AI := [
 .j 17 (.bin .eql (.t 8) (.z 13)),
 .j 9 (.mov (.t 17))]
@[go_sem] def q55_12 : List AI := [
 .j 18 (.bin .eql (.t 8) (.z 20)),
 .j 9 (.mov (.t 18))]
@[go_sem] def q55_13 : List AI := [
 .j 19 (.bin .eql (.t 8) (.z 22)),
 .j 9 (.mov (.t 19))]
@[go_sem] def q55_14 : List AI := [
 .j 20 (.faddr 1 (.t 1)),
 .j 21 (.load 1 false (.t 20)),
 .j 22 (.mkrow 550022 1 [(.t 21)]),
 .j 2 (.mov (.t 22)),
 .j 3 (.mov (.z (-1)))]
@[go_sem] def q55_15 : List AI := [
 .j 24 (.bin .eql (.t 8) (.z 3)),
 .j 23 (.mov (.t 24))]
@[go_sem] def q55_16 : List AI := [
 .j 25 (.faddr 1 (.t 1)),
 .j 26 (.load 1 false (.t 25)),
 .j 27 (.faddr 2 (.t 1)),
 .j 28 (.load 1 false (.t 27)),
 .j 29 (.faddr 1 (.t 1)),
 .j 30 (.load 1 false (.t 29)),
 .j 31 (.bin .sub (.t 28) (.t 30)),
 .j 32 (.bin .add (.t 31) (.z 1)),
 .j 33 (.call 69 [(.t 26), (.t 32)]),
 .j 34 (.ext 0 (.t 33)),
 .j 35 (.ext 1 (.t 33)),
 .j 2 (.mov (.t 34)),
 .j 3 (.mov (.t 35))]
@[go_sem] def q55_17 : List AI := [
 .j 37 (.bin .eql (.t 8) (.z 11)),
 .j 36 (.mov (.t 37))]
@[go_sem] def q55_18 : List AI := [
 .j 38 (.faddr 1 (.t 1)),
 .j 39 (.load 1 false (.t 38)),
 .j 40 (.faddr 1 (.t 1)),
 .j 41 (.load 1 false (.t 40)),
 .j 42 (.bin .add (.t 41) (.z 1)),
 .j 43 (.mkrow 550043 1 [(.t 39), (.t 42)]),
 .j 2 (.mov (.t 43)),
 .j 3 (.mov (.z (-1)))]
@[go_sem] def q55_19 : List AI := [
 .j 45 (.bin .eql (.t 8) (.z 16)),
 .j 44 (.mov (.t 45))]
@[go_sem] def q55_20 : List AI := [
 .j 46 (.faddr 1 (.t 1)),
 .j 47 (.load 1 false (.t 46)),
 .j 48 (.faddr 3 (.t 1)),
 .j 49 (.load 1 false (.t 48)),
 .j 50 (.call 69 [(.t 47), (.t 49)]),
 .j 51 (.ext 0 (.t 50)),
 .j 52 (.ext 1 (.t 50)),
 .j 2 (.mov (.t 51)),
 .j 3 (.mov (.t 52))]
@[go_sem] def q55_21 : List AI := [
 .j 54 (.bin .eql (.t 8) (.z 19)),
 .j 53 (.mov (.t 54))]
@[go_sem] def q55_22 : List AI := [
 .j 55 (.faddr 1 (.t 1)),
 .j 56 (.load 1 false (.t 55)),
 .j 57 (.faddr 2 (.t 1)),
 .j 58 (.load 1 false (.t 57)),
 .j 59 (.call 69 [(.t 56), (.t 58)]),
 .j 60 (.ext 0 (.t 59)),
 .j 61 (.ext 1 (.t 59)),
 .j 2 (.mov (.t 60)),
 .j 3 (.mov (.t 61))]
@[go_sem] def q55_23 : List AI := [
 .j 63 (.bin .eql (.t 8) (.z 23)),
 .j 62 (.mov (.t 63))]
@[go_sem] def q55_24 : List AI := [
 .j 64 (.faddr 1 (.t 1)),
 .j 65 (.load 1 false (.t 64)),
 .j 66 (.bin .add (.t 65) (.z 3)),
 .j 67 (.mkrow 550067 1 [(.t 66)]),
 .j 2 (.mov (.t 67)),
 .j 3 (.mov (.z (-1)))]
@[go_sem] def q55_25 : List AI := [
 .j 69 (.bin .eql (.t 8) (.z 24)),
 .j 68 (.mov (.t 69))]
@[go_sem] def q55_26 : List AI := [
 .j 70 (.faddr 1 (.t 1)),
 .j 71 (.load 1 false (.t 70)),
 .j 72 (.faddr 1 (.t 1)),
 .j 73 (.load 1 false (.t 72)),
 .j 74 (.bin .add (.t 73) (.z 3)),
 .j 75 (.mkrow 550075 1 [(.t 71), (.t 74)]),
 .j 2 (.mov (.t 75)),
 .j 3 (.mov (.z (-1)))]
@[go_sem] def q55_27 : List AI := [
 .j 77 (.bin .eql (.t 8) (.z 25)),
 .j 76 (.mov (.t 77))]
@[go_sem] def q55_28 : List AI := [
 .j 78 (.faddr 1 (.t 1)),
 .j 79 (.load 1 false (.t 78)),
 .j 80 (.bin .add (.t 79) (.z 3)),
 .j 81 (.faddr 3 (.t 1)),
 .j 82 (.load 1 false (.t 81)),
 .j 83 (.call 69 [(.t 80), (.t 82)]),
 .j 84 (.ext 0 (.t 83)),
 .j 85 (.ext 1 (.t 83)),
 .j 2 (.mov (.t 84)),
 .j 3 (.mov (.t 85))]
@[go_sem] def q55_29 : List AI := [
 .j 87 (.bin .eql (.t 8) (.z 26)),
 .j 86 (.mov (.t 87))]
@[go_sem] def q55_30 : List AI := [
 .j 88 (.faddr 1 (.t 1)),
 .j 89 (.load 1 false (.t 88)),
 .j 90 (.bin .add (.t 89) (.z 2)),
 .j 91 (.mkrow 550091 1 [(.t 90)]),
 .j 2 (.mov (.t 91)),
 .j 3 (.mov (.z (-1)))]
@[go_sem] def q55_31 : List AI := [
 .j 2 (.mov (.c .nils)),
 .j 3 (.mov (.z (-1)))]
@[go_sem] def opcode_Writes_c : AC := .seq (.ops [q55_0]) (.seq (.seq (.ops [q55_1]) (.cond (.t 6) (.seq (.ops [q55_2]) (.ret)) (.skip))) (.seq (.seq (.ops [q55_3]) (.block 0 (.seq (.seq (.ops [q55_4]) (.cond (.t 9) (.skip) (.seq (.ops [q55_5]) (.cond (.t 9) (.skip) (.seq (.ops [q55_6]) (.cond (.t 9) (.skip) (.seq (.ops [q55_7]) (.cond (.t 9) (.skip) (.seq (.ops [q55_8]) (.cond (.t 9) (.skip) (.seq (.ops [q55_9]) (.cond (.t 9) (.skip) (.seq (.ops [q55_10]) (.cond (.t 9) (.skip) (.seq (.ops [q55_11]) (.cond (.t 9) (.skip) (.seq (.ops [q55_12]) (.cond (.t 9) (.skip) (.ops [q55_13]))))))))))))))))))) (.cond (.t 9) (.seq (.ops [q55_14]) (.ret)) (.seq (.ops [q55_15]) (.cond (.t 23) (.seq (.ops [q55_16]) (.ret)) (.seq (.ops [q55_17]) (.cond (.t 36) (.seq (.ops [q55_18]) (.ret)) (.seq (.ops [q55_19]) (.cond (.t 44) (.seq (.ops [q55_20]) (.ret)) (.seq (.ops [q55_21]) (.cond (.t 53) (.seq (.ops [q55_22]) (.ret)) (.seq (.ops [q55_23]) (.cond (.t 62) (.seq (.ops [q55_24]) (.ret)) (.seq (.ops [q55_25]) (.cond (.t 68) (.seq (.ops [q55_26]) (.ret)) (.seq (.ops [q55_27]) (.cond (.t 76) (.seq (.ops [q55_28]) (.ret)) (.seq (.ops [q55_29]) (.cond (.t 86) (.seq (.ops [q55_30]) (.ret)) (.skip))))))))))))))))))))) (.seq (.ops [q55_31]) (.ret))))
theorem opcode_Writes_ok : compF Tryd.prog 55 = some (92, opcode_Writes_c, [.t 2, .t 3]) := by kernel_rfl

@[go_sem] def q56_0 : List AI := [
 .j 3 (.box 560003 11 (.t 0)),
 .j 6 (.mov (.c (.bool false)))]
@[go_sem] def q56_1 : List AI := [
 .j 7 (.mov (.t 2)),
 .j 8 (.faddr 4 (.t 3)),
 .j 9 (.load 1 false (.t 8)),
 .j 10 (.bin .leq (.t 7) (.t 9)),
 .j 11 (.mov (.t 10)),
 .k 12 11 true (.mov (.t 1)),
 .k 13 11 true (.mkfn 70 [(.t 3)]),
 .k 14 11 true (.call 49 [(.t 12), (.t 13)]),
 .k 15 11 true (.un .not (.t 14)),
 .j 16 (.pick (.t 11) (.t 15) (.c (.bool false))),
 .j 6 (.mov (.t 16))]
@[go_sem] def proto_within_c : AC := .seq (.ops [q56_0]) (.seq (.ops [q56_1]) (.ret))
theorem proto_within_ok : compF Tryd.prog 56 = some (17, proto_within_c, [.t 6]) := by kernel_rfl

@[go_sem] def q57_0 : List AI := [
 .j 1 (.box 570001 5 (.t 0)),
 .j 2 (.mov (.z 0)),
 .j 3 (.mov (.c (.bool false)))]
@[go_sem] def q57_1 : List AI := [
 .j 4 (.faddr 0 (.t 1)),
 .j 5 (.load 1 false (.t 4))]
@[go_sem] def q57_2 : List AI := [
 .j 7 (.bin .eql (.t 5) (.z 14)),
 .j 6 (.mov (.t 7))]
@[go_sem] def q57_3 : List AI := [
 .j 8 (.bin .eql (.t 5) (.z 15)),
 .j 6 (.mov (.t 8))]
@[go_sem] def q57_4 : List AI := [
 .j 9 (.bin .eql (.t 5) (.z 23)),
 .j 6 (.mov (.t 9))]
@[go_sem] def q57_5 : List AI := [
 .j 10 (.bin .eql (.t 5) (.z 24)),
 .j 6 (.mov (.t 10))]
@[go_sem] def q57_6 : List AI := [
 .j 11 (.bin .eql (.t 5) (.z 26)),
 .j 6 (.mov (.t 11))]
@[go_sem] def q57_7 : List AI := [
 .j 12 (.faddr 2 (.t 1)),
 .j 13 (.load 1 false (.t 12)),
 .j 2 (.mov (.t 13)),
 .j 3 (.mov (.c (.bool true)))]
@[go_sem] def q57_8 : List AI := [
 .j 2 (.mov (.z 0)),
 .j 3 (.mov (.c (.bool false)))]
@[go_sem] def opcode_Target_c : AC := .seq (.ops [q57_0]) (.seq (.seq (.ops [q57_1]) (.block 0 (.seq (.seq (.ops [q57_2]) (.cond (.t 6) (.skip) (.seq (.ops [q57_3]) (.cond (.t 6) (.skip) (.seq (.ops [q57_4]) (.cond (.t 6) (.skip) (.seq (.ops [q57_5]) (.cond (.t 6) (.skip) (.ops [q57_6]))))))))) (.cond (.t 6) (.seq (.ops [q57_7]) (.ret)) (.skip))))) (.seq (.ops [q57_8]) (.ret)))
theorem opcode_Target_ok : compF Tryd.prog 57 = some (14, opcode_Target_c, [.t 2, .t 3]) := by kernel_rfl

@[go_sem] def q58_0 : List AI := [
 .j 2 (.box 580002 11 (.t 0)),
 .j 3 (.box 580003 5 (.t 1)),
 .j 4 (.mov (.c (.bool false)))]
@[go_sem] def q58_1 : List AI := [
 .j 8 (.load 5 true (.t 3)),
 .j 9 (.call 71 [(.t 8)]),
 .j 7 (.mov (.t 9)),
 .j 10 (.ext 0 (.t 7)),
 .j 11 (.ext 1 (.t 7)),
 .j 5 (.mov (.t 10)),
 .j 6 (.mov (.t 11))]
@[go_sem] def q58_2 : List AI := [
 .j 12 (.mov (.t 5)),
 .j 13 (.faddr 7 (.t 2)),
 .j 14 (.load 1 false (.t 13)),
 .j 15 (.len 0 (.t 14)),
 .j 16 (.bin .geq (.t 12) (.t 15)),
 .j 17 (.mov (.t 16)),
 .k 18 17 false (.mov (.t 5)),
 .k 19 17 false (.bin .geq (.t 18) (.z 0)),
 .k 20 17 false (.mov (.t 19)),
 .k 21 20 true (.mov (.t 6)),
 .k 22 17 false (.pick (.t 20) (.t 21) (.c (.bool false))),
 .k 23 17 false (.mov (.t 22)),
 .k 24 23 true (.faddr 7 (.t 2)),
 .k 25 23 true (.load 1 false (.t 24)),
 .k 26 23 true (.mov (.t 5)),
 .k 27 23 true (.iaddr 5 (.t 25) (.t 26)),
 .k 28 23 true (.faddr 0 (.t 27)),
 .k 29 23 true (.load 1 false (.t 28)),
 .k 30 23 true (.bin .neq (.t 29) (.z 3)),
 .k 31 17 false (.pick (.t 23) (.t 30) (.c (.bool false))),
 .j 32 (.pick (.t 17) (.c (.bool true)) (.t 31))]
@[go_sem] def q58_3 : List AI := [
 .j 4 (.mov (.c (.bool false)))]
@[go_sem] def q58_4 : List AI := [
 .j 33 (.faddr 0 (.t 3)),
 .j 34 (.load 1 false (.t 33))]
@[go_sem] def q58_5 : List AI := [
 .j 36 (.bin .eql (.t 34) (.z 5)),
 .j 35 (.mov (.t 36))]
@[go_sem] def q58_6 : List AI := [
 .j 37 (.faddr 2 (.t 3)),
 .j 38 (.load 1 false (.t 37)),
 .j 39 (.faddr 9 (.t 2)),
 .j 40 (.load 1 false (.t 39)),
 .j 41 (.len 0 (.t 40)),
 .j 42 (.bin .lss (.t 38) (.t 41)),
 .j 4 (.mov (.t 42))]
@[go_sem] def q58_7 : List AI := [
 .j 44 (.bin .eql (.t 34) (.z 6)),
 .j 43 (.mov (.t 44))]
@[go_sem] def q58_8 : List AI := [
 .j 45 (.faddr 1 (.t 3)),
 .j 46 (.load 1 false (.t 45)),
 .j 47 (.faddr 9 (.t 2)),
 .j 48 (.load 1 false (.t 47)),
 .j 49 (.len 0 (.t 48)),
 .j 50 (.bin .lss (.t 46) (.t 49)),
 .j 4 (.mov (.t 50))]
@[go_sem] def q58_9 : List AI := [
 .j 52 (.bin .eql (.t 34) (.z 22)),
 .j 51 (.mov (.t 52))]
@[go_sem] def q58_10 : List AI := [
 .j 53 (.faddr 2 (.t 3)),
 .j 54 (.load 1 false (.t 53)),
 .j 55 (.faddr 8 (.t 2)),
 .j 56 (.load 1 false (.t 55)),
 .j 57 (.len 0 (.t 56)),
 .j 58 (.bin .lss (.t 54) (.t 57)),
 .j 4 (.mov (.t 58))]
@[go_sem] def q58_11 : List AI := [
 .j 60 (.bin .eql (.t 34) (.z 19)),
 .j 59 (.mov (.t 60))]
@[go_sem] def q58_12 : List AI := [
 .j 61 (.faddr 3 (.t 2)),
 .j 62 (.load 1 false (.t 61)),
 .j 4 (.mov (.t 62))]
@[go_sem] def q58_13 : List AI := [
 .j 4 (.mov (.c (.bool true)))]
@[go_sem] def proto_refers_c : AC := .seq (.ops [q58_0]) (.seq (.seq (.ops [q58_1]) (.seq (.ops [q58_2]) (.cond (.t 32) (.seq (.ops [q58_3]) (.ret)) (.skip)))) (.seq (.seq (.ops [q58_4]) (.block 0 (.seq (.ops [q58_5]) (.cond (.t 35) (.seq (.ops [q58_6]) (.ret)) (.seq (.ops [q58_7]) (.cond (.t 43) (.seq (.ops [q58_8]) (.ret)) (.seq (.ops [q58_9]) (.cond (.t 51) (.seq (.ops [q58_10]) (.ret)) (.seq (.ops [q58_11]) (.cond (.t 59) (.seq (.ops [q58_12]) (.ret)) (.skip))))))))))) (.seq (.ops [q58_13]) (.ret))))
theorem proto_refers_ok : compF Tryd.prog 58 = some (63, proto_refers_c, [.t 4]) := by kernel_rfl

@[go_sem] def q59_0 : List AI := [
 .j 4 (.mov (.c .nils))]
@[go_sem] def q59_1 : List AI := [
 .j 6 (.mov (.t 1)),
 .j 7 (.mov (.t 0)),
 .j 8 (.nilck (.t 7)),
 .j 9 (.faddr 0 (.t 8)),
 .j 10 (.load 1 false (.t 9)),
 .j 11 (.len 0 (.t 10)),
 .j 12 (.bin .gtr (.t 6) (.t 11))]
@[go_sem] def q59_2 : List AI := [
 .j 13 (.mov (.t 0)),
 .j 14 (.callp 27 [(.t 13), (.z 5)])]
@[go_sem] def q59_3 : List AI := [
 .j 15 (.mov (.t 0)),
 .j 16 (.nilck (.t 15)),
 .j 17 (.faddr 0 (.t 16)),
 .j 18 (.load 1 false (.t 17)),
 .j 19 (.mov (.t 1)),
 .j 20 (.slc 1 (.t 18) none (some (.t 19))),
 .j 5 (.mov (.t 20))]
@[go_sem] def q59_4 : List AI := [
 .j 21 (.mov (.t 0)),
 .j 22 (.mov (.t 0)),
 .j 23 (.nilck (.t 22)),
 .j 24 (.faddr 0 (.t 23)),
 .j 25 (.load 1 false (.t 24)),
 .j 26 (.mov (.t 1)),
 .j 27 (.slc 1 (.t 25) (some (.t 26)) none),
 .j 28 (.nilck (.t 21)),
 .j 29 (.faddr 0 (.t 28)),
 .e (.store 1 (.t 29) (.t 27))]
@[go_sem] def q59_5 : List AI := [
 .j 30 (.mov (.t 5)),
 .j 4 (.mov (.t 30))]
@[go_sem] def dump_reader_take_c : AC := .seq (.ops [q59_0]) (.seq (.seq (.ops [q59_1]) (.cond (.t 12) (.ops [q59_2]) (.skip))) (.seq (.ops [q59_3]) (.seq (.ops [q59_4]) (.seq (.ops [q59_5]) (.ret)))))
theorem dump_reader_take_ok : compF Tryd.prog 59 = some (31, dump_reader_take_c, [.t 4]) := by kernel_rfl

end Go.Proofs.YtkjcokmbjdafnaaDoor
