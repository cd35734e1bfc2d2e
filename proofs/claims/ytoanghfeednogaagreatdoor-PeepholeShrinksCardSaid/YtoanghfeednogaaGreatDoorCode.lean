/-
 The code of the functions that this seat reaches, translated into abstract code (printed by a program, each proved to be the translation). No condition.
-/
import Derived.Test.YtoanghfeednogaaGreatDoorCodeA
import Derived.Test.YtoanghfeednogaaGreatDoorChecked
set_option maxRecDepth 1000000
namespace Go.Proofs.YtoanghfeednogaaGreatDoor
open Go.Abs
@[go_sem] def A3I : AC := .seq (.ops [[.h 13 .lss 12 11]]) (.seq (.cond (.t 13) .skip (.exit 0)) (.seq (.block 1 (.seq (.ops [[.m 14 12, .m 4 14]]) (.seq (.ops [[.w 15 11 1, .m 16 4, .m 17 3, .j 18 (.call 77 [(.t 15), (.t 16), (.t 17)])]]) (.cond (.t 18) (.seq (.ops [[.m 19 4, .m 2 19]]) .ret) .skip)))) (.ops [[.b 20 .add 12 1, .m 12 20]])))
def A5i : AC := A3I
theorem A8J : A5i = A3I := rfl
@[go_sem] def A6E : AC := .seq (.ops [[.j 1 (.box 620001 11 (.t 0)), .n 2 0]]) (.seq (.ops [[.w 5 11 1, .w 6 11 1, .c 7 76 6, .j 8 (.call 75 [(.t 5), (.t 7)]), .m 3 8], [.w 6 11 1, .c 7 76 6, .w 5 11 1, .j 8 (.call 75 [(.t 5), (.t 7)]), .m 3 8]]) (.seq (.seq (.ops [[.a 9 5 1, .l 10 9, .r 11 0 10, .n 12 0]]) (.block 0 (.loop A5i))) (.seq (.ops [[.n 2 (-1)]]) .ret)))
theorem A5j : B3 Tryz.prog 62 = some (21, A6E, [.t 2]) := by kernel_rfl
@[go_sem] def f9 : AC := .seq (.ops [[.j 2 (.mov (.c .nils))]]) (.seq (.seq (.ops [[.m 3 0, .j 4 (.eqn false false (.t 3))]]) (.cond (.t 4) (.seq (.ops [[.j 2 (.mov (.c .nils))]]) .ret) .skip)) (.seq (.ops [[.j 5 (.mkrow 630005 1 []), .m 6 0, .j 7 (.apb 17592186044416 630007 1 (.t 5) (.t 6)), .m 2 7]]) .ret))
theorem M9 : B3 Tryz.prog 63 = some (8, f9, [.t 2]) := by kernel_rfl
@[go_sem] def A6i : AC := .ops [[.w 3 11 1, .c 4 66 3, .m 5 0, .j 6 (.call 65 [(.t 4), (.t 5)])]]
theorem A4K : B3 Tryz.prog 64 = some (7, A6i, []) := by kernel_rfl
@[go_sem] def A6t : AC := .seq (.ops [[.h 15 .lss 14 13]]) (.seq (.cond (.t 15) .skip (.exit 0)) (.seq (.block 1 (.seq (.ops [[.i 16 11 12 14, .w 17 11 16, .j 6 (.box 650006 11 (.c (.agg [(.str []), (.int .i64 0), (.int .i64 0), (.bool false), (.int .i64 0), .nils, .nils, .nils, .nils, .nils, .nils]))), .s 11 6 17]]) (.seq (.ops [[.w 18 11 6, .m 19 1, .j 20 (.call 65 [(.t 18), (.t 19)]), .j 21 (.un .not (.t 20))]]) (.cond (.t 21) (.seq (.ops [[.t 4 false]]) .ret) .skip)))) (.ops [[.b 22 .add 14 1, .m 14 22]])))
def A7J : AC := A6t
theorem B0H : A7J = A6t := rfl
@[go_sem] def A9N : AC := .seq (.ops [[.j 2 (.box 650002 11 (.t 0)), .t 4 false]]) (.seq (.seq (.ops [[.m 7 1, .w 8 11 2, .j 9 (.callv (.t 7) [(.t 8)]), .j 10 (.un .not (.t 9))]]) (.cond (.t 10) (.seq (.ops [[.t 4 false]]) .ret) .skip)) (.seq (.seq (.ops [[.a 11 8 2, .l 12 11, .r 13 0 12, .n 14 0]]) (.block 0 (.loop A7J))) (.seq (.ops [[.t 4 true]]) .ret)))
theorem A7K : B3 Tryz.prog 65 = some (23, A9N, [.t 4]) := by kernel_rfl
@[go_sem] def A3l : AC := .seq (.ops [[.h 30 .lss 29 28]]) (.seq (.cond (.t 30) .skip (.exit 0)) (.seq (.block 1 (.seq (.ops [[.i 31 11 27 29, .w 32 11 31, .j 5 (.box 660005 11 (.c (.agg [(.str []), (.int .i64 0), (.int .i64 0), (.bool false), (.int .i64 0), .nils, .nils, .nils, .nils, .nils, .nils]))), .s 11 5 32]]) (.ops [[.m 33 3, .w 34 11 5, .c 35 66 34, .j 36 (.mkisl 11 [(.t 35)]), .j 37 (.apb 733007751850 660037 11 (.t 33) (.t 36)), .m 3 37]]))) (.ops [[.b 38 .add 29 1, .m 29 38]])))
def A4L : AC := A3l
theorem A8l : A4L = A3l := rfl
@[go_sem] def A6j : AC := .seq (.ops [[.j 1 (.box 660001 11 (.t 0)), .j 2 (.box 660002 11 (.c (.agg [(.str []), (.int .i64 0), (.int .i64 0), (.bool false), (.int .i64 0), .nils, .nils, .nils, .nils, .nils, .nils])))]]) (.seq (.ops [[.a 6 5 1, .l 7 6, .a 9 6 1, .l 10 9, .a 12 7 1, .l 13 12, .a 15 9 1, .l 16 15, .a 18 10 1, .l 19 18, .j 8 (.pcall 78 [(.t 7)]), .a 21 5 1, .j 11 (.pcall 63 [(.t 10)]), .j 14 (.pcall 79 [(.t 13)]), .j 17 (.pcall 80 [(.t 16)]), .j 20 (.pcall 81 [(.t 19)]), .s 1 21 8, .a 22 6 1, .s 1 22 11, .a 23 7 1, .s 1 23 14, .a 24 9 1, .s 1 24 17, .a 25 10 1, .s 1 25 20]]) (.seq (.ops [[.j 3 (.mov (.c .nils))]]) (.seq (.seq (.ops [[.a 26 8 1, .l 27 26, .r 28 0 27, .n 29 0]]) (.block 0 (.loop A4L))) (.seq (.ops [[.m 39 3, .a 40 8 1, .s 1 40 39]]) (.seq (.ops [[.w 41 11 1, .s 11 2 41]]) .ret)))))
theorem A4M : B3 Tryz.prog 66 = some (42, A6j, [.c 2 11 true]) := by kernel_rfl
@[go_sem] def A6q : AC := .seq (.ops [[.j 1 (.box 670001 11 (.t 0)), .n 2 0]]) (.seq (.seq (.ops [[.a 4 5 1, .l 5 4, .r 6 0 5, .b 7 .gtr 6 16384, .m 8 7, .k 9 8 false (.faddr 7 (.t 1)), .k 10 8 false (.load 1 false (.t 9)), .k 11 8 false (.len 0 (.t 10)), .k 12 8 false (.bin .gtr (.t 11) (.z 4096)), .j 13 (.pick (.t 8) (.c (.bool true)) (.t 12)), .m 14 13, .k 15 14 false (.faddr 8 (.t 1)), .k 16 14 false (.load 1 false (.t 15)), .k 17 14 false (.len 0 (.t 16)), .k 18 14 false (.bin .gtr (.t 17) (.z 1024)), .j 19 (.pick (.t 14) (.c (.bool true)) (.t 18)), .m 20 19, .k 21 20 false (.faddr 9 (.t 1)), .k 22 20 false (.load 1 false (.t 21)), .k 23 20 false (.len 0 (.t 22)), .k 24 20 false (.bin .gtr (.t 23) (.z 60)), .j 25 (.pick (.t 20) (.c (.bool true)) (.t 24)), .m 26 25, .k 27 26 false (.faddr 10 (.t 1)), .k 28 26 false (.load 1 false (.t 27)), .k 29 26 false (.len 0 (.t 28)), .k 30 26 false (.bin .gtr (.t 29) (.z 16384)), .j 31 (.pick (.t 26) (.c (.bool true)) (.t 30)), .m 32 31, .k 33 32 false (.faddr 4 (.t 1)), .k 34 32 false (.load 1 false (.t 33)), .k 35 32 false (.bin .gtr (.t 34) (.z 4096)), .j 36 (.pick (.t 32) (.c (.bool true)) (.t 35)), .m 37 36, .k 38 37 false (.faddr 0 (.t 1)), .k 39 37 false (.load 1 false (.t 38)), .k 40 37 false (.len 1 (.t 39)), .k 41 37 false (.bin .gtr (.t 40) (.z 4096)), .j 42 (.pick (.t 37) (.c (.bool true)) (.t 41))]]) (.cond (.t 42) (.seq (.ops [[.n 2 3]]) .ret) .skip)) (.seq (.ops [[.j 3 (.box 670003 1 (.c (.cst .nilFunc))), .e (.store 1 (.t 3) (.f 82))]]) (.seq (.seq (.ops [[.a 43 9 1, .l 44 43, .j 45 (.mkfn 83 [(.t 3)]), .j 46 (.call 47 [(.t 44), (.t 45)]), .m 47 46, .k 48 47 false (.faddr 10 (.t 1)), .k 49 47 false (.load 1 false (.t 48)), .k 50 47 false (.mkfn 84 [(.t 3)]), .k 51 47 false (.call 43 [(.t 49), (.t 50)]), .j 52 (.pick (.t 47) (.c (.bool true)) (.t 51))]]) (.cond (.t 52) (.seq (.ops [[.n 2 3]]) .ret) .skip)) (.seq (.ops [[.n 2 0]]) .ret))))
theorem A4Q : B3 Tryz.prog 67 = some (53, A6q, [.t 2]) := by kernel_rfl
@[go_sem] def A6o : AC := .seq (.ops [[.h 60 .lss 59 58]]) (.seq (.cond (.t 60) .skip (.exit 0)) (.seq (.block 1 (.seq (.ops [[.i 61 5 57 59, .w 62 5 61, .j 5 (.box 680005 5 (.c (.agg [(.int .i64 0), (.int .i64 0), (.int .i64 0), (.str []), (.int .i64 0)]))), .s 5 5 62]]) (.seq (.ops [[.a 63 0 5, .l 64 63, .b 65 .gtr 64 3, .m 66 65, .k 67 66 false (.load 5 true (.t 5)), .k 68 66 false (.call 88 [(.t 67)]), .k 69 66 false (.un .not (.t 68)), .j 70 (.pick (.t 66) (.c (.bool true)) (.t 69))]]) (.cond (.t 70) (.seq (.ops [[.n 2 4]]) .ret) .skip)))) (.ops [[.b 71 .add 59 1, .m 59 71]])))
def A7G : AC := A6o
theorem A3m : A7G = A6o := rfl
@[go_sem] def A6p : AC := .seq (.ops [[.h 76 .lss 75 74]]) (.seq (.cond (.t 76) .skip (.exit 2)) (.seq (.block 3 (.seq (.ops [[.i 77 5 73 75, .w 78 5 77, .j 7 (.box 680007 5 (.c (.agg [(.str []), (.int .i64 0), (.int .i64 0), (.int .i64 0), (.int .i64 0)]))), .s 5 7 78]]) (.seq (.ops [[.a 79 1 7, .l 80 79, .b 81 .lss 80 0, .m 82 81, .k 83 82 false (.faddr 1 (.t 7)), .k 84 82 false (.load 1 false (.t 83)), .k 85 82 false (.faddr 4 (.t 1)), .k 86 82 false (.load 1 false (.t 85)), .k 87 82 false (.bin .geq (.t 84) (.t 86)), .j 88 (.pick (.t 82) (.c (.bool true)) (.t 87)), .m 89 88, .k 90 89 false (.faddr 4 (.t 7)), .k 91 89 false (.load 1 false (.t 90)), .k 92 89 false (.bin .lss (.t 91) (.z 0)), .j 93 (.pick (.t 89) (.c (.bool true)) (.t 92)), .m 94 93, .k 95 94 false (.faddr 4 (.t 7)), .k 96 94 false (.load 1 false (.t 95)), .k 97 94 false (.bin .gtr (.t 96) (.z 2)), .j 98 (.pick (.t 94) (.c (.bool true)) (.t 97)), .m 99 98, .k 100 99 false (.faddr 2 (.t 7)), .k 101 99 false (.load 1 false (.t 100)), .k 102 99 false (.bin .lss (.t 101) (.z 0)), .j 103 (.pick (.t 99) (.c (.bool true)) (.t 102)), .m 104 103, .k 105 104 false (.faddr 3 (.t 7)), .k 106 104 false (.load 1 false (.t 105)), .k 107 104 false (.faddr 2 (.t 7)), .k 108 104 false (.load 1 false (.t 107)), .k 109 104 false (.bin .lss (.t 106) (.t 108)), .j 110 (.pick (.t 104) (.c (.bool true)) (.t 109)), .m 111 110, .k 112 111 false (.faddr 3 (.t 7)), .k 113 111 false (.load 1 false (.t 112)), .k 114 111 false (.mov (.t 3)), .k 115 111 false (.bin .gtr (.t 113) (.t 114)), .j 116 (.pick (.t 111) (.c (.bool true)) (.t 115))]]) (.cond (.t 116) (.seq (.ops [[.n 2 4]]) .ret) .skip)))) (.ops [[.b 117 .add 75 1, .m 75 117]])))
def A7H : AC := A6p
theorem A3n : A7H = A6p := rfl
@[go_sem] def A9M : AC := .seq (.ops [[.j 1 (.box 680001 11 (.t 0)), .n 2 0]]) (.seq (.ops [[.a 8 5 1, .l 9 8, .r 10 0 9, .m 3 10]]) (.seq (.seq (.ops [[.m 11 3, .b 12 .eql 11 0, .m 13 12, .k 14 13 false (.faddr 4 (.t 1)), .k 15 13 false (.load 1 false (.t 14)), .k 16 13 false (.bin .lss (.t 15) (.z 0)), .j 17 (.pick (.t 13) (.c (.bool true)) (.t 16)), .m 18 17, .k 19 18 false (.faddr 2 (.t 1)), .k 20 18 false (.load 1 false (.t 19)), .k 21 18 false (.bin .lss (.t 20) (.z 0)), .j 22 (.pick (.t 18) (.c (.bool true)) (.t 21)), .m 23 22, .k 24 23 false (.faddr 1 (.t 1)), .k 25 23 false (.load 1 false (.t 24)), .k 26 23 false (.bin .lss (.t 25) (.z 0)), .j 27 (.pick (.t 23) (.c (.bool true)) (.t 26)), .m 28 27, .k 29 28 false (.faddr 2 (.t 1)), .k 30 28 false (.load 1 false (.t 29)), .k 31 28 false (.faddr 4 (.t 1)), .k 32 28 false (.load 1 false (.t 31)), .k 33 28 false (.bin .gtr (.t 30) (.t 32)), .j 34 (.pick (.t 28) (.c (.bool true)) (.t 33)), .m 35 34, .k 36 35 false (.faddr 6 (.t 1)), .k 37 35 false (.load 1 false (.t 36)), .k 38 35 false (.len 0 (.t 37)), .k 39 35 false (.bin .neq (.t 38) (.z 0)), .k 40 35 false (.mov (.t 39)), .k 41 40 true (.faddr 6 (.t 1)), .k 42 40 true (.load 1 false (.t 41)), .k 43 40 true (.len 0 (.t 42)), .k 44 40 true (.mov (.t 3)), .k 45 40 true (.bin .neq (.t 43) (.t 44)), .k 46 35 false (.pick (.t 40) (.t 45) (.c (.bool false))), .j 47 (.pick (.t 35) (.c (.bool true)) (.t 46))]]) (.cond (.t 47) (.seq (.ops [[.n 2 4]]) .ret) .skip)) (.seq (.seq (.ops [[.a 48 6 1, .l 49 48, .j 50 (.call 85 [(.t 49), (.f 86)]), .m 51 50, .k 52 51 false (.faddr 9 (.t 1)), .k 53 51 false (.load 1 false (.t 52)), .k 54 51 false (.call 47 [(.t 53), (.f 87)]), .j 55 (.pick (.t 51) (.c (.bool true)) (.t 54))]]) (.cond (.t 55) (.seq (.ops [[.n 2 4]]) .ret) .skip)) (.seq (.seq (.ops [[.a 56 7 1, .l 57 56, .r 58 0 57, .n 59 0]]) (.block 0 (.loop A7G))) (.seq (.seq (.ops [[.a 72 10 1, .l 73 72, .r 74 0 73, .n 75 0]]) (.block 2 (.loop A7H))) (.seq (.ops [[.n 2 0]]) .ret))))))
theorem A7I : B3 Tryz.prog 68 = some (118, A9M, [.t 2]) := by kernel_rfl
@[go_sem] def A0p : AC := .seq (.ops [[.j 2 (.box 690002 11 (.t 0)), .j 3 (.box 690003 5 (.t 1)), .n 4 0]]) (.seq (.seq (.ops [[.w 12 5 3, .c 13 72 12, .m 5 13]]) (.seq (.ops [[.m 14 5, .b 15 .neq 14 0]]) (.cond (.t 15) (.seq (.ops [[.m 16 5, .m 4 16]]) .ret) .skip))) (.seq (.ops [[.w 18 5 3, .c 19 56 18, .m 17 19, .x 20 0 17, .x 21 1 17, .m 6 20, .m 7 21]]) (.seq (.ops [[.w 23 5 3, .c 24 58 23, .m 22 24, .x 25 0 22, .x 26 1 22, .m 8 25, .m 9 26]]) (.seq (.seq (.ops [[.w 27 11 2, .m 28 6, .m 29 7, .j 30 (.call 89 [(.t 27), (.t 28), (.t 29)]), .j 31 (.un .not (.t 30)), .m 32 31, .k 33 32 false (.load 11 true (.t 2)), .k 34 32 false (.mov (.t 8)), .k 35 32 false (.mov (.t 9)), .k 36 32 false (.call 89 [(.t 33), (.t 34), (.t 35)]), .k 37 32 false (.un .not (.t 36)), .j 38 (.pick (.t 32) (.c (.bool true)) (.t 37))]]) (.cond (.t 38) (.seq (.ops [[.n 4 4]]) .ret) .skip)) (.seq (.seq (.ops [[.w 40 5 3, .c 41 17 40, .m 39 41, .x 42 0 39, .x 43 1 39, .m 10 42, .m 11 43]]) (.seq (.ops [[.m 44 11, .m 45 44, .k 46 45 true (.mov (.t 10)), .k 47 45 true (.bin .lss (.t 46) (.z 0)), .k 48 45 true (.mov (.t 47)), .k 49 48 false (.mov (.t 10)), .k 50 48 false (.faddr 5 (.t 2)), .k 51 48 false (.load 1 false (.t 50)), .k 52 48 false (.len 0 (.t 51)), .k 53 48 false (.bin .geq (.t 49) (.t 52)), .k 54 45 true (.pick (.t 48) (.c (.bool true)) (.t 53)), .j 55 (.pick (.t 45) (.t 54) (.c (.bool false)))]]) (.cond (.t 55) (.seq (.ops [[.n 4 4]]) .ret) .skip))) (.seq (.seq (.ops [[.w 56 11 2, .w 57 5 3, .j 58 (.call 90 [(.t 56), (.t 57)]), .j 59 (.un .not (.t 58))]]) (.cond (.t 59) (.seq (.ops [[.n 4 4]]) .ret) .skip)) (.seq (.ops [[.n 4 0]]) .ret)))))))
theorem u4 : B3 Tryz.prog 69 = some (60, A0p, [.t 4]) := by kernel_rfl
@[go_sem] def A2P : AC := .seq (.ops [[.b 29 .lss 28 4]]) (.seq (.cond (.t 29) .skip (.exit 0)) (.seq (.block 1 (.seq (.ops [[.m 30 28, .j 31 (.idxA 4 1 1 false (.t 27) (.t 28)), .m 7 30, .m 8 31]]) (.seq (.ops [[.m 32 8, .b 33 .eql 32 0, .m 34 33, .k 35 34 true (.mov (.t 7)), .k 36 34 true (.iaddrA 4 1 (.t 6) (.t 35)), .k 37 34 true (.load 1 false (.t 36)), .k 38 34 true (.bin .neq (.t 37) (.z 0)), .j 39 (.pick (.t 34) (.t 38) (.c (.bool false)))]]) (.cond (.t 39) (.seq (.ops [[.n 2 4]]) .ret) .skip)))) (.ops [[.b 40 .add 28 1, .m 28 40]])))
def A4y : AC := A2P
theorem A0S : A4y = A2P := rfl
@[go_sem] def A2Q : AC := .seq (.ops [[.b 43 .lss 42 4]]) (.seq (.cond (.t 43) .skip (.exit 2)) (.seq (.block 3 (.seq (.ops [[.m 44 42, .j 45 (.idxA 4 1 1 false (.t 41) (.t 42)), .m 9 44, .m 10 45]]) (.seq (.ops [[.m 47 10, .c 48 104 47, .m 46 48, .x 49 0 46, .x 50 1 46, .m 11 49, .m 12 50]]) (.seq (.ops [[.m 51 9, .j 52 (.iaddrA 4 1 (.t 6) (.t 51)), .l 53 52, .m 54 11, .h 55 .lss 53 54, .m 56 55, .k 57 56 false (.mov (.t 9)), .k 58 56 false (.iaddrA 4 1 (.t 6) (.t 57)), .k 59 56 false (.load 1 false (.t 58)), .k 60 56 false (.mov (.t 12)), .k 61 56 false (.bin .gtr (.t 59) (.t 60)), .j 62 (.pick (.t 56) (.c (.bool true)) (.t 61))]]) (.cond (.t 62) (.seq (.ops [[.n 2 6]]) .ret) .skip))))) (.ops [[.b 63 .add 42 1, .m 42 63]])))
def A4z : AC := A2Q
theorem A0T : A4z = A2Q := rfl
@[go_sem] def A5U : AC := .seq (.ops [[.j 1 (.box 720001 5 (.t 0)), .n 2 0]]) (.seq (.ops [[.a 14 0 1, .l 15 14, .c 16 102 15, .m 13 16, .x 17 0 13, .x 18 1 13, .j 3 (.box 720003 6 (.c (.agg [(.str []), (.int .i64 0), (.int .i64 0), (.int .i64 0), (.int .i64 0), (.int .i64 0)]))), .s 6 3 17, .m 4 18]]) (.seq (.seq (.ops [[.m 19 4, .j 20 (.un .not (.t 19))]]) (.cond (.t 20) (.seq (.ops [[.n 2 4]]) .ret) .skip)) (.seq (.ops [[.w 22 6 3, .w 23 5 1, .j 24 (.call 103 [(.t 22), (.t 23)]), .m 21 24, .x 25 0 21, .x 26 1 21, .j 5 (.box 720005 4 (.c (.agg [(.int .i64 0), (.int .i64 0), (.int .i64 0), (.int .i64 0)]))), .j 6 (.box 720006 4 (.c (.agg [(.int .i64 0), (.int .i64 0), (.int .i64 0), (.int .i64 0)]))), .s 4 5 25, .s 4 6 26]]) (.seq (.seq (.ops [[.w 27 4 5, .n 28 0]]) (.block 0 (.loop A4y))) (.seq (.seq (.ops [[.w 41 4 5, .n 42 0]]) (.block 2 (.loop A4z))) (.seq (.seq (.ops [[.a 64 1 3, .l 65 64, .b 66 .eql 65 1, .m 67 66, .k 68 67 true (.load 6 true (.t 3)), .k 69 67 true (.load 5 true (.t 1)), .k 70 67 true (.call 105 [(.t 68), (.t 69)]), .k 71 67 true (.bin .geq (.t 70) (.z 4096)), .j 72 (.pick (.t 67) (.t 71) (.c (.bool false))), .m 73 72, .k 74 73 false (.faddr 0 (.t 1)), .k 75 73 false (.load 1 false (.t 74)), .k 76 73 false (.bin .eql (.t 75) (.z 3)), .k 77 73 false (.mov (.t 76)), .k 78 77 true (.faddr 2 (.t 1)), .k 79 77 true (.load 1 false (.t 78)), .k 80 77 true (.faddr 1 (.t 1)), .k 81 77 true (.load 1 false (.t 80)), .k 82 77 true (.bin .lss (.t 79) (.t 81)), .k 83 73 false (.pick (.t 77) (.t 82) (.c (.bool false))), .j 84 (.pick (.t 73) (.c (.bool true)) (.t 83))]]) (.cond (.t 84) (.seq (.ops [[.n 2 6]]) .ret) .skip)) (.seq (.ops [[.n 2 0]]) .ret)))))))
theorem A4A : B3 Tryz.prog 72 = some (85, A5U, [.t 2]) := by kernel_rfl
@[go_sem] def A4F : AC := .seq (.ops [[.j 2 (.mov (.c .nils))]]) (.seq (.ops [[.m 3 0, .c 4 54 3]]) (.seq (.ops [[.m 5 0, .c 6 55 5, .m 2 6]]) .ret))
theorem A2V : B3 Tryz.prog 73 = some (7, A4F, [.t 2]) := by kernel_rfl
@[go_sem] def A4G : AC := .seq (.ops [[.h 13 .lss 12 11]]) (.seq (.cond (.t 13) .skip (.exit 0)) (.seq (.block 1 (.seq (.ops [[.m 14 12, .m 7 14]]) (.ops [[.m 15 6, .m 16 0, .m 17 7, .h 18 .add 16 17, .j 19 (.mkisl 1 [(.t 18)]), .j 20 (.app 740020 1 (.t 15) (.t 19)), .m 6 20]]))) (.ops [[.b 21 .add 12 1, .m 12 21]])))
def A5Z : AC := A4G
theorem A9E : A5Z = A4G := rfl
@[go_sem] def A7B : AC := .seq (.ops [[.j 4 (.mov (.c .nils)), .n 5 0]]) (.seq (.seq (.ops [[.m 8 1, .b 9 .lss 8 0]]) (.cond (.t 9) (.seq (.ops [[.m 10 0, .j 4 (.mov (.c .nils)), .m 5 10]]) .ret) .skip)) (.seq (.ops [[.j 6 (.mov (.c .nils))]]) (.seq (.seq (.ops [[.m 11 1, .n 12 0]]) (.block 0 (.loop A5Z))) (.seq (.ops [[.m 22 6, .m 4 22, .n 5 (-1)]]) .ret))))
theorem A0U : B3 Tryz.prog 74 = some (23, A7B, [.t 4, .t 5]) := by kernel_rfl
@[go_sem] def A2s : AC := .seq (.ops [[.h 22 .lss 21 20]]) (.seq (.cond (.t 22) .skip (.exit 2)) (.seq (.block 3 (.seq (.ops [[.i 23 2 19 21, .w 24 2 23, .j 8 (.box 750008 2 (.c (.agg [(.int .i64 0), (.int .i64 0)]))), .s 2 8 24]]) (.seq (.ops [[.m 26 5, .j 27 (.iaddrA 2 1 (.t 8) (.z 0)), .l 28 27, .j 29 (.look 0 (.agg [.nils, (.int .i64 0), .nils]) true (.t 26) (.t 28)), .m 25 29, .x 30 0 25, .x 31 1 25, .j 9 (.box 750009 3 (.c (.agg [.nils, (.int .i64 0), .nils]))), .s 3 9 30, .m 10 31]]) (.seq (.seq (.ops [[.m 32 10, .j 33 (.un .not (.t 32))]]) (.cond (.t 33) (.exit 3) .skip)) (.seq (.ops [[.w 34 11 2, .w 35 2 8, .w 36 3 9, .j 37 (.call 107 [(.t 34), (.t 35), (.t 36)]), .j 11 (.box 750011 3 (.c (.agg [.nils, (.int .i64 0), .nils]))), .s 3 11 37]]) (.seq (.ops [[.m 39 5, .j 40 (.iaddrA 2 1 (.t 8) (.z 1)), .l 41 40, .j 42 (.look 0 (.agg [.nils, (.int .i64 0), .nils]) true (.t 39) (.t 41)), .m 38 42, .x 43 0 38, .x 44 1 38, .j 12 (.box 750012 3 (.c (.agg [.nils, (.int .i64 0), .nils]))), .s 3 12 43, .m 13 44]]) (.seq (.ops [[.m 45 13, .j 46 (.un .not (.t 45))]]) (.cond (.t 46) (.seq (.ops [[.m 47 5, .j 48 (.iaddrA 2 1 (.t 8) (.z 1)), .l 49 48, .w 50 3 11, .e (.mput 0 (.t 47) (.t 49) (.t 50))]]) (.ops [[.t 6 true]])) (.seq (.ops [[.w 51 3 12, .w 52 3 11, .j 53 (.call 108 [(.t 51), (.t 52)])]]) (.cond (.t 53) (.ops [[.t 6 true]]) .skip)))))))))) (.ops [[.b 54 .add 21 1, .m 21 54]])))
def A3Q : AC := A2s
theorem A7f : A3Q = A2s := rfl
@[go_sem] def A2r : AC := .seq (.seq (.ops [[.m 18 6]]) (.cond (.t 18) .skip (.exit 0))) (.block 1 (.seq (.ops [[.t 6 false]]) (.seq (.ops [[.m 19 1, .r 20 0 19, .n 21 0]]) (.block 2 (.loop A3Q)))))
def A3P : AC := A2r
theorem A7e : A3P = A2r := rfl
@[go_sem] def A5p : AC := .seq (.ops [[.j 2 (.box 750002 11 (.t 0)), .j 4 (.mov (.c .nilm))]]) (.seq (.ops [[.j 14 (.mkmap 750014), .w 15 11 2, .c 16 106 15, .e (.mput 0 (.t 14) (.z 0) (.t 16)), .m 17 14, .m 5 17]]) (.seq (.seq (.ops [[.t 6 true]]) (.block 0 (.loop A3P))) (.seq (.ops [[.m 55 5, .m 4 55]]) .ret)))
theorem A3R : B3 Tryz.prog 75 = some (56, A5p, [.t 4]) := by kernel_rfl
@[go_sem] def A3E : AC := .seq (.ops [[.h 18 .lss 17 16]]) (.seq (.cond (.t 18) .skip (.exit 2)) (.seq (.block 3 (.seq (.ops [[.i 19 1 15 17, .l 20 19, .m 6 20]]) (.ops [[.m 21 3, .m 22 4, .m 23 6, .j 24 (.build [(.int .i64 0), (.int .i64 0)] [(0, 1, (.t 22)), (1, 1, (.t 23))]), .j 25 (.mkisl 2 [(.t 24)]), .j 26 (.app 760026 2 (.t 21) (.t 25)), .m 3 26]]))) (.ops [[.b 27 .add 17 1, .m 17 27]])))
def A5e : AC := A3E
theorem A8H : A5e = A3E := rfl
@[go_sem] def A3D : AC := .seq (.ops [[.h 11 .lss 10 9]]) (.seq (.cond (.t 11) .skip (.exit 0)) (.seq (.block 1 (.seq (.ops [[.m 12 10, .m 4 12]]) (.seq (.ops [[.w 13 11 1, .m 14 4, .j 15 (.call 38 [(.t 13), (.t 14)]), .r 16 0 15, .n 17 0]]) (.block 2 (.loop A5e))))) (.ops [[.b 28 .add 10 1, .m 10 28]])))
def A5d : AC := A3D
theorem A8G : A5d = A3D := rfl
@[go_sem] def A6C : AC := .seq (.ops [[.j 1 (.box 760001 11 (.t 0)), .j 2 (.mov (.c .nils))]]) (.seq (.ops [[.j 3 (.mov (.c .nils))]]) (.seq (.seq (.ops [[.a 7 5 1, .l 8 7, .r 9 0 8, .n 10 0]]) (.block 0 (.loop A5d))) (.seq (.ops [[.m 29 3, .m 2 29]]) .ret)))
theorem A5f : B3 Tryz.prog 76 = some (30, A6C, [.t 2]) := by kernel_rfl
@[go_sem] def A0r : AC := .seq (.ops [[.h 68 .lss 67 66]]) (.seq (.cond (.t 68) .skip (.exit 1)) (.seq (.block 2 (.seq (.ops [[.i 69 1 65 67, .l 70 69, .m 11 70]]) (.seq (.ops [[.w 71 11 3, .m 72 1, .m 73 11, .j 74 (.build [(.int .i64 0), (.int .i64 0)] [(0, 1, (.t 72)), (1, 1, (.t 73))]), .w 75 3 7, .j 76 (.call 107 [(.t 71), (.t 74), (.t 75)]), .j 12 (.box 770012 3 (.c (.agg [.nils, (.int .i64 0), .nils]))), .s 3 12 76]]) (.seq (.ops [[.a 77 1 12, .l 78 77, .m 79 2, .m 80 11, .j 81 (.look 0 (.agg [.nils, (.int .i64 0), .nils]) false (.t 79) (.t 80)), .j 82 (.fld 1 1 false (.t 81)), .h 83 .neq 78 82, .m 84 83, .k 85 84 false (.faddr 2 (.t 12)), .k 86 84 false (.load 1 false (.t 85)), .k 87 84 false (.mov (.t 2)), .k 88 84 false (.mov (.t 11)), .k 89 84 false (.look 0 (.agg [.nils, (.int .i64 0), .nils]) false (.t 87) (.t 88)), .k 90 84 false (.fld 2 1 false (.t 89)), .k 91 84 false (.call 31 [(.t 86), (.t 90)]), .k 92 84 false (.un .not (.t 91)), .j 93 (.pick (.t 84) (.c (.bool true)) (.t 92)), .m 94 93, .k 95 94 false (.mov (.t 11)), .k 96 94 false (.mov (.t 1)), .k 97 94 false (.bin .leq (.t 95) (.t 96)), .k 98 94 false (.mov (.t 97)), .k 99 98 true (.faddr 5 (.t 3)), .k 100 98 true (.load 1 false (.t 99)), .k 101 98 true (.mov (.t 11)), .k 102 98 true (.iaddr 5 (.t 100) (.t 101)), .k 103 98 true (.faddr 0 (.t 102)), .k 104 98 true (.load 1 false (.t 103)), .k 105 98 true (.bin .neq (.t 104) (.z 29)), .k 106 94 false (.pick (.t 98) (.t 105) (.c (.bool false))), .j 107 (.pick (.t 94) (.c (.bool true)) (.t 106))]]) (.cond (.t 107) (.seq (.ops [[.t 6 true]]) .ret) .skip))))) (.ops [[.b 108 .add 67 1, .m 67 108]])))
def A1z : AC := A0r
theorem A5C : A1z = A0r := rfl
@[go_sem] def j5 : AC := .seq (.ops [[.j 3 (.box 770003 11 (.t 0)), .t 6 false]]) (.seq (.ops [[.m 14 2, .m 15 1, .j 16 (.look 0 (.agg [.nils, (.int .i64 0), .nils]) true (.t 14) (.t 15)), .m 13 16, .x 17 0 13, .x 18 1 13, .j 7 (.box 770007 3 (.c (.agg [.nils, (.int .i64 0), .nils]))), .s 3 7 17, .m 8 18]]) (.seq (.seq (.ops [[.m 19 8, .j 20 (.un .not (.t 19))]]) (.cond (.t 20) (.seq (.ops [[.t 6 false]]) .ret) .skip)) (.seq (.ops [[.a 21 5 3, .l 22 21, .m 23 1, .i 24 5 22 23, .w 25 5 24, .j 9 (.box 770009 5 (.c (.agg [(.int .i64 0), (.int .i64 0), (.int .i64 0), (.int .i64 0), (.int .i64 0)]))), .s 5 9 25]]) (.seq (.block 0 (.seq (.ops [[.w 27 5 9, .c 28 53 27, .m 29 28, .k 30 29 true (.mov (.t 1)), .k 31 29 true (.faddr 5 (.t 3)), .k 32 29 true (.load 1 false (.t 31)), .k 33 29 true (.len 0 (.t 32)), .k 34 29 true (.bin .sub (.t 33) (.z 1)), .k 35 29 true (.bin .eql (.t 30) (.t 34)), .j 36 (.pick (.t 29) (.t 35) (.c (.bool false))), .m 26 36]]) (.cond (.t 26) (.seq (.ops [[.t 6 true]]) .ret) (.seq (.ops [[.w 38 11 3, .w 39 5 9, .w 40 3 7, .j 41 (.call 109 [(.t 38), (.t 39), (.t 40)]), .j 42 (.un .not (.t 41)), .m 37 42]]) (.cond (.t 37) (.seq (.ops [[.t 6 true]]) .ret) (.seq (.ops [[.a 44 0 9, .l 45 44, .b 46 .eql 45 28, .m 47 46, .k 48 47 true (.faddr 2 (.t 7)), .k 49 47 true (.load 1 false (.t 48)), .k 50 47 true (.mkfn 110 [(.t 9)]), .k 51 47 true (.call 85 [(.t 49), (.t 50)]), .j 52 (.pick (.t 47) (.t 51) (.c (.bool false))), .m 43 52]]) (.cond (.t 43) (.seq (.ops [[.t 6 true]]) .ret) (.seq (.ops [[.a 54 0 9, .l 55 54, .b 56 .eql 55 17, .m 57 56, .k 58 57 true (.faddr 2 (.t 7)), .k 59 57 true (.load 1 false (.t 58)), .k 60 57 true (.len 0 (.t 59)), .k 61 57 true (.bin .gtr (.t 60) (.z 0)), .j 62 (.pick (.t 57) (.t 61) (.c (.bool false))), .m 53 62]]) (.cond (.t 53) (.seq (.ops [[.t 6 true]]) .ret) .skip))))))))) (.seq (.seq (.ops [[.w 63 11 3, .m 64 1, .j 65 (.call 38 [(.t 63), (.t 64)]), .r 66 0 65, .n 67 0]]) (.block 1 (.loop A1z))) (.seq (.ops [[.t 6 false]]) .ret))))))
theorem W6 : B3 Tryz.prog 77 = some (109, j5, [.t 6]) := by kernel_rfl
@[go_sem] def J3 : AC := .seq (.ops [[.j 2 (.mov (.c .nils))]]) (.seq (.seq (.ops [[.m 3 0, .j 4 (.eqn false false (.t 3))]]) (.cond (.t 4) (.seq (.ops [[.j 2 (.mov (.c .nils))]]) .ret) .skip)) (.seq (.ops [[.j 5 (.mkrow 780005 5 []), .m 6 0, .j 7 (.apb 3518437208883 780007 5 (.t 5) (.t 6)), .m 2 7]]) .ret))
theorem H8 : B3 Tryz.prog 78 = some (8, J3, [.t 2]) := by kernel_rfl
@[go_sem] def J4 : AC := .seq (.ops [[.j 2 (.mov (.c .nils))]]) (.seq (.seq (.ops [[.m 3 0, .j 4 (.eqn false false (.t 3))]]) (.cond (.t 4) (.seq (.ops [[.j 2 (.mov (.c .nils))]]) .ret) .skip)) (.seq (.ops [[.j 5 (.mkrow 790005 5 []), .m 6 0, .j 7 (.apb 2932031007402 790007 5 (.t 5) (.t 6)), .m 2 7]]) .ret))
theorem H9 : B3 Tryz.prog 79 = some (8, J4, [.t 2]) := by kernel_rfl
@[go_sem] def P7 : AC := .seq (.ops [[.j 2 (.mov (.c .nils))]]) (.seq (.seq (.ops [[.m 3 0, .j 4 (.eqn false false (.t 3))]]) (.cond (.t 4) (.seq (.ops [[.j 2 (.mov (.c .nils))]]) .ret) .skip)) (.seq (.ops [[.j 5 (.mkrow 800005 3 []), .m 6 0, .j 7 (.apb 4398046511104 800007 3 (.t 5) (.t 6)), .m 2 7]]) .ret))
theorem N8 : B3 Tryz.prog 80 = some (8, P7, [.t 2]) := by kernel_rfl
@[go_sem] def M8 : AC := .seq (.ops [[.j 2 (.mov (.c .nils))]]) (.seq (.seq (.ops [[.m 3 0, .j 4 (.eqn false false (.t 3))]]) (.cond (.t 4) (.seq (.ops [[.j 2 (.mov (.c .nils))]]) .ret) .skip)) (.seq (.ops [[.j 5 (.mkrow 810005 5 []), .m 6 0, .j 7 (.apb 2932031007402 810007 5 (.t 5) (.t 6)), .m 2 7]]) .ret))
theorem L7 : B3 Tryz.prog 81 = some (8, M8, [.t 2]) := by kernel_rfl
@[go_sem] def A3o : AC := .seq (.ops [[.t 2 false]]) (.seq (.ops [[.m 3 0, .r 4 1 3, .b 5 .gtr 4 40, .m 2 5]]) .ret)
theorem A2f : B3 Tryz.prog 82 = some (6, A3o, [.t 2]) := by kernel_rfl
@[go_sem] def A3p : AC := .seq (.ops [[.j 2 (.box 830002 3 (.t 0)), .t 3 false]]) (.seq (.ops [[.l 4 1, .a 5 0 2, .l 6 5, .j 7 (.callv (.t 4) [(.t 6)]), .m 3 7]]) .ret)
theorem A2g : B3 Tryz.prog 83 = some (8, A3p, [.t 3]) := by kernel_rfl
@[go_sem] def A3q : AC := .seq (.ops [[.j 2 (.box 840002 5 (.t 0)), .t 3 false]]) (.seq (.ops [[.l 4 1, .a 5 0 2, .l 6 5, .j 7 (.callv (.t 4) [(.t 6)]), .m 3 7]]) .ret)
theorem A2h : B3 Tryz.prog 84 = some (8, A3q, [.t 3]) := by kernel_rfl
@[go_sem] def N9 : AC := .seq (.ops [[.t 4 false]]) (.seq (.ops [[.m 5 0, .m 6 1, .j 7 (.call 111 [(.t 5), (.t 6)]), .b 8 .geq 7 0, .m 4 8]]) .ret)
theorem N0 : B3 Tryz.prog 85 = some (9, N9, [.t 4]) := by kernel_rfl
@[go_sem] def A6m : AC := .seq (.ops [[.t 2 false]]) (.seq (.ops [[.m 3 0, .b 4 .lss 3 0, .m 2 4]]) .ret)
theorem A4O : B3 Tryz.prog 86 = some (5, A6m, [.t 2]) := by kernel_rfl
@[go_sem] def A6n : AC := .seq (.ops [[.j 1 (.box 870001 3 (.t 0)), .t 2 false]]) (.seq (.ops [[.a 3 2 1, .l 4 3, .b 5 .lss 4 0, .m 2 5]]) .ret)
theorem A4P : B3 Tryz.prog 87 = some (6, A6n, [.t 2]) := by kernel_rfl
@[go_sem] def A7M : AC := .seq (.ops [[.j 1 (.box 880001 5 (.t 0)), .t 2 false]]) (.seq (.ops [[.a 5 0 1, .l 6 5, .j 7 (.build [(.int .i64 0), (.int .i64 0), (.int .i64 0), (.str []), (.int .i64 0)] [(0, 1, (.t 6))]), .j 3 (.box 880003 5 (.c (.agg [(.int .i64 0), (.int .i64 0), (.int .i64 0), (.str []), (.int .i64 0)]))), .s 5 3 7]]) (.seq (.ops [[.t 4 true]]) (.seq (.seq (.ops [[.a 8 0 1, .l 9 8]]) (.block 0 (.seq (.ops [[.b 11 .eql 9 0, .m 10 11]]) (.cond (.t 10) .skip (.seq (.ops [[.b 13 .eql 9 1, .m 12 13]]) (.cond (.t 12) (.seq (.ops [[.a 14 4 1, .l 15 14, .a 16 4 3, .s 1 16 15]]) (.ops [[.a 17 4 1, .l 18 17, .b 19 .eql 18 0, .m 20 19, .k 21 20 false (.faddr 4 (.t 1)), .k 22 20 false (.load 1 false (.t 21)), .k 23 20 false (.bin .eql (.t 22) (.z 1)), .j 24 (.pick (.t 20) (.c (.bool true)) (.t 23)), .m 4 24]])) (.seq (.ops [[.b 26 .eql 9 2, .m 25 26]]) (.cond (.t 25) (.seq (.ops [[.a 27 1 1, .w 28 2 27, .a 29 1 3, .s 2 29 28]]) (.ops [[.a 30 1 1, .w 31 2 30, .c 32 112 31, .m 4 32]])) (.seq (.ops [[.b 34 .eql 9 3, .m 33 34]]) (.cond (.t 33) (.seq (.ops [[.a 35 3 1, .l 36 35, .a 37 3 3, .s 1 37 36]]) (.ops [[.a 38 3 1, .l 39 38, .r 40 1 39, .b 41 .leq 40 4096, .m 4 41]])) (.seq (.seq (.ops [[.b 43 .eql 9 4, .m 42 43]]) (.cond (.t 42) .skip (.seq (.ops [[.b 44 .eql 9 5, .m 42 44]]) (.cond (.t 42) .skip (.seq (.ops [[.b 45 .eql 9 7, .m 42 45]]) (.cond (.t 42) .skip (.ops [[.b 46 .eql 9 8, .m 42 46]]))))))) (.cond (.t 42) (.seq (.ops [[.a 47 4 1, .l 48 47, .a 49 4 3, .s 1 49 48]]) (.ops [[.a 50 4 1, .l 51 50, .b 52 .geq 51 1, .m 4 52]])) (.seq (.ops [[.b 54 .eql 9 6, .m 53 54]]) (.cond (.t 53) (.seq (.ops [[.a 55 3 1, .l 56 55, .a 57 3 3, .s 1 57 56]]) (.ops [[.a 58 3 1, .l 59 58, .r 60 1 59, .b 61 .geq 60 1, .m 62 61, .k 63 62 true (.faddr 3 (.t 1)), .k 64 62 true (.load 1 false (.t 63)), .k 65 62 true (.len 1 (.t 64)), .k 66 62 true (.bin .leq (.t 65) (.z 4096)), .j 67 (.pick (.t 62) (.t 66) (.c (.bool false))), .m 4 67]])) (.ops [[.t 4 false]]))))))))))))))) (.seq (.ops [[.m 68 4, .m 69 68, .k 70 69 true (.load 5 true (.t 1)), .k 71 69 true (.load 5 true (.t 3)), .k 72 69 true (.eqa false (.agg [(0, 1, (.leaf 1)), (1, 2, (.agg [(0, 1, (.leaf 1)), (1, 1, (.leaf 1))])), (3, 1, (.leaf 2)), (4, 1, (.leaf 1))]) (.t 70) (.t 71)), .j 73 (.pick (.t 69) (.t 72) (.c (.bool false))), .m 2 73]]) .ret))))
theorem A6A : B3 Tryz.prog 88 = some (74, A7M, [.t 2]) := by kernel_rfl
@[go_sem] def A6u : AC := .seq (.ops [[.j 3 (.box 890003 11 (.t 0)), .t 6 false]]) (.seq (.ops [[.m 7 2, .a 8 4 3, .l 9 8, .h 10 .leq 7 9, .m 11 10, .k 12 11 true (.mov (.t 1)), .k 13 11 true (.mkfn 113 [(.t 3)]), .k 14 11 true (.call 85 [(.t 12), (.t 13)]), .k 15 11 true (.un .not (.t 14)), .j 16 (.pick (.t 11) (.t 15) (.c (.bool false))), .m 6 16]]) .ret)
theorem A4W : B3 Tryz.prog 89 = some (17, A6u, [.t 6]) := by kernel_rfl
@[go_sem] def A6r : AC := .seq (.ops [[.j 2 (.box 900002 11 (.t 0)), .j 3 (.box 900003 5 (.t 1)), .t 4 false]]) (.seq (.seq (.ops [[.w 8 5 3, .c 9 114 8, .m 7 9, .x 10 0 7, .x 11 1 7, .m 5 10, .m 6 11]]) (.seq (.ops [[.m 12 5, .a 13 7 2, .l 14 13, .r 15 0 14, .h 16 .geq 12 15, .m 17 16, .k 18 17 false (.mov (.t 5)), .k 19 17 false (.bin .geq (.t 18) (.z 0)), .k 20 17 false (.mov (.t 19)), .k 21 20 true (.mov (.t 6)), .k 22 17 false (.pick (.t 20) (.t 21) (.c (.bool false))), .k 23 17 false (.mov (.t 22)), .k 24 23 true (.faddr 7 (.t 2)), .k 25 23 true (.load 1 false (.t 24)), .k 26 23 true (.mov (.t 5)), .k 27 23 true (.iaddr 5 (.t 25) (.t 26)), .k 28 23 true (.faddr 0 (.t 27)), .k 29 23 true (.load 1 false (.t 28)), .k 30 23 true (.bin .neq (.t 29) (.z 3)), .k 31 17 false (.pick (.t 23) (.t 30) (.c (.bool false))), .j 32 (.pick (.t 17) (.c (.bool true)) (.t 31))]]) (.cond (.t 32) (.seq (.ops [[.t 4 false]]) .ret) .skip))) (.seq (.seq (.ops [[.a 33 0 3, .l 34 33]]) (.block 0 (.seq (.ops [[.b 36 .eql 34 5, .m 35 36]]) (.cond (.t 35) (.seq (.ops [[.a 37 2 3, .l 38 37, .a 39 9 2, .l 40 39, .r 41 0 40, .h 42 .lss 38 41, .m 4 42]]) .ret) (.seq (.ops [[.b 44 .eql 34 6, .m 43 44]]) (.cond (.t 43) (.seq (.ops [[.a 45 1 3, .l 46 45, .a 47 9 2, .l 48 47, .r 49 0 48, .h 50 .lss 46 49, .m 4 50]]) .ret) (.seq (.ops [[.b 52 .eql 34 22, .m 51 52]]) (.cond (.t 51) (.seq (.ops [[.a 53 2 3, .l 54 53, .a 55 8 2, .l 56 55, .r 57 0 56, .h 58 .lss 54 57, .m 4 58]]) .ret) (.seq (.ops [[.b 60 .eql 34 19, .m 59 60]]) (.cond (.t 59) (.seq (.ops [[.a 61 3 2, .l 62 61, .m 4 62]]) .ret) .skip)))))))))) (.seq (.ops [[.t 4 true]]) .ret)))
theorem A4R : B3 Tryz.prog 90 = some (63, A6r, [.t 4]) := by kernel_rfl
@[go_sem] def B1k : AC := .seq (.ops [[.j 2 (.box 1020002 6 (.c (.agg [(.str []), (.int .i64 0), (.int .i64 0), (.int .i64 0), (.int .i64 0), (.int .i64 0)]))), .t 3 false]]) (.seq (.ops [[.j 6 (.call 121 [(.c (.str [109, 111, 118, 101, 32, 99, 111, 110, 115, 116, 32, 110, 105, 108, 32, 98, 111, 111, 108, 32, 117, 112, 103, 101, 116, 32, 117, 112, 115, 101, 116, 32, 103, 108, 111, 98, 97, 108, 32, 115, 101, 116, 103, 108, 111, 98, 32, 103, 101, 116, 32, 115, 101, 116, 32, 115, 101, 108, 102, 32, 117, 110, 97, 114, 121, 32, 98, 105, 110, 97, 114, 121, 32, 106, 117, 109, 112, 32, 116, 101, 115, 116, 32, 99, 97, 108, 108, 32, 116, 97, 105, 108, 32, 114, 101, 116, 117, 114, 110, 32, 118, 97, 114, 97, 114, 103, 32, 116, 97, 98, 108, 101, 32, 97, 112, 112, 101, 110, 100, 32, 99, 108, 111, 115, 117, 114, 101, 32, 112, 114, 101, 112, 32, 108, 111, 111, 112, 32, 105, 116, 101, 114, 32, 110, 101, 120, 116, 32, 99, 108, 111, 115, 101, 32, 109, 97, 114, 107, 32, 115, 116, 97, 116]))]), .m 4 6]]) (.seq (.seq (.ops [[.m 7 0, .b 8 .lss 7 1, .m 9 8, .k 10 9 false (.mov (.t 0)), .k 11 9 false (.mov (.t 4)), .k 12 9 false (.len 0 (.t 11)), .k 13 9 false (.bin .gtr (.t 10) (.t 12)), .j 14 (.pick (.t 9) (.c (.bool true)) (.t 13))]]) (.cond (.t 14) (.seq (.ops [[.j 15 (.build [(.str []), (.int .i64 0), (.int .i64 0), (.int .i64 0), (.int .i64 0), (.int .i64 0)] []), .s 6 2 15, .t 3 false]]) .ret) .skip)) (.seq (.ops [[.m 16 0, .c 17 122 16, .j 5 (.box 1020005 6 (.c (.agg [(.str []), (.int .i64 0), (.int .i64 0), (.int .i64 0), (.int .i64 0), (.int .i64 0)]))), .s 6 5 17]]) (.seq (.ops [[.m 18 4, .m 19 0, .b 20 .sub 19 1, .i 21 1 18 20, .l 22 21, .a 23 0 5, .s 1 23 22]]) (.seq (.ops [[.w 24 6 5, .s 6 2 24, .t 3 true]]) .ret)))))
theorem A9D : B3 Tryz.prog 102 = some (25, B1k, [.c 2 6 true, .t 3]) := by kernel_rfl
@[go_sem] def A4E : AC := .seq (.ops [[.j 2 (.box 1030002 6 (.t 0)), .j 3 (.box 1030003 5 (.t 1)), .j 4 (.box 1030004 4 (.c (.agg [(.int .i64 0), (.int .i64 0), (.int .i64 0), (.int .i64 0)]))), .j 5 (.box 1030005 4 (.c (.agg [(.int .i64 0), (.int .i64 0), (.int .i64 0), (.int .i64 0)])))]]) (.seq (.ops [[.a 6 1 2, .l 7 6, .a 8 2 2, .l 9 8, .a 10 3 2, .l 11 10, .a 12 4 2, .l 13 12, .j 14 (.build [(.int .i64 0), (.int .i64 0), (.int .i64 0), (.int .i64 0)] [(0, 1, (.t 7)), (1, 1, (.t 9)), (2, 1, (.t 11)), (3, 1, (.t 13))]), .a 15 1 3, .l 16 15, .a 17 2 3, .l 18 17, .a 19 3 3, .l 20 19, .a 21 4 3, .l 22 21, .j 23 (.build [(.int .i64 0), (.int .i64 0), (.int .i64 0), (.int .i64 0)] [(0, 1, (.t 16)), (1, 1, (.t 18)), (2, 1, (.t 20)), (3, 1, (.t 22))]), .s 4 4 14, .s 4 5 23], [.a 6 1 2, .l 7 6, .a 8 2 2, .l 9 8, .a 10 3 2, .l 11 10, .a 12 4 2, .l 13 12, .j 14 (.build [(.int .i64 0), (.int .i64 0), (.int .i64 0), (.int .i64 0)] [(0, 1, (.t 7)), (1, 1, (.t 9)), (2, 1, (.t 11)), (3, 1, (.t 13))]), .a 15 1 3, .l 16 15, .a 17 2 3, .l 18 17, .a 19 3 3, .l 20 19, .a 21 4 3, .s 4 4 14, .l 22 21, .j 23 (.build [(.int .i64 0), (.int .i64 0), (.int .i64 0), (.int .i64 0)] [(0, 1, (.t 16)), (1, 1, (.t 18)), (2, 1, (.t 20)), (3, 1, (.t 22))]), .s 4 5 23], [.a 6 1 2, .l 7 6, .a 8 2 2, .l 9 8, .a 10 3 2, .l 11 10, .a 12 4 2, .l 13 12, .j 14 (.build [(.int .i64 0), (.int .i64 0), (.int .i64 0), (.int .i64 0)] [(0, 1, (.t 7)), (1, 1, (.t 9)), (2, 1, (.t 11)), (3, 1, (.t 13))]), .a 15 1 3, .l 16 15, .a 17 2 3, .l 18 17, .a 19 3 3, .a 21 4 3, .l 22 21, .s 4 4 14, .l 20 19, .j 23 (.build [(.int .i64 0), (.int .i64 0), (.int .i64 0), (.int .i64 0)] [(0, 1, (.t 16)), (1, 1, (.t 18)), (2, 1, (.t 20)), (3, 1, (.t 22))]), .s 4 5 23], [.a 6 1 2, .l 7 6, .a 8 2 2, .l 9 8, .a 10 3 2, .l 11 10, .a 12 4 2, .l 13 12, .j 14 (.build [(.int .i64 0), (.int .i64 0), (.int .i64 0), (.int .i64 0)] [(0, 1, (.t 7)), (1, 1, (.t 9)), (2, 1, (.t 11)), (3, 1, (.t 13))]), .a 15 1 3, .l 16 15, .a 17 2 3, .l 18 17, .a 19 3 3, .a 21 4 3, .s 4 4 14, .l 20 19, .l 22 21, .j 23 (.build [(.int .i64 0), (.int .i64 0), (.int .i64 0), (.int .i64 0)] [(0, 1, (.t 16)), (1, 1, (.t 18)), (2, 1, (.t 20)), (3, 1, (.t 22))]), .s 4 5 23], [.a 6 1 2, .l 7 6, .a 8 2 2, .l 9 8, .a 10 3 2, .l 11 10, .a 12 4 2, .l 13 12, .j 14 (.build [(.int .i64 0), (.int .i64 0), (.int .i64 0), (.int .i64 0)] [(0, 1, (.t 7)), (1, 1, (.t 9)), (2, 1, (.t 11)), (3, 1, (.t 13))]), .a 15 1 3, .l 16 15, .a 17 2 3, .a 19 3 3, .l 20 19, .a 21 4 3, .l 22 21, .s 4 4 14, .l 18 17, .j 23 (.build [(.int .i64 0), (.int .i64 0), (.int .i64 0), (.int .i64 0)] [(0, 1, (.t 16)), (1, 1, (.t 18)), (2, 1, (.t 20)), (3, 1, (.t 22))]), .s 4 5 23], [.a 6 1 2, .l 7 6, .a 8 2 2, .l 9 8, .a 10 3 2, .l 11 10, .a 12 4 2, .l 13 12, .j 14 (.build [(.int .i64 0), (.int .i64 0), (.int .i64 0), (.int .i64 0)] [(0, 1, (.t 7)), (1, 1, (.t 9)), (2, 1, (.t 11)), (3, 1, (.t 13))]), .a 15 1 3, .l 16 15, .a 17 2 3, .a 19 3 3, .l 20 19, .a 21 4 3, .s 4 4 14, .l 18 17, .l 22 21, .j 23 (.build [(.int .i64 0), (.int .i64 0), (.int .i64 0), (.int .i64 0)] [(0, 1, (.t 16)), (1, 1, (.t 18)), (2, 1, (.t 20)), (3, 1, (.t 22))]), .s 4 5 23], [.a 6 1 2, .l 7 6, .a 8 2 2, .l 9 8, .a 10 3 2, .l 11 10, .a 12 4 2, .l 13 12, .j 14 (.build [(.int .i64 0), (.int .i64 0), (.int .i64 0), (.int .i64 0)] [(0, 1, (.t 7)), (1, 1, (.t 9)), (2, 1, (.t 11)), (3, 1, (.t 13))]), .a 15 1 3, .l 16 15, .a 17 2 3, .a 19 3 3, .a 21 4 3, .l 22 21, .s 4 4 14, .l 18 17, .l 20 19, .j 23 (.build [(.int .i64 0), (.int .i64 0), (.int .i64 0), (.int .i64 0)] [(0, 1, (.t 16)), (1, 1, (.t 18)), (2, 1, (.t 20)), (3, 1, (.t 22))]), .s 4 5 23], [.a 6 1 2, .l 7 6, .a 8 2 2, .l 9 8, .a 10 3 2, .l 11 10, .a 12 4 2, .l 13 12, .j 14 (.build [(.int .i64 0), (.int .i64 0), (.int .i64 0), (.int .i64 0)] [(0, 1, (.t 7)), (1, 1, (.t 9)), (2, 1, (.t 11)), (3, 1, (.t 13))]), .a 15 1 3, .l 16 15, .a 17 2 3, .a 19 3 3, .a 21 4 3, .s 4 4 14, .l 18 17, .l 20 19, .l 22 21, .j 23 (.build [(.int .i64 0), (.int .i64 0), (.int .i64 0), (.int .i64 0)] [(0, 1, (.t 16)), (1, 1, (.t 18)), (2, 1, (.t 20)), (3, 1, (.t 22))]), .s 4 5 23], [.a 6 1 2, .l 7 6, .a 8 2 2, .l 9 8, .a 10 3 2, .l 11 10, .a 12 4 2, .l 13 12, .j 14 (.build [(.int .i64 0), (.int .i64 0), (.int .i64 0), (.int .i64 0)] [(0, 1, (.t 7)), (1, 1, (.t 9)), (2, 1, (.t 11)), (3, 1, (.t 13))]), .a 15 1 3, .a 17 2 3, .l 18 17, .a 19 3 3, .l 20 19, .a 21 4 3, .l 22 21, .s 4 4 14, .l 16 15, .j 23 (.build [(.int .i64 0), (.int .i64 0), (.int .i64 0), (.int .i64 0)] [(0, 1, (.t 16)), (1, 1, (.t 18)), (2, 1, (.t 20)), (3, 1, (.t 22))]), .s 4 5 23], [.a 6 1 2, .l 7 6, .a 8 2 2, .l 9 8, .a 10 3 2, .l 11 10, .a 12 4 2, .l 13 12, .j 14 (.build [(.int .i64 0), (.int .i64 0), (.int .i64 0), (.int .i64 0)] [(0, 1, (.t 7)), (1, 1, (.t 9)), (2, 1, (.t 11)), (3, 1, (.t 13))]), .a 15 1 3, .a 17 2 3, .l 18 17, .a 19 3 3, .l 20 19, .a 21 4 3, .s 4 4 14, .l 16 15, .l 22 21, .j 23 (.build [(.int .i64 0), (.int .i64 0), (.int .i64 0), (.int .i64 0)] [(0, 1, (.t 16)), (1, 1, (.t 18)), (2, 1, (.t 20)), (3, 1, (.t 22))]), .s 4 5 23], [.a 6 1 2, .l 7 6, .a 8 2 2, .l 9 8, .a 10 3 2, .l 11 10, .a 12 4 2, .l 13 12, .j 14 (.build [(.int .i64 0), (.int .i64 0), (.int .i64 0), (.int .i64 0)] [(0, 1, (.t 7)), (1, 1, (.t 9)), (2, 1, (.t 11)), (3, 1, (.t 13))]), .a 15 1 3, .a 17 2 3, .l 18 17, .a 19 3 3, .a 21 4 3, .l 22 21, .s 4 4 14, .l 16 15, .l 20 19, .j 23 (.build [(.int .i64 0), (.int .i64 0), (.int .i64 0), (.int .i64 0)] [(0, 1, (.t 16)), (1, 1, (.t 18)), (2, 1, (.t 20)), (3, 1, (.t 22))]), .s 4 5 23], [.a 6 1 2, .l 7 6, .a 8 2 2, .l 9 8, .a 10 3 2, .l 11 10, .a 12 4 2, .l 13 12, .j 14 (.build [(.int .i64 0), (.int .i64 0), (.int .i64 0), (.int .i64 0)] [(0, 1, (.t 7)), (1, 1, (.t 9)), (2, 1, (.t 11)), (3, 1, (.t 13))]), .a 15 1 3, .a 17 2 3, .l 18 17, .a 19 3 3, .a 21 4 3, .s 4 4 14, .l 16 15, .l 20 19, .l 22 21, .j 23 (.build [(.int .i64 0), (.int .i64 0), (.int .i64 0), (.int .i64 0)] [(0, 1, (.t 16)), (1, 1, (.t 18)), (2, 1, (.t 20)), (3, 1, (.t 22))]), .s 4 5 23], [.a 6 1 2, .l 7 6, .a 8 2 2, .l 9 8, .a 10 3 2, .l 11 10, .a 12 4 2, .l 13 12, .j 14 (.build [(.int .i64 0), (.int .i64 0), (.int .i64 0), (.int .i64 0)] [(0, 1, (.t 7)), (1, 1, (.t 9)), (2, 1, (.t 11)), (3, 1, (.t 13))]), .a 15 1 3, .a 17 2 3, .a 19 3 3, .l 20 19, .a 21 4 3, .l 22 21, .s 4 4 14, .l 16 15, .l 18 17, .j 23 (.build [(.int .i64 0), (.int .i64 0), (.int .i64 0), (.int .i64 0)] [(0, 1, (.t 16)), (1, 1, (.t 18)), (2, 1, (.t 20)), (3, 1, (.t 22))]), .s 4 5 23], [.a 6 1 2, .l 7 6, .a 8 2 2, .l 9 8, .a 10 3 2, .l 11 10, .a 12 4 2, .l 13 12, .j 14 (.build [(.int .i64 0), (.int .i64 0), (.int .i64 0), (.int .i64 0)] [(0, 1, (.t 7)), (1, 1, (.t 9)), (2, 1, (.t 11)), (3, 1, (.t 13))]), .a 15 1 3, .a 17 2 3, .a 19 3 3, .l 20 19, .a 21 4 3, .s 4 4 14, .l 16 15, .l 18 17, .l 22 21, .j 23 (.build [(.int .i64 0), (.int .i64 0), (.int .i64 0), (.int .i64 0)] [(0, 1, (.t 16)), (1, 1, (.t 18)), (2, 1, (.t 20)), (3, 1, (.t 22))]), .s 4 5 23], [.a 6 1 2, .l 7 6, .a 8 2 2, .l 9 8, .a 10 3 2, .l 11 10, .a 12 4 2, .l 13 12, .j 14 (.build [(.int .i64 0), (.int .i64 0), (.int .i64 0), (.int .i64 0)] [(0, 1, (.t 7)), (1, 1, (.t 9)), (2, 1, (.t 11)), (3, 1, (.t 13))]), .a 15 1 3, .a 17 2 3, .a 19 3 3, .a 21 4 3, .l 22 21, .s 4 4 14, .l 16 15, .l 18 17, .l 20 19, .j 23 (.build [(.int .i64 0), (.int .i64 0), (.int .i64 0), (.int .i64 0)] [(0, 1, (.t 16)), (1, 1, (.t 18)), (2, 1, (.t 20)), (3, 1, (.t 22))]), .s 4 5 23], [.a 6 1 2, .l 7 6, .a 8 2 2, .l 9 8, .a 10 3 2, .l 11 10, .a 12 4 2, .l 13 12, .j 14 (.build [(.int .i64 0), (.int .i64 0), (.int .i64 0), (.int .i64 0)] [(0, 1, (.t 7)), (1, 1, (.t 9)), (2, 1, (.t 11)), (3, 1, (.t 13))]), .a 15 1 3, .a 17 2 3, .a 19 3 3, .a 21 4 3, .s 4 4 14, .l 16 15, .l 18 17, .l 20 19, .l 22 21, .j 23 (.build [(.int .i64 0), (.int .i64 0), (.int .i64 0), (.int .i64 0)] [(0, 1, (.t 16)), (1, 1, (.t 18)), (2, 1, (.t 20)), (3, 1, (.t 22))]), .s 4 5 23]]) .ret)
theorem A2U : B3 Tryz.prog 103 = some (24, A4E, [.c 4 4 true, .c 5 4 true]) := by kernel_rfl
@[go_sem] def A2T : AC := .seq (.ops [[.n 2 0, .n 3 0]]) (.seq (.seq (.ops [[.m 4 0]]) (.block 0 (.seq (.ops [[.b 6 .eql 4 1, .m 5 6]]) (.cond (.t 5) (.seq (.ops [[.n 2 0, .n 3 4095]]) .ret) (.seq (.ops [[.b 8 .eql 4 2, .m 7 8]]) (.cond (.t 7) (.seq (.ops [[.n 2 0, .n 3 4095]]) .ret) (.seq (.ops [[.b 10 .eql 4 3, .m 9 10]]) (.cond (.t 9) (.seq (.ops [[.n 2 0, .n 3 59]]) .ret) (.seq (.ops [[.b 12 .eql 4 4, .m 11 12]]) (.cond (.t 11) (.seq (.ops [[.n 2 0, .n 3 1023]]) .ret) (.seq (.ops [[.b 14 .eql 4 5, .m 13 14]]) (.cond (.t 13) (.seq (.ops [[.n 2 0, .n 3 16383]]) .ret) (.seq (.ops [[.b 16 .eql 4 6, .m 15 16]]) (.cond (.t 15) (.seq (.ops [[.n 2 (-1), .n 3 200]]) .ret) (.seq (.ops [[.b 18 .eql 4 7, .m 17 18]]) (.cond (.t 17) (.seq (.ops [[.n 2 (-1), .n 3 4096]]) .ret) (.seq (.ops [[.b 20 .eql 4 8, .m 19 20]]) (.cond (.t 19) (.seq (.ops [[.n 2 0, .n 3 1]]) .ret) (.seq (.ops [[.b 22 .eql 4 9, .m 21 22]]) (.cond (.t 21) (.seq (.ops [[.n 2 20, .n 3 23]]) .ret) (.seq (.ops [[.b 24 .eql 4 10, .m 23 24]]) (.cond (.t 23) (.seq (.ops [[.n 2 1, .n 3 19]]) .ret) (.seq (.ops [[.b 26 .eql 4 11, .m 25 26]]) (.cond (.t 25) (.seq (.ops [[.n 2 1, .n 3 200]]) .ret) (.seq (.ops [[.b 28 .eql 4 12, .m 27 28]]) (.cond (.t 27) (.seq (.ops [[.n 2 1, .n 3 32767]]) .ret) .skip)))))))))))))))))))))))))) (.seq (.ops [[.n 2 0, .n 3 0]]) .ret))
theorem A9C : B3 Tryz.prog 104 = some (29, A2T, [.t 2, .t 3]) := by kernel_rfl
@[go_sem] def A7A : AC := .seq (.ops [[.j 2 (.box 1050002 6 (.t 0)), .j 3 (.box 1050003 5 (.t 1)), .n 4 0]]) (.seq (.ops [[.a 6 1 3, .l 7 6, .a 8 5 2, .l 9 8, .h 10 .add 7 9, .m 5 10]]) (.seq (.seq (.ops [[.a 11 0 3, .l 12 11]]) (.block 0 (.seq (.ops [[.b 14 .eql 12 16, .m 13 14]]) (.cond (.t 13) (.ops [[.a 15 1 3, .l 16 15, .a 17 2 3, .l 18 17, .h 19 .add 16 18, .a 20 1 3, .l 21 20, .a 22 3 3, .l 23 22, .h 24 .add 21 23, .b 25 .sub 24 1, .j 26 (.mm true [(.t 19), (.t 25)]), .m 5 26]]) (.seq (.seq (.ops [[.b 28 .eql 12 17, .m 27 28]]) (.cond (.t 27) .skip (.ops [[.b 29 .eql 12 21, .m 27 29]]))) (.cond (.t 27) (.ops [[.a 30 1 3, .l 31 30, .a 32 2 3, .l 33 32, .h 34 .add 31 33, .m 5 34]]) (.seq (.seq (.ops [[.b 36 .eql 12 18, .m 35 36]]) (.cond (.t 35) .skip (.ops [[.b 37 .eql 12 19, .m 35 37]]))) (.cond (.t 35) (.ops [[.a 38 1 3, .l 39 38, .a 40 2 3, .l 41 40, .h 42 .add 39 41, .b 43 .sub 42 1, .m 5 43]]) (.seq (.ops [[.b 45 .eql 12 25, .m 44 45]]) (.cond (.t 44) (.ops [[.a 46 1 3, .l 47 46, .b 48 .add 47 2, .a 49 3 3, .l 50 49, .h 51 .add 48 50, .m 5 51]]) .skip)))))))))) (.seq (.ops [[.m 52 5, .m 4 52]]) .ret)))
theorem A5X : B3 Tryz.prog 105 = some (53, A7A, [.t 4]) := by kernel_rfl
@[go_sem] def A3H : AC := .seq (.ops [[.h 12 .lss 11 10]]) (.seq (.cond (.t 12) .skip (.exit 0)) (.seq (.block 1 (.seq (.ops [[.m 13 11, .m 4 13]]) (.ops [[.a 14 0 3, .l 15 14, .m 16 4, .i 17 1 15 16, .e (.store 1 (.t 17) (.c (.bool true)))]]))) (.ops [[.b 18 .add 11 1, .m 11 18]])))
def A5g : AC := A3H
theorem A8I : A5g = A3H := rfl
@[go_sem] def A6D : AC := .seq (.ops [[.j 1 (.box 1060001 11 (.t 0)), .j 2 (.box 1060002 3 (.c (.agg [.nils, (.int .i64 0), .nils])))]]) (.seq (.ops [[.a 5 4 1, .l 6 5, .j 7 (.mksl 1060007 [(.bool false)] (.t 6)), .j 8 (.build [.nils, (.int .i64 0), .nils] [(0, 1, (.t 7)), (1, 1, (.z (-1)))]), .j 3 (.box 1060003 3 (.c (.agg [.nils, (.int .i64 0), .nils]))), .s 3 3 8]]) (.seq (.seq (.ops [[.a 9 2 1, .l 10 9, .n 11 0]]) (.block 0 (.loop A5g))) (.seq (.ops [[.w 19 3 3, .s 3 2 19]]) .ret)))
theorem A5h : B3 Tryz.prog 106 = some (20, A6D, [.c 2 3 true]) := by kernel_rfl
@[go_sem] def A5l : AC := .seq (.ops [[.j 3 (.box 1070003 11 (.t 0)), .j 4 (.box 1070004 2 (.t 1)), .j 5 (.box 1070005 3 (.t 2)), .j 6 (.box 1070006 3 (.c (.agg [.nils, (.int .i64 0), .nils])))]]) (.seq (.ops [[.a 10 5 3, .l 11 10, .j 12 (.iaddrA 2 1 (.t 4) (.z 0)), .l 13 12, .i 14 5 11 13, .w 15 5 14, .j 7 (.box 1070007 5 (.c (.agg [(.int .i64 0), (.int .i64 0), (.int .i64 0), (.int .i64 0), (.int .i64 0)]))), .s 5 7 15]]) (.seq (.ops [[.w 16 5 7, .w 17 3 5, .j 18 (.call 123 [(.t 16), (.t 17)]), .j 8 (.box 1070008 3 (.c (.agg [.nils, (.int .i64 0), .nils]))), .s 3 8 18]]) (.seq (.ops [[.a 19 0 7, .l 20 19, .b 21 .eql 20 23, .m 22 21, .k 23 22 true (.iaddrA 2 1 (.t 4) (.z 1)), .k 24 22 true (.load 1 false (.t 23)), .k 25 22 true (.faddr 2 (.t 7)), .k 26 22 true (.load 1 false (.t 25)), .k 27 22 true (.bin .eql (.t 24) (.t 26)), .j 28 (.pick (.t 22) (.t 27) (.c (.bool false))), .m 29 28, .k 30 29 false (.faddr 0 (.t 7)), .k 31 29 false (.load 1 false (.t 30)), .k 32 29 false (.bin .eql (.t 31) (.z 24)), .k 33 29 false (.mov (.t 32)), .k 34 33 true (.iaddrA 2 1 (.t 4) (.z 1)), .k 35 33 true (.load 1 false (.t 34)), .k 36 33 true (.faddr 2 (.t 7)), .k 37 33 true (.load 1 false (.t 36)), .k 38 33 true (.bin .neq (.t 35) (.t 37)), .k 39 33 true (.mov (.t 38)), .k 40 39 false (.faddr 2 (.t 7)), .k 41 39 false (.load 1 false (.t 40)), .k 42 39 false (.iaddrA 2 1 (.t 4) (.z 0)), .k 43 39 false (.load 1 false (.t 42)), .k 44 39 false (.bin .add (.t 43) (.z 1)), .k 45 39 false (.bin .eql (.t 41) (.t 44)), .k 46 33 true (.pick (.t 39) (.c (.bool true)) (.t 45)), .k 47 29 false (.pick (.t 33) (.t 46) (.c (.bool false))), .j 48 (.pick (.t 29) (.c (.bool true)) (.t 47)), .m 9 48]]) (.seq (.seq (.ops [[.m 49 9, .m 50 49, .k 51 50 true (.faddr 0 (.t 5)), .k 52 50 true (.load 1 false (.t 51)), .k 53 50 true (.faddr 1 (.t 7)), .k 54 50 true (.load 1 false (.t 53)), .k 55 50 true (.bin .add (.t 54) (.z 3)), .k 56 50 true (.iaddr 1 (.t 52) (.t 55)), .k 57 50 true (.load 1 false (.t 56)), .k 58 50 true (.un .not (.t 57)), .j 59 (.pick (.t 50) (.t 58) (.c (.bool false)))]]) (.cond (.t 59) (.ops [[.a 60 0 8, .l 61 60, .a 62 1 7, .l 63 62, .b 64 .add 63 3, .i 65 1 61 64, .e (.store 1 (.t 65) (.c (.bool false)))]]) .skip)) (.seq (.ops [[.w 66 3 8, .s 3 6 66]]) .ret)))))
theorem A3J : B3 Tryz.prog 107 = some (67, A5l, [.c 6 3 true]) := by kernel_rfl
@[go_sem] def A5k : AC := .seq (.ops [[.h 11 .lss 10 9]]) (.seq (.cond (.t 11) .skip (.exit 0)) (.seq (.block 1 (.seq (.ops [[.m 12 10, .m 6 12]]) (.seq (.ops [[.a 13 0 2, .l 14 13, .m 15 6, .i 16 1 14 15, .l 17 16, .m 18 17, .k 19 18 true (.faddr 0 (.t 3)), .k 20 18 true (.load 1 false (.t 19)), .k 21 18 true (.mov (.t 6)), .k 22 18 true (.iaddr 1 (.t 20) (.t 21)), .k 23 18 true (.load 1 false (.t 22)), .k 24 18 true (.un .not (.t 23)), .j 25 (.pick (.t 18) (.t 24) (.c (.bool false)))]]) (.cond (.t 25) (.seq (.ops [[.a 26 0 2, .l 27 26, .m 28 6, .i 29 1 27 28, .e (.store 1 (.t 29) (.c (.bool false)))]]) (.ops [[.t 5 true]])) .skip)))) (.ops [[.b 30 .add 10 1, .m 10 30]])))
def A6F : AC := A5k
theorem B0i : A6F = A5k := rfl
@[go_sem] def A7N : AC := .seq (.ops [[.j 2 (.box 1080002 3 (.t 0)), .j 3 (.box 1080003 3 (.t 1)), .t 4 false]]) (.seq (.ops [[.t 5 false]]) (.seq (.seq (.ops [[.a 7 0 2, .l 8 7, .r 9 0 8, .n 10 0]]) (.block 0 (.loop A6F))) (.seq (.ops [[.m 31 5, .m 4 31]]) .ret)))
theorem A6G : B3 Tryz.prog 108 = some (32, A7N, [.t 4]) := by kernel_rfl
@[go_sem] def A3L : AC := .seq (.seq (.ops [[.m 30 9, .b 31 .geq 30 0, .m 32 31, .k 33 32 true (.mov (.t 9)), .k 34 32 true (.faddr 1 (.t 5)), .k 35 32 true (.load 1 false (.t 34)), .k 36 32 true (.bin .lss (.t 33) (.t 35)), .j 37 (.pick (.t 32) (.t 36) (.c (.bool false)))]]) (.cond (.t 37) .skip (.exit 0))) (.seq (.block 1 (.ops [[.m 40 7, .m 41 9, .j 42 (.mkisl 1 [(.t 41)]), .j 43 (.app 1090043 1 (.t 40) (.t 42)), .m 7 43]])) (.ops [[.m 38 9, .b 39 .add 38 1, .m 9 39]]))
def A5m : AC := A3L
theorem A1x : A5m = A3L := rfl
@[go_sem] def A3M : AC := .seq (.ops [[.h 56 .lss 55 54]]) (.seq (.cond (.t 56) .skip (.exit 2)) (.seq (.block 3 (.seq (.ops [[.i 57 3 53 55, .w 58 3 57, .j 11 (.box 1090011 3 (.c (.agg [(.str []), (.bool false), (.int .i64 0)]))), .s 3 11 58]]) (.seq (.ops [[.a 59 1 11, .l 60 59]]) (.cond (.t 60) (.ops [[.m 61 7, .a 62 2 11, .l 63 62, .j 64 (.mkisl 1 [(.t 63)]), .j 65 (.app 1090065 1 (.t 61) (.t 64)), .m 7 65]]) .skip)))) (.ops [[.b 66 .add 55 1, .m 55 66]])))
def A5n : AC := A3M
theorem A1y : A5n = A3M := rfl
@[go_sem] def A6H : AC := .seq (.ops [[.j 3 (.box 1090003 11 (.t 0)), .j 4 (.box 1090004 5 (.t 1)), .j 5 (.box 1090005 3 (.t 2)), .t 6 false]]) (.seq (.ops [[.w 13 5 4, .c 14 56 13, .m 12 14, .x 15 0 12, .x 16 1 12, .m 7 15, .m 8 16]]) (.seq (.seq (.ops [[.m 17 8, .b 18 .geq 17 0, .a 19 1 5, .l 20 19, .b 21 .geq 20 0, .j 22 (.eqp 2 true (.t 18) (.t 21)), .m 23 22, .k 24 23 false (.mov (.t 8)), .k 25 23 false (.faddr 1 (.t 5)), .k 26 23 false (.load 1 false (.t 25)), .k 27 23 false (.bin .gtr (.t 24) (.t 26)), .j 28 (.pick (.t 23) (.c (.bool true)) (.t 27))]]) (.cond (.t 28) (.seq (.ops [[.t 6 false]]) .ret) .skip)) (.seq (.seq (.ops [[.m 29 8, .m 9 29]]) (.block 0 (.loop A5m))) (.seq (.seq (.ops [[.a 44 0 4, .l 45 44, .b 46 .eql 45 22]]) (.cond (.t 46) (.seq (.ops [[.a 47 8 3, .l 48 47, .a 49 2 4, .l 50 49, .i 51 11 48 50, .a 52 9 51, .l 53 52, .r 54 0 53, .n 55 0]]) (.block 2 (.loop A5n))) .skip)) (.seq (.ops [[.m 67 7, .j 68 (.mkfn 124 [(.t 5)]), .j 69 (.call 85 [(.t 67), (.t 68)]), .j 70 (.un .not (.t 69)), .m 6 70]]) .ret)))))
theorem y9 : B3 Tryz.prog 109 = some (71, A6H, [.t 6]) := by kernel_rfl
@[go_sem] def A0q : AC := .seq (.ops [[.t 3 false]]) (.seq (.ops [[.m 4 0, .a 5 1 1, .l 6 5, .h 7 .geq 4 6, .m 3 7]]) .ret)
theorem u6 : B3 Tryz.prog 110 = some (8, A0q, [.t 3]) := by kernel_rfl
@[go_sem] def Q1 : AC := .seq (.ops [[.h 9 .lss 8 7]]) (.seq (.cond (.t 9) .skip (.exit 0)) (.seq (.block 1 (.seq (.ops [[.m 10 8, .m 5 10]]) (.seq (.ops [[.m 11 1, .m 12 0, .m 13 5, .i 14 1 12 13, .l 15 14, .j 16 (.callv (.t 11) [(.t 15)])]]) (.cond (.t 16) (.seq (.ops [[.m 17 5, .m 4 17]]) .ret) .skip)))) (.ops [[.b 18 .add 8 1, .m 8 18]])))
def R5 : AC := Q1
theorem N5 : R5 = Q1 := rfl
@[go_sem] def T7 : AC := .seq (.ops [[.n 4 0]]) (.seq (.seq (.ops [[.m 6 0, .r 7 0 6, .n 8 0]]) (.block 0 (.loop R5))) (.seq (.ops [[.n 4 (-1)]]) .ret))
theorem H6 : B3 Tryz.prog 111 = some (19, T7, [.t 4]) := by kernel_rfl
@[go_sem] def A3v : AC := .seq (.ops [[.j 1 (.box 1120001 2 (.t 0)), .t 2 false]]) (.seq (.ops [[.a 3 1 1, .l 4 3, .b 5 .geq 4 1, .m 6 5, .k 7 6 true (.faddr 1 (.t 1)), .k 8 6 true (.load 1 false (.t 7)), .k 9 6 true (.bin .leq (.t 8) (.z 2147483647)), .j 10 (.pick (.t 6) (.t 9) (.c (.bool false))), .m 11 10, .k 12 11 true (.faddr 0 (.t 1)), .k 13 11 true (.load 1 false (.t 12)), .k 14 11 true (.bin .geq (.t 13) (.z (-2147483647))), .j 15 (.pick (.t 11) (.t 14) (.c (.bool false))), .m 16 15, .k 17 16 true (.faddr 0 (.t 1)), .k 18 16 true (.load 1 false (.t 17)), .k 19 16 true (.bin .leq (.t 18) (.z 2147483647)), .j 20 (.pick (.t 16) (.t 19) (.c (.bool false))), .m 21 20, .k 22 21 true (.faddr 0 (.t 1)), .k 23 21 true (.load 1 false (.t 22)), .k 24 21 true (.faddr 0 (.t 1)), .k 25 21 true (.load 1 false (.t 24)), .k 26 21 true (.un .neg (.t 25)), .k 27 21 true (.mm true [(.t 23), (.t 26)]), .k 28 21 true (.faddr 1 (.t 1)), .k 29 21 true (.load 1 false (.t 28)), .k 30 21 true (.call 125 [(.t 27), (.t 29)]), .k 31 21 true (.bin .eql (.t 30) (.z 1)), .j 32 (.pick (.t 21) (.t 31) (.c (.bool false))), .m 2 32]]) .ret)
theorem A2j : B3 Tryz.prog 112 = some (33, A3v, [.t 2]) := by kernel_rfl
@[go_sem] def A3u : AC := .seq (.ops [[.t 3 false]]) (.seq (.ops [[.m 4 0, .a 5 4 1, .l 6 5, .h 7 .geq 4 6, .m 3 7]]) .ret)
theorem A2i : B3 Tryz.prog 113 = some (8, A3u, [.t 3]) := by kernel_rfl
@[go_sem] def A3k : AC := .seq (.ops [[.j 1 (.box 1140001 5 (.t 0)), .n 2 0, .t 3 false]]) (.seq (.seq (.ops [[.a 4 0 1, .l 5 4]]) (.block 0 (.seq (.ops [[.b 7 .eql 5 2, .m 6 7]]) (.cond (.t 6) (.seq (.ops [[.a 8 2 1, .l 9 8, .m 2 9, .t 3 false]]) .ret) (.seq (.ops [[.b 11 .eql 5 7, .m 10 11]]) (.cond (.t 10) (.seq (.ops [[.a 12 2 1, .l 13 12, .m 2 13, .t 3 true]]) .ret) (.seq (.ops [[.b 15 .eql 5 8, .m 14 15]]) (.cond (.t 14) (.seq (.ops [[.a 16 1 1, .l 17 16, .m 2 17, .t 3 true]]) .ret) (.seq (.ops [[.b 19 .eql 5 11, .m 18 19]]) (.cond (.t 18) (.seq (.ops [[.a 20 3 1, .l 21 20, .m 2 21, .t 3 true]]) .ret) .skip)))))))))) (.seq (.ops [[.n 2 (-1), .t 3 false]]) .ret))
theorem A2e : B3 Tryz.prog 114 = some (22, A3k, [.t 2, .t 3]) := by kernel_rfl
@[go_sem] def A8z : AC := .seq (.seq (.ops [[.m 13 6, .m 14 0, .r 15 1 14, .h 16 .lss 13 15]]) (.cond (.t 16) .skip (.exit 0))) (.seq (.block 1 (.seq (.ops [[.m 19 0, .m 20 6, .j 21 (.idx (.t 19) (.t 20)), .m 7 21]]) (.seq (.ops [[.m 22 5, .m 23 7, .h 24 .or 22 23, .m 5 24]]) (.seq (.ops [[.m 25 7, .j 26 (.iaddrA 256 1 (.g 0) (.t 25)), .l 27 26, .j 28 (.conv .i64 (.t 27)), .m 8 28]]) (.seq (.ops [[.m 29 3, .m 30 4, .m 31 8, .j 32 (.un .xor (.t 31)), .h 33 .and 30 32, .h 34 .add 29 33, .m 3 34]]) (.ops [[.m 35 8, .m 4 35]])))))) (.ops [[.m 17 6, .b 18 .add 17 1, .m 6 18]]))
def A9Z : AC := A8z
@[go_sem] def A8A : AC := .seq (.seq (.ops [[.m 42 12, .m 43 0, .r 44 1 43, .h 45 .lss 42 44, .m 46 45, .k 47 46 true (.mov (.t 0)), .k 48 46 true (.mov (.t 12)), .k 49 46 true (.idx (.t 47) (.t 48)), .k 50 46 true (.iaddrA 256 1 (.g 0) (.t 49)), .k 51 46 true (.load 1 false (.t 50)), .k 52 46 true (.bin .neq (.t 51) (.c (.int .u8 0))), .j 53 (.pick (.t 46) (.t 52) (.c (.bool false)))]]) (.cond (.t 53) .skip (.exit 2))) (.block 3 (.ops [[.m 54 12, .b 55 .add 54 1, .m 12 55]]))
def B0a : AC := A8A
@[go_sem] def A8C : AC := .seq (.seq (.ops [[.m 80 12, .m 81 0, .r 82 1 81, .h 83 .lss 80 82, .m 84 83, .k 85 84 true (.mov (.t 0)), .k 86 84 true (.mov (.t 12)), .k 87 84 true (.idx (.t 85) (.t 86)), .k 88 84 true (.iaddrA 256 1 (.g 0) (.t 87)), .k 89 84 true (.load 1 false (.t 88)), .k 90 84 true (.bin .neq (.t 89) (.c (.int .u8 0))), .j 91 (.pick (.t 84) (.t 90) (.c (.bool false)))]]) (.cond (.t 91) .skip (.exit 6))) (.block 7 (.ops [[.m 92 12, .b 93 .add 92 1, .m 12 93]]))
def B0c : AC := A8C
@[go_sem] def A8B : AC := .seq (.seq (.ops [[.m 57 12, .m 58 0, .r 59 1 58, .h 60 .lss 57 59]]) (.cond (.t 60) .skip (.exit 4))) (.block 5 (.seq (.seq (.ops [[.m 61 0, .m 62 12, .j 63 (.idx (.t 61) (.t 62)), .j 64 (.iaddrA 256 1 (.g 0) (.t 63)), .l 65 64, .j 66 (.bin .eql (.t 65) (.c (.int .u8 0)))]]) (.cond (.t 66) (.seq (.ops [[.m 67 12, .b 68 .add 67 1, .m 12 68]]) (.exit 5)) .skip)) (.seq (.ops [[.m 69 9, .m 70 10, .m 71 0, .m 72 11, .m 73 12, .j 74 (.sls (.t 71) (some (.t 72)) (some (.t 73))), .i 75 1 69 70, .s 1 75 74]]) (.seq (.ops [[.m 76 10, .b 77 .add 76 1, .m 10 77]]) (.seq (.ops [[.m 78 12, .b 79 .add 78 1, .m 12 79]]) (.seq (.block 6 (.loop B0c)) (.ops [[.m 94 12, .m 11 94]])))))))
def B0b : AC := A8B
@[go_sem] def A3B : AC := .seq (.ops [[.j 2 (.mov (.c .nils))]]) (.seq (.ops [[.n 3 0]]) (.seq (.ops [[.n 4 1]]) (.seq (.ops [[.j 5 (.mov (.c (.int .u8 0)))]]) (.seq (.seq (.ops [[.n 6 0]]) (.block 0 (.loop A9Z))) (.seq (.seq (.ops [[.m 36 5, .j 37 (.bin .geq (.t 36) (.c (.int .u8 128)))]]) (.cond (.t 37) (.seq (.ops [[.m 38 0, .j 39 (.call 127 [(.t 38), (.f 128)]), .m 2 39]]) .ret) .skip)) (.seq (.ops [[.m 40 3, .j 41 (.mksl 1210041 [(.str [])] (.t 40)), .m 9 41]]) (.seq (.ops [[.n 10 0]]) (.seq (.ops [[.n 11 0]]) (.seq (.ops [[.n 12 0]]) (.seq (.block 2 (.loop B0a)) (.seq (.ops [[.m 56 12, .m 11 56]]) (.seq (.block 4 (.loop B0b)) (.seq (.seq (.ops [[.m 95 11, .m 96 0, .r 97 1 96, .h 98 .lss 95 97]]) (.cond (.t 98) (.ops [[.m 99 9, .m 100 10, .m 101 0, .m 102 11, .j 103 (.sls (.t 101) (some (.t 102)) none), .i 104 1 99 100, .s 1 104 103]]) .skip)) (.seq (.ops [[.m 105 9, .m 2 105]]) .ret))))))))))))))
theorem B0d : B3 Tryz.prog 121 = some (106, A3B, [.t 2]) := by kernel_rfl
@[go_sem] def A5Y : AC := .seq (.ops [[.j 2 (.box 1220002 6 (.c (.agg [(.str []), (.int .i64 0), (.int .i64 0), (.int .i64 0), (.int .i64 0), (.int .i64 0)])))]]) (.seq (.seq (.ops [[.m 3 0]]) (.block 0 (.seq (.ops [[.b 5 .eql 3 1, .m 4 5]]) (.cond (.t 4) (.seq (.ops [[.j 6 (.build [(.str []), (.int .i64 0), (.int .i64 0), (.int .i64 0), (.int .i64 0), (.int .i64 0)] [(1, 1, (.z 1)), (2, 1, (.z 1))]), .s 6 2 6]]) .ret) (.seq (.seq (.ops [[.b 8 .eql 3 2, .m 7 8]]) (.cond (.t 7) .skip (.ops [[.b 9 .eql 3 7, .m 7 9]]))) (.cond (.t 7) (.seq (.ops [[.j 10 (.build [(.str []), (.int .i64 0), (.int .i64 0), (.int .i64 0), (.int .i64 0), (.int .i64 0)] [(1, 1, (.z 1)), (2, 1, (.z 2))]), .s 6 2 10]]) .ret) (.seq (.ops [[.b 12 .eql 3 3, .m 11 12]]) (.cond (.t 11) (.seq (.ops [[.j 13 (.build [(.str []), (.int .i64 0), (.int .i64 0), (.int .i64 0), (.int .i64 0), (.int .i64 0)] [(1, 1, (.z 1)), (2, 1, (.z 1))]), .s 6 2 13]]) .ret) (.seq (.ops [[.b 15 .eql 3 4, .m 14 15]]) (.cond (.t 14) (.seq (.ops [[.j 16 (.build [(.str []), (.int .i64 0), (.int .i64 0), (.int .i64 0), (.int .i64 0), (.int .i64 0)] [(1, 1, (.z 1)), (2, 1, (.z 8))]), .s 6 2 16]]) .ret) (.seq (.ops [[.b 18 .eql 3 5, .m 17 18]]) (.cond (.t 17) (.seq (.ops [[.j 19 (.build [(.str []), (.int .i64 0), (.int .i64 0), (.int .i64 0), (.int .i64 0), (.int .i64 0)] [(1, 1, (.z 1)), (2, 1, (.z 3))]), .s 6 2 19]]) .ret) (.seq (.ops [[.b 21 .eql 3 6, .m 20 21]]) (.cond (.t 20) (.seq (.ops [[.j 22 (.build [(.str []), (.int .i64 0), (.int .i64 0), (.int .i64 0), (.int .i64 0), (.int .i64 0)] [(1, 1, (.z 3)), (2, 1, (.z 1))]), .s 6 2 22]]) .ret) (.seq (.ops [[.b 24 .eql 3 8, .m 23 24]]) (.cond (.t 23) (.seq (.ops [[.j 25 (.build [(.str []), (.int .i64 0), (.int .i64 0), (.int .i64 0), (.int .i64 0), (.int .i64 0)] [(1, 1, (.z 2)), (2, 1, (.z 1))]), .s 6 2 25]]) .ret) (.seq (.seq (.ops [[.b 27 .eql 3 9, .m 26 27]]) (.cond (.t 26) .skip (.ops [[.b 28 .eql 3 10, .m 26 28]]))) (.cond (.t 26) (.seq (.ops [[.j 29 (.build [(.str []), (.int .i64 0), (.int .i64 0), (.int .i64 0), (.int .i64 0), (.int .i64 0)] [(1, 1, (.z 1)), (2, 1, (.z 1)), (3, 1, (.z 1))]), .s 6 2 29]]) .ret) (.seq (.ops [[.b 31 .eql 3 11, .m 30 31]]) (.cond (.t 30) (.seq (.ops [[.j 32 (.build [(.str []), (.int .i64 0), (.int .i64 0), (.int .i64 0), (.int .i64 0), (.int .i64 0)] [(1, 1, (.z 1)), (2, 1, (.z 1)), (3, 1, (.z 2)), (5, 1, (.z 1))]), .s 6 2 32]]) .ret) (.seq (.ops [[.b 34 .eql 3 12, .m 33 34]]) (.cond (.t 33) (.seq (.ops [[.j 35 (.build [(.str []), (.int .i64 0), (.int .i64 0), (.int .i64 0), (.int .i64 0), (.int .i64 0)] [(1, 1, (.z 1)), (2, 1, (.z 1)), (3, 1, (.z 9))]), .s 6 2 35]]) .ret) (.seq (.ops [[.b 37 .eql 3 13, .m 36 37]]) (.cond (.t 36) (.seq (.ops [[.j 38 (.build [(.str []), (.int .i64 0), (.int .i64 0), (.int .i64 0), (.int .i64 0), (.int .i64 0)] [(1, 1, (.z 1)), (2, 1, (.z 1)), (3, 1, (.z 1)), (4, 1, (.z 10))]), .s 6 2 38]]) .ret) (.seq (.ops [[.b 40 .eql 3 14, .m 39 40]]) (.cond (.t 39) (.seq (.ops [[.j 41 (.build [(.str []), (.int .i64 0), (.int .i64 0), (.int .i64 0), (.int .i64 0), (.int .i64 0)] [(2, 1, (.z 5))]), .s 6 2 41]]) .ret) (.seq (.ops [[.b 43 .eql 3 15, .m 42 43]]) (.cond (.t 42) (.seq (.ops [[.j 44 (.build [(.str []), (.int .i64 0), (.int .i64 0), (.int .i64 0), (.int .i64 0), (.int .i64 0)] [(1, 1, (.z 1)), (2, 1, (.z 5)), (3, 1, (.z 8))]), .s 6 2 44]]) .ret) (.seq (.ops [[.b 46 .eql 3 16, .m 45 46]]) (.cond (.t 45) (.seq (.ops [[.j 47 (.build [(.str []), (.int .i64 0), (.int .i64 0), (.int .i64 0), (.int .i64 0), (.int .i64 0)] [(1, 1, (.z 1)), (2, 1, (.z 7)), (3, 1, (.z 6))]), .s 6 2 47]]) .ret) (.seq (.seq (.ops [[.b 49 .eql 3 17, .m 48 49]]) (.cond (.t 48) .skip (.ops [[.b 50 .eql 3 18, .m 48 50]]))) (.cond (.t 48) (.seq (.ops [[.j 51 (.build [(.str []), (.int .i64 0), (.int .i64 0), (.int .i64 0), (.int .i64 0), (.int .i64 0)] [(1, 1, (.z 1)), (2, 1, (.z 7))]), .s 6 2 51]]) .ret) (.seq (.ops [[.b 53 .eql 3 19, .m 52 53]]) (.cond (.t 52) (.seq (.ops [[.j 54 (.build [(.str []), (.int .i64 0), (.int .i64 0), (.int .i64 0), (.int .i64 0), (.int .i64 0)] [(1, 1, (.z 1)), (2, 1, (.z 6))]), .s 6 2 54]]) .ret) (.seq (.ops [[.b 56 .eql 3 21, .m 55 56]]) (.cond (.t 55) (.seq (.ops [[.j 57 (.build [(.str []), (.int .i64 0), (.int .i64 0), (.int .i64 0), (.int .i64 0), (.int .i64 0)] [(1, 1, (.z 1)), (2, 1, (.z 7)), (3, 1, (.z 12))]), .s 6 2 57]]) .ret) (.seq (.ops [[.b 59 .eql 3 22, .m 58 59]]) (.cond (.t 58) (.seq (.ops [[.j 60 (.build [(.str []), (.int .i64 0), (.int .i64 0), (.int .i64 0), (.int .i64 0), (.int .i64 0)] [(1, 1, (.z 1)), (2, 1, (.z 4))]), .s 6 2 60]]) .ret) (.seq (.seq (.ops [[.b 62 .eql 3 23, .m 61 62]]) (.cond (.t 61) .skip (.seq (.ops [[.b 63 .eql 3 24, .m 61 63]]) (.cond (.t 61) .skip (.ops [[.b 64 .eql 3 26, .m 61 64]]))))) (.cond (.t 61) (.seq (.ops [[.j 65 (.build [(.str []), (.int .i64 0), (.int .i64 0), (.int .i64 0), (.int .i64 0), (.int .i64 0)] [(1, 1, (.z 1)), (2, 1, (.z 5)), (5, 1, (.z 3))]), .s 6 2 65]]) .ret) (.seq (.ops [[.b 67 .eql 3 25, .m 66 67]]) (.cond (.t 66) (.seq (.ops [[.j 68 (.build [(.str []), (.int .i64 0), (.int .i64 0), (.int .i64 0), (.int .i64 0), (.int .i64 0)] [(1, 1, (.z 1)), (3, 1, (.z 11)), (5, 1, (.z 3))]), .s 6 2 68]]) .ret) (.seq (.seq (.ops [[.b 70 .eql 3 20, .m 69 70]]) (.cond (.t 69) .skip (.seq (.ops [[.b 71 .eql 3 27, .m 69 71]]) (.cond (.t 69) .skip (.ops [[.b 72 .eql 3 28, .m 69 72]]))))) (.cond (.t 69) (.seq (.ops [[.j 73 (.build [(.str []), (.int .i64 0), (.int .i64 0), (.int .i64 0), (.int .i64 0), (.int .i64 0)] [(1, 1, (.z 1))]), .s 6 2 73]]) .ret) .skip)))))))))))))))))))))))))))))))))))))))))))) (.seq (.ops [[.j 74 (.build [(.str []), (.int .i64 0), (.int .i64 0), (.int .i64 0), (.int .i64 0), (.int .i64 0)] [(1, 1, (.z 8))]), .s 6 2 74]]) .ret))
theorem B1J : B3 Tryz.prog 122 = some (75, A5Y, [.c 2 6 true]) := by kernel_rfl
@[go_sem] def A2o : AC := .seq (.ops [[.h 58 .lss 57 56]]) (.seq (.cond (.t 58) .skip (.exit 1)) (.seq (.block 2 (.seq (.ops [[.i 59 1 55 57, .l 60 59, .m 9 60]]) (.ops [[.a 61 0 5, .l 62 61, .m 63 9, .i 64 1 62 63, .e (.store 1 (.t 64) (.c (.bool true)))]]))) (.ops [[.b 65 .add 57 1, .m 57 65]])))
def A3F : AC := A2o
theorem A7c : A3F = A2o := rfl
@[go_sem] def K6 : AC := .seq (.ops [[.j 2 (.box 1230002 5 (.t 0)), .j 3 (.box 1230003 3 (.t 1)), .j 4 (.box 1230004 3 (.c (.agg [.nils, (.int .i64 0), .nils])))]]) (.seq (.ops [[.a 10 0 3, .l 11 10, .a 13 2 3, .l 14 13, .c 12 129 11, .c 15 63 14, .j 16 (.build [.nils, (.int .i64 0), .nils] [(0, 1, (.t 12)), (1, 1, (.z (-1))), (2, 1, (.t 15))]), .j 5 (.box 1230005 3 (.c (.agg [.nils, (.int .i64 0), .nils]))), .s 3 5 16], [.a 10 0 3, .l 11 10, .a 13 2 3, .l 14 13, .c 12 129 11, .j 5 (.box 1230005 3 (.c (.agg [.nils, (.int .i64 0), .nils]))), .c 15 63 14, .j 16 (.build [.nils, (.int .i64 0), .nils] [(0, 1, (.t 12)), (1, 1, (.z (-1))), (2, 1, (.t 15))]), .s 3 5 16], [.a 10 0 3, .l 11 10, .a 13 2 3, .l 14 13, .j 5 (.box 1230005 3 (.c (.agg [.nils, (.int .i64 0), .nils]))), .c 12 129 11, .c 15 63 14, .j 16 (.build [.nils, (.int .i64 0), .nils] [(0, 1, (.t 12)), (1, 1, (.z (-1))), (2, 1, (.t 15))]), .s 3 5 16], [.a 10 0 3, .l 11 10, .a 13 2 3, .j 5 (.box 1230005 3 (.c (.agg [.nils, (.int .i64 0), .nils]))), .l 14 13, .c 12 129 11, .c 15 63 14, .j 16 (.build [.nils, (.int .i64 0), .nils] [(0, 1, (.t 12)), (1, 1, (.z (-1))), (2, 1, (.t 15))]), .s 3 5 16], [.a 10 0 3, .l 11 10, .a 13 2 3, .c 12 129 11, .l 14 13, .c 15 63 14, .j 16 (.build [.nils, (.int .i64 0), .nils] [(0, 1, (.t 12)), (1, 1, (.z (-1))), (2, 1, (.t 15))]), .j 5 (.box 1230005 3 (.c (.agg [.nils, (.int .i64 0), .nils]))), .s 3 5 16], [.a 10 0 3, .l 11 10, .a 13 2 3, .c 12 129 11, .l 14 13, .j 5 (.box 1230005 3 (.c (.agg [.nils, (.int .i64 0), .nils]))), .c 15 63 14, .j 16 (.build [.nils, (.int .i64 0), .nils] [(0, 1, (.t 12)), (1, 1, (.z (-1))), (2, 1, (.t 15))]), .s 3 5 16], [.a 10 0 3, .l 11 10, .a 13 2 3, .c 12 129 11, .j 5 (.box 1230005 3 (.c (.agg [.nils, (.int .i64 0), .nils]))), .l 14 13, .c 15 63 14, .j 16 (.build [.nils, (.int .i64 0), .nils] [(0, 1, (.t 12)), (1, 1, (.z (-1))), (2, 1, (.t 15))]), .s 3 5 16], [.a 10 0 3, .l 11 10, .a 13 2 3, .j 5 (.box 1230005 3 (.c (.agg [.nils, (.int .i64 0), .nils]))), .c 12 129 11, .l 14 13, .c 15 63 14, .j 16 (.build [.nils, (.int .i64 0), .nils] [(0, 1, (.t 12)), (1, 1, (.z (-1))), (2, 1, (.t 15))]), .s 3 5 16], [.a 10 0 3, .a 13 2 3, .l 14 13, .j 5 (.box 1230005 3 (.c (.agg [.nils, (.int .i64 0), .nils]))), .l 11 10, .c 12 129 11, .c 15 63 14, .j 16 (.build [.nils, (.int .i64 0), .nils] [(0, 1, (.t 12)), (1, 1, (.z (-1))), (2, 1, (.t 15))]), .s 3 5 16], [.a 10 0 3, .a 13 2 3, .j 5 (.box 1230005 3 (.c (.agg [.nils, (.int .i64 0), .nils]))), .l 11 10, .l 14 13, .c 12 129 11, .c 15 63 14, .j 16 (.build [.nils, (.int .i64 0), .nils] [(0, 1, (.t 12)), (1, 1, (.z (-1))), (2, 1, (.t 15))]), .s 3 5 16], [.a 10 0 3, .a 13 2 3, .j 5 (.box 1230005 3 (.c (.agg [.nils, (.int .i64 0), .nils]))), .l 11 10, .c 12 129 11, .l 14 13, .c 15 63 14, .j 16 (.build [.nils, (.int .i64 0), .nils] [(0, 1, (.t 12)), (1, 1, (.z (-1))), (2, 1, (.t 15))]), .s 3 5 16]]) (.seq (.seq (.ops [[.a 17 0 2, .l 18 17]]) (.block 0 (.seq (.ops [[.b 20 .eql 18 16, .m 19 20]]) (.cond (.t 19) (.ops [[.a 21 0 5, .l 22 21, .a 23 1 2, .l 24 23, .j 25 (.call 130 [(.t 22), (.t 24)])]]) (.seq (.ops [[.b 27 .eql 18 25, .m 26 27]]) (.cond (.t 26) (.ops [[.a 28 0 5, .l 29 28, .a 30 1 2, .l 31 30, .b 32 .add 31 3, .j 33 (.call 130 [(.t 29), (.t 32)])]]) (.seq (.ops [[.b 35 .eql 18 28, .m 34 35]]) (.cond (.t 34) (.ops [[.a 36 2 5, .l 37 36, .a 38 1 2, .l 39 38, .j 40 (.mkisl 1 [(.t 39)]), .j 41 (.app 1230041 1 (.t 37) (.t 40)), .a 42 2 5, .s 1 42 41]]) (.seq (.ops [[.b 44 .eql 18 27, .m 43 44]]) (.cond (.t 43) (.ops [[.a 45 2 5, .l 46 45, .j 47 (.mkfn 132 [(.t 2)]), .j 48 (.call 131 [(.t 46), (.t 47)]), .a 49 2 5, .s 1 49 48]]) .skip)))))))))) (.seq (.ops [[.w 51 5 2, .c 52 58 51, .m 50 52, .x 53 0 50, .x 54 1 50, .m 6 53, .m 7 54]]) (.seq (.seq (.ops [[.m 55 6, .r 56 0 55, .n 57 0]]) (.block 1 (.loop A3F))) (.seq (.seq (.ops [[.m 66 7, .b 67 .geq 66 0]]) (.cond (.t 67) (.seq (.ops [[.a 68 0 5, .l 69 68, .m 70 7, .j 71 (.call 130 [(.t 69), (.t 70)])]]) (.ops [[.m 72 7, .a 73 1 5, .s 1 73 72]])) .skip)) (.seq (.ops [[.w 74 3 5, .s 3 4 74]]) .ret))))))
theorem A3G : B3 Tryz.prog 123 = some (75, K6, [.c 4 3 true]) := by kernel_rfl
@[go_sem] def A3K : AC := .seq (.ops [[.t 3 false]]) (.seq (.ops [[.a 4 0 1, .l 5 4, .m 6 0, .i 7 1 5 6, .l 8 7, .j 9 (.un .not (.t 8)), .m 3 9]]) .ret)
theorem A2p : B3 Tryz.prog 124 = some (10, A3K, [.t 3]) := by kernel_rfl
@[go_sem] def A3w : AC := .seq (.seq (.ops [[.m 5 1, .b 6 .neq 5 0]]) (.cond (.t 6) .skip (.exit 0))) (.block 1 (.ops [[.m 7 1, .m 8 0, .m 9 1, .h 10 .rem 8 9, .m 0 7, .m 1 10]]))
def A4X : AC := A3w
theorem A8p : A4X = A3w := rfl
@[go_sem] def A6w : AC := .seq (.ops [[.n 4 0]]) (.seq (.block 0 (.loop A4X)) (.seq (.ops [[.m 11 0, .m 4 11]]) .ret))
theorem A4Y : B3 Tryz.prog 125 = some (12, A6w, [.t 4]) := by kernel_rfl
@[go_sem] def V9 : AC := .seq (.ops [[.j 2 (.mov (.c .nils))]]) (.seq (.seq (.ops [[.m 3 0, .j 4 (.eqn false false (.t 3))]]) (.cond (.t 4) (.seq (.ops [[.j 2 (.mov (.c .nils))]]) .ret) .skip)) (.seq (.ops [[.j 5 (.mkrow 1290005 1 []), .m 6 0, .j 7 (.apb 140737488355328 1290007 1 (.t 5) (.t 6)), .m 2 7]]) .ret))
theorem U6 : B3 Tryz.prog 129 = some (8, V9, [.t 2]) := by kernel_rfl
@[go_sem] def A3S : AC := .seq (.seq (.ops [[.m 6 4, .m 7 0, .r 8 0 7, .h 9 .lss 6 8]]) (.cond (.t 9) .skip (.exit 0))) (.seq (.block 1 (.ops [[.m 12 0, .m 13 4, .i 14 1 12 13, .e (.store 1 (.t 14) (.c (.bool false)))]])) (.ops [[.m 10 4, .b 11 .add 10 1, .m 4 11]]))
def A5q : AC := A3S
theorem A8K : A5q = A3S := rfl
@[go_sem] def A6I : AC := .seq (.ops [[.m 5 1, .m 4 5]]) (.block 0 (.loop A5q))
theorem A5r : B3 Tryz.prog 130 = some (15, A6I, []) := by kernel_rfl
@[go_sem] def O0 : AC := .seq (.seq (.ops [[.m 16 6, .m 17 0, .r 18 0 17, .h 19 .lss 16 18]]) (.cond (.t 19) .skip (.exit 0))) (.seq (.block 1 (.seq (.ops [[.m 22 0, .m 23 6, .i 24 1 22 23, .l 25 24, .m 7 25]]) (.seq (.ops [[.m 26 1, .m 27 7, .j 28 (.callv (.t 26) [(.t 27)]), .j 29 (.un .not (.t 28))]]) (.cond (.t 29) (.seq (.ops [[.m 30 0, .m 31 5, .m 32 7, .i 33 1 30 31, .s 1 33 32]]) (.ops [[.m 34 5, .b 35 .add 34 1, .m 5 35]])) .skip)))) (.ops [[.m 20 6, .b 21 .add 20 1, .m 6 21]]))
def P8 : AC := O0
theorem j6 : P8 = O0 := rfl
@[go_sem] def R4 : AC := .seq (.ops [[.j 4 (.mov (.c .nils))]]) (.seq (.ops [[.m 8 0, .m 9 1, .j 10 (.call 111 [(.t 8), (.t 9)]), .m 5 10]]) (.seq (.seq (.ops [[.m 11 5, .b 12 .eql 11 (-1)]]) (.cond (.t 12) (.seq (.ops [[.m 13 0, .m 4 13]]) .ret) .skip)) (.seq (.seq (.ops [[.m 14 5, .b 15 .add 14 1, .m 6 15]]) (.block 0 (.loop P8))) (.seq (.ops [[.m 36 0, .m 37 5, .j 38 (.slc 1 (.t 36) (some (.t 37)) none), .e (.clr [(.int .i64 0)] (.t 38))]]) (.seq (.ops [[.m 39 0, .m 40 5, .j 41 (.slc 1 (.t 39) none (some (.t 40))), .m 4 41]]) .ret)))))
theorem P9 : B3 Tryz.prog 131 = some (42, R4, [.t 4]) := by kernel_rfl
@[go_sem] def A2n : AC := .seq (.ops [[.t 3 false]]) (.seq (.ops [[.m 4 0, .a 5 1 1, .l 6 5, .h 7 .geq 4 6, .m 3 7]]) .ret)
theorem A1w : B3 Tryz.prog 132 = some (8, A2n, [.t 3]) := by kernel_rfl
def exT : List (FuncId × Nat × AC × List RV) := [
 (3, 41, K9, [.t 2]),
 (4, 25, d9, [.t 2]),
 (5, 98, d7, [.t 0]),
 (6, 21, A3b, [.c 2 11 true, .t 3]),
 (7, 118, V8, [.t 4]),
 (8, 5, A2Z, [.c 2 11 true]),
 (9, 5, A4H, [.c 2 11 true]),
 (10, 5, A3a, [.c 2 11 true]),
 (11, 35, n8, [.t 4]),
 (12, 5, n7, [.c 2 11 true]),
 (13, 13, A6B, [.t 2]),
 (14, 80, A9K, [.t 4]),
 (15, 39, A4I, [.c 4 11 true]),
 (16, 45, A0X, [.c 2 11 true]),
 (17, 14, A4C, [.t 2, .t 3]),
 (18, 27, A3e, [.t 4]),
 (19, 9, A1Q, [.c 2 11 true]),
 (20, 56, A9j, [.t 2]),
 (21, 120, A2c, [.c 4 11 true]),
 (22, 9, A0g, [.t 3]),
 (23, 9, A0Y, [.c 2 11 true]),
 (24, 188, B0Z, [.t 2]),
 (25, 44, u3, [.t 4]),
 (26, 36, A3h, [.t 4]),
 (27, 9, U7, [.t 4]),
 (28, 27, A4J, [.t 4]),
 (29, 23, A3C, [.t 2, .t 3, .t 4]),
 (30, 26, J5, [.t 4]),
 (31, 26, i6, [.t 4]),
 (32, 26, J6, [.t 4]),
 (33, 26, Q0, [.t 4]),
 (34, 26, N3, [.t 4]),
 (35, 32, C9, [.t 6]),
 (36, 51, A2d, [.t 2]),
 (37, 16, A7C, [.c 2 1 false]),
 (38, 65, B1a, [.t 4]),
 (39, 7, B1b, [.t 2]),
 (40, 60, B1c, [.t 4]),
 (41, 55, A5N, [.t 6]),
 (42, 19, i7, [.t 4]),
 (43, 9, G5, [.t 4]),
 (44, 8, A1W, [.t 3]),
 (45, 9, E8, [.t 4]),
 (46, 20, A1X, [.t 3]),
 (47, 9, I0, [.t 4]),
 (48, 12, A1Y, [.t 3]),
 (49, 42, A5o, [.t 4, .t 5, .t 6]),
 (50, 20, A7F, [.t 2]),
 (51, 4, A9J, [.t 2]),
 (52, 74, A6s, [.t 2]),
 (53, 16, A5V, [.t 2]),
 (54, 11, n9, []),
 (55, 61, W0, [.t 2]),
 (56, 88, A5W, [.t 2, .t 3]),
 (57, 44, u0, []),
 (58, 92, A4D, [.t 2, .t 3]),
 (59, 19, J8, [.t 4]),
 (60, 19, G2, [.t 4]),
 (61, 19, L1, [.t 4]),
 (62, 21, A6E, [.t 2]),
 (63, 8, f9, [.t 2]),
 (64, 7, A6i, []),
 (65, 23, A9N, [.t 4]),
 (66, 42, A6j, [.c 2 11 true]),
 (67, 53, A6q, [.t 2]),
 (68, 118, A9M, [.t 2]),
 (69, 60, A0p, [.t 4]),
 (72, 85, A5U, [.t 2]),
 (73, 7, A4F, [.t 2]),
 (74, 23, A7B, [.t 4, .t 5]),
 (75, 56, A5p, [.t 4]),
 (76, 30, A6C, [.t 2]),
 (77, 109, j5, [.t 6]),
 (78, 8, J3, [.t 2]),
 (79, 8, J4, [.t 2]),
 (80, 8, P7, [.t 2]),
 (81, 8, M8, [.t 2]),
 (82, 6, A3o, [.t 2]),
 (83, 8, A3p, [.t 3]),
 (84, 8, A3q, [.t 3]),
 (85, 9, N9, [.t 4]),
 (86, 5, A6m, [.t 2]),
 (87, 6, A6n, [.t 2]),
 (88, 74, A7M, [.t 2]),
 (89, 17, A6u, [.t 6]),
 (90, 63, A6r, [.t 4]),
 (102, 25, B1k, [.c 2 6 true, .t 3]),
 (103, 24, A4E, [.c 4 4 true, .c 5 4 true]),
 (104, 29, A2T, [.t 2, .t 3]),
 (105, 53, A7A, [.t 4]),
 (106, 20, A6D, [.c 2 3 true]),
 (107, 67, A5l, [.c 6 3 true]),
 (108, 32, A7N, [.t 4]),
 (109, 71, A6H, [.t 6]),
 (110, 8, A0q, [.t 3]),
 (111, 19, T7, [.t 4]),
 (112, 33, A3v, [.t 2]),
 (113, 8, A3u, [.t 3]),
 (114, 22, A3k, [.t 2, .t 3]),
 (121, 106, A3B, [.t 2]),
 (122, 75, A5Y, [.c 2 6 true]),
 (123, 75, K6, [.c 4 3 true]),
 (124, 10, A3K, [.t 3]),
 (125, 12, A6w, [.t 4]),
 (129, 8, V9, [.t 2]),
 (130, 15, A6I, []),
 (131, 42, R4, [.t 4]),
 (132, 8, A2n, [.t 3])]
theorem p6 : A8 Tryz.prog exT := 
 (A8.cons K2 
 (A8.cons X8 
 (A8.cons X6 
 (A8.cons Z8 
 (A8.cons U5 
 (A8.cons Z7 
 (A8.cons A2Y 
 (A8.cons A1R 
 (A8.cons f7 
 (A8.cons d8 
 (A8.cons W4 
 (A8.cons A7E 
 (A8.cons A3d 
 (A8.cons A0i 
 (A8.cons A2R 
 (A8.cons A1V 
 (A8.cons A0W 
 (A8.cons A7s 
 (A8.cons A1i 
 (A8.cons u1 
 (A8.cons A0j 
 (A8.cons A9h 
 (A8.cons n6 
 (A8.cons A2b 
 (A8.cons S8 
 (A8.cons A3g 
 (A8.cons j4 
 (A8.cons I2 
 (A8.cons N4 
 (A8.cons I4 
 (A8.cons O2 
 (A8.cons L9 
 (A8.cons C8 
 (A8.cons A1l 
 (A8.cons A6h 
 (A8.cons A9i 
 (A8.cons A9k 
 (A8.cons A9m 
 (A8.cons A4v 
 (A8.cons Y2 
 (A8.cons G1 
 (A8.cons A1b 
 (A8.cons E3 
 (A8.cons A1c 
 (A8.cons H0 
 (A8.cons A1d 
 (A8.cons A3O 
 (A8.cons A6l 
 (A8.cons A7D 
 (A8.cons A4V 
 (A8.cons A4B 
 (A8.cons A4o 
 (A8.cons A1F 
 (A8.cons w7 
 (A8.cons j9 
 (A8.cons A2S 
 (A8.cons I6 
 (A8.cons F7 
 (A8.cons K4 
 (A8.cons A5j 
 (A8.cons M9 
 (A8.cons A4K 
 (A8.cons A7K 
 (A8.cons A4M 
 (A8.cons A4Q 
 (A8.cons A7I 
 (A8.cons u4 
 (A8.cons A4A 
 (A8.cons A2V 
 (A8.cons A0U 
 (A8.cons A3R 
 (A8.cons A5f 
 (A8.cons W6 
 (A8.cons H8 
 (A8.cons H9 
 (A8.cons N8 
 (A8.cons L7 
 (A8.cons A2f 
 (A8.cons A2g 
 (A8.cons A2h 
 (A8.cons N0 
 (A8.cons A4O 
 (A8.cons A4P 
 (A8.cons A6A 
 (A8.cons A4W 
 (A8.cons A4R 
 (A8.cons A9D 
 (A8.cons A2U 
 (A8.cons A9C 
 (A8.cons A5X 
 (A8.cons A5h 
 (A8.cons A3J 
 (A8.cons A6G 
 (A8.cons y9 
 (A8.cons u6 
 (A8.cons H6 
 (A8.cons A2j 
 (A8.cons A2i 
 (A8.cons A2e 
 (A8.cons B0d 
 (A8.cons B1J 
 (A8.cons A3G 
 (A8.cons A2p 
 (A8.cons A4Y 
 (A8.cons U6 
 (A8.cons A5r 
 (A8.cons P9 
 (A8.cons A1w A8.nil))))))))))))))))))))))))))))))))))))))))))))))))))))))))))))))))))))))))))))))))))))))))))))))))))))))))))))
end Go.Proofs.YtoanghfeednogaaGreatDoor
