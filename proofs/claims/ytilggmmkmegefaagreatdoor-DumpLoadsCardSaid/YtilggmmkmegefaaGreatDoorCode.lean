/-
  The code of the functions that this seat reaches, translated into abstract code (printed by a program, each proved to be the translation). No condition.
-/
import Derived.Test.YtilggmmkmegefaaGreatDoorCodeA
import Derived.Test.YtilggmmkmegefaaGreatDoorChecked
set_option maxRecDepth 1000000
namespace Go.Proofs.YtilggmmkmegefaaGreatDoor
open Go.Abs
@[go_sem] def A1o : AC := .seq (.ops [[.h 22 .lss 21 20]]) (.seq (.cond (.t 22) .skip (.exit 2)) (.seq (.block 3 (.seq (.ops [[.i 23 2 19 21, .w 24 2 23, .j 8 (.box 640008 2 (.c (.agg [(.int .i64 0), (.int .i64 0)]))), .s 2 8 24]]) (.seq (.ops [[.m 26 5, .j 27 (.iaddrA 2 1 (.t 8) (.z 0)), .l 28 27, .j 29 (.look 0 (.agg [.nils, (.int .i64 0), .nils]) true (.t 26) (.t 28)), .m 25 29, .x 30 0 25, .x 31 1 25, .j 9 (.box 640009 3 (.c (.agg [.nils, (.int .i64 0), .nils]))), .s 3 9 30, .m 10 31]]) (.seq (.seq (.ops [[.m 32 10, .j 33 (.un .not (.t 32))]]) (.cond (.t 33) (.exit 3) .skip)) (.seq (.ops [[.w 34 11 2, .w 35 2 8, .w 36 3 9, .j 37 (.call 80 [(.t 34), (.t 35), (.t 36)]), .j 11 (.box 640011 3 (.c (.agg [.nils, (.int .i64 0), .nils]))), .s 3 11 37]]) (.seq (.ops [[.m 39 5, .j 40 (.iaddrA 2 1 (.t 8) (.z 1)), .l 41 40, .j 42 (.look 0 (.agg [.nils, (.int .i64 0), .nils]) true (.t 39) (.t 41)), .m 38 42, .x 43 0 38, .x 44 1 38, .j 12 (.box 640012 3 (.c (.agg [.nils, (.int .i64 0), .nils]))), .s 3 12 43, .m 13 44]]) (.seq (.ops [[.m 45 13, .j 46 (.un .not (.t 45))]]) (.cond (.t 46) (.seq (.ops [[.m 47 5, .j 48 (.iaddrA 2 1 (.t 8) (.z 1)), .l 49 48, .w 50 3 11, .e (.mput 0 (.t 47) (.t 49) (.t 50))]]) (.ops [[.t 6 true]])) (.seq (.ops [[.w 51 3 12, .w 52 3 11, .j 53 (.call 81 [(.t 51), (.t 52)])]]) (.cond (.t 53) (.ops [[.t 6 true]]) .skip)))))))))) (.ops [[.b 54 .add 21 1, .m 21 54]])))
def A3q : AC := A1o
theorem A6y : A3q = A1o := rfl
@[go_sem] def A1u : AC := .seq (.seq (.ops [[.m 18 6]]) (.cond (.t 18) .skip (.exit 0))) (.block 1 (.seq (.ops [[.t 6 false]]) (.seq (.ops [[.m 19 1, .r 20 0 19, .n 21 0]]) (.block 2 (.loop A3q)))))
def A3i : AC := A1u
theorem A6u : A3i = A1u := rfl
@[go_sem] def A4K : AC := .seq (.ops [[.j 2 (.box 640002 11 (.t 0)), .j 4 (.mov (.c .nilm))]]) (.seq (.ops [[.j 14 (.mkmap 640014), .w 15 11 2, .c 16 79 15, .e (.mput 0 (.t 14) (.z 0) (.t 16)), .m 17 14, .m 5 17]]) (.seq (.seq (.ops [[.t 6 true]]) (.block 0 (.loop A3i))) (.seq (.ops [[.m 55 5, .m 4 55]]) .ret)))
theorem A2G : B8 Tryz.prog 64 = some (56, A4K, [.t 4]) := by kernel_rfl
@[go_sem] def A2g : AC := .seq (.ops [[.h 18 .lss 17 16]]) (.seq (.cond (.t 18) .skip (.exit 2)) (.seq (.block 3 (.seq (.ops [[.i 19 1 15 17, .l 20 19, .m 6 20]]) (.ops [[.m 21 3, .m 22 4, .m 23 6, .j 24 (.build [(.int .i64 0), (.int .i64 0)] [(0, 1, (.t 22)), (1, 1, (.t 23))]), .j 25 (.mkisl 2 [(.t 24)]), .j 26 (.app 650026 2 (.t 21) (.t 25)), .m 3 26]]))) (.ops [[.b 27 .add 17 1, .m 17 27]])))
def A4w : AC := A2g
theorem A7k : A4w = A2g := rfl
@[go_sem] def A2z : AC := .seq (.ops [[.h 11 .lss 10 9]]) (.seq (.cond (.t 11) .skip (.exit 0)) (.seq (.block 1 (.seq (.ops [[.m 12 10, .m 4 12]]) (.seq (.ops [[.w 13 11 1, .m 14 4, .j 15 (.call 82 [(.t 13), (.t 14)]), .r 16 0 15, .n 17 0]]) (.block 2 (.loop A4w))))) (.ops [[.b 28 .add 10 1, .m 10 28]])))
def A4H : AC := A2z
theorem A7F : A4H = A2z := rfl
@[go_sem] def A5g : AC := .seq (.ops [[.j 1 (.box 650001 11 (.t 0)), .j 2 (.mov (.c .nils))]]) (.seq (.ops [[.j 3 (.mov (.c .nils))]]) (.seq (.seq (.ops [[.a 7 5 1, .l 8 7, .r 9 0 8, .n 10 0]]) (.block 0 (.loop A4H))) (.seq (.ops [[.m 29 3, .m 2 29]]) .ret)))
theorem A4o : B8 Tryz.prog 65 = some (30, A5g, [.t 2]) := by kernel_rfl
@[go_sem] def x7 : AC := .seq (.ops [[.h 68 .lss 67 66]]) (.seq (.cond (.t 68) .skip (.exit 1)) (.seq (.block 2 (.seq (.ops [[.i 69 1 65 67, .l 70 69, .m 11 70]]) (.seq (.ops [[.w 71 11 3, .m 72 1, .m 73 11, .j 74 (.build [(.int .i64 0), (.int .i64 0)] [(0, 1, (.t 72)), (1, 1, (.t 73))]), .w 75 3 7, .j 76 (.call 80 [(.t 71), (.t 74), (.t 75)]), .j 12 (.box 660012 3 (.c (.agg [.nils, (.int .i64 0), .nils]))), .s 3 12 76]]) (.seq (.ops [[.a 77 1 12, .l 78 77, .m 79 2, .m 80 11, .j 81 (.look 0 (.agg [.nils, (.int .i64 0), .nils]) false (.t 79) (.t 80)), .j 82 (.fld 1 1 false (.t 81)), .h 83 .neq 78 82, .m 84 83, .k 85 84 false (.faddr 2 (.t 12)), .k 86 84 false (.load 1 false (.t 85)), .k 87 84 false (.mov (.t 2)), .k 88 84 false (.mov (.t 11)), .k 89 84 false (.look 0 (.agg [.nils, (.int .i64 0), .nils]) false (.t 87) (.t 88)), .k 90 84 false (.fld 2 1 false (.t 89)), .k 91 84 false (.call 86 [(.t 86), (.t 90)]), .k 92 84 false (.un .not (.t 91)), .j 93 (.pick (.t 84) (.c (.bool true)) (.t 92)), .m 94 93, .k 95 94 false (.mov (.t 11)), .k 96 94 false (.mov (.t 1)), .k 97 94 false (.bin .leq (.t 95) (.t 96)), .k 98 94 false (.mov (.t 97)), .k 99 98 true (.faddr 5 (.t 3)), .k 100 98 true (.load 1 false (.t 99)), .k 101 98 true (.mov (.t 11)), .k 102 98 true (.iaddr 5 (.t 100) (.t 101)), .k 103 98 true (.faddr 0 (.t 102)), .k 104 98 true (.load 1 false (.t 103)), .k 105 98 true (.bin .neq (.t 104) (.z 29)), .k 106 94 false (.pick (.t 98) (.t 105) (.c (.bool false))), .j 107 (.pick (.t 94) (.c (.bool true)) (.t 106))]]) (.cond (.t 107) (.seq (.ops [[.t 6 true]]) .ret) .skip))))) (.ops [[.b 108 .add 67 1, .m 67 108]])))
def A0y : AC := x7
theorem A4Z : A0y = x7 := rfl
@[go_sem] def X7 : AC := .seq (.ops [[.j 3 (.box 660003 11 (.t 0)), .t 6 false]]) (.seq (.ops [[.m 14 2, .m 15 1, .j 16 (.look 0 (.agg [.nils, (.int .i64 0), .nils]) true (.t 14) (.t 15)), .m 13 16, .x 17 0 13, .x 18 1 13, .j 7 (.box 660007 3 (.c (.agg [.nils, (.int .i64 0), .nils]))), .s 3 7 17, .m 8 18]]) (.seq (.seq (.ops [[.m 19 8, .j 20 (.un .not (.t 19))]]) (.cond (.t 20) (.seq (.ops [[.t 6 false]]) .ret) .skip)) (.seq (.ops [[.a 21 5 3, .l 22 21, .m 23 1, .i 24 5 22 23, .w 25 5 24, .j 9 (.box 660009 5 (.c (.agg [(.int .i64 0), (.int .i64 0), (.int .i64 0), (.int .i64 0), (.int .i64 0)]))), .s 5 9 25]]) (.seq (.block 0 (.seq (.ops [[.w 27 5 9, .c 28 83 27, .m 29 28, .k 30 29 true (.mov (.t 1)), .k 31 29 true (.faddr 5 (.t 3)), .k 32 29 true (.load 1 false (.t 31)), .k 33 29 true (.len 0 (.t 32)), .k 34 29 true (.bin .sub (.t 33) (.z 1)), .k 35 29 true (.bin .eql (.t 30) (.t 34)), .j 36 (.pick (.t 29) (.t 35) (.c (.bool false))), .m 26 36]]) (.cond (.t 26) (.seq (.ops [[.t 6 true]]) .ret) (.seq (.ops [[.w 38 11 3, .w 39 5 9, .w 40 3 7, .j 41 (.call 84 [(.t 38), (.t 39), (.t 40)]), .j 42 (.un .not (.t 41)), .m 37 42]]) (.cond (.t 37) (.seq (.ops [[.t 6 true]]) .ret) (.seq (.ops [[.a 44 0 9, .l 45 44, .b 46 .eql 45 28, .m 47 46, .k 48 47 true (.faddr 2 (.t 7)), .k 49 47 true (.load 1 false (.t 48)), .k 50 47 true (.mkfn 85 [(.t 9)]), .k 51 47 true (.call 54 [(.t 49), (.t 50)]), .j 52 (.pick (.t 47) (.t 51) (.c (.bool false))), .m 43 52]]) (.cond (.t 43) (.seq (.ops [[.t 6 true]]) .ret) (.seq (.ops [[.a 54 0 9, .l 55 54, .b 56 .eql 55 17, .m 57 56, .k 58 57 true (.faddr 2 (.t 7)), .k 59 57 true (.load 1 false (.t 58)), .k 60 57 true (.len 0 (.t 59)), .k 61 57 true (.bin .gtr (.t 60) (.z 0)), .j 62 (.pick (.t 57) (.t 61) (.c (.bool false))), .m 53 62]]) (.cond (.t 53) (.seq (.ops [[.t 6 true]]) .ret) .skip))))))))) (.seq (.seq (.ops [[.w 63 11 3, .m 64 1, .j 65 (.call 82 [(.t 63), (.t 64)]), .r 66 0 65, .n 67 0]]) (.block 1 (.loop A0y))) (.seq (.ops [[.t 6 false]]) .ret))))))
theorem U1 : B8 Tryz.prog 66 = some (109, X7, [.t 6]) := by kernel_rfl
@[go_sem] def I2 : AC := .seq (.ops [[.h 9 .lss 8 7]]) (.seq (.cond (.t 9) .skip (.exit 0)) (.seq (.block 1 (.seq (.ops [[.m 10 8, .m 5 10]]) (.seq (.ops [[.m 11 1, .m 12 0, .m 13 5, .i 14 3 12 13, .w 15 3 14, .j 16 (.callv (.t 11) [(.t 15)])]]) (.cond (.t 16) (.seq (.ops [[.m 17 5, .m 4 17]]) .ret) .skip)))) (.ops [[.b 18 .add 8 1, .m 8 18]])))
def I9 : AC := I2
theorem R5 : I9 = I2 := rfl
@[go_sem] def J5 : AC := .seq (.ops [[.n 4 0]]) (.seq (.seq (.ops [[.m 6 0, .r 7 0 6, .n 8 0]]) (.block 0 (.loop I9))) (.seq (.ops [[.n 4 (-1)]]) .ret))
theorem I8 : B8 Tryz.prog 67 = some (19, J5, [.t 4]) := by kernel_rfl
@[go_sem] def G9 : AC := .seq (.ops [[.h 9 .lss 8 7]]) (.seq (.cond (.t 9) .skip (.exit 0)) (.seq (.block 1 (.seq (.ops [[.m 10 8, .m 5 10]]) (.seq (.ops [[.m 11 1, .m 12 0, .m 13 5, .i 14 5 12 13, .w 15 5 14, .j 16 (.callv (.t 11) [(.t 15)])]]) (.cond (.t 16) (.seq (.ops [[.m 17 5, .m 4 17]]) .ret) .skip)))) (.ops [[.b 18 .add 8 1, .m 8 18]])))
def H5 : AC := G9
theorem Q7 : H5 = G9 := rfl
@[go_sem] def I1 : AC := .seq (.ops [[.n 4 0]]) (.seq (.seq (.ops [[.m 6 0, .r 7 0 6, .n 8 0]]) (.block 0 (.loop H5))) (.seq (.ops [[.n 4 (-1)]]) .ret))
theorem H2 : B8 Tryz.prog 68 = some (19, I1, [.t 4]) := by kernel_rfl
@[go_sem] def N6 : AC := .seq (.ops [[.h 9 .lss 8 7]]) (.seq (.cond (.t 9) .skip (.exit 0)) (.seq (.block 1 (.seq (.ops [[.m 10 8, .m 5 10]]) (.seq (.ops [[.m 11 1, .m 12 0, .m 13 5, .i 14 1 12 13, .l 15 14, .j 16 (.callv (.t 11) [(.t 15)])]]) (.cond (.t 16) (.seq (.ops [[.m 17 5, .m 4 17]]) .ret) .skip)))) (.ops [[.b 18 .add 8 1, .m 8 18]])))
def O6 : AC := N6
theorem K7 : O6 = N6 := rfl
@[go_sem] def P7 : AC := .seq (.ops [[.n 4 0]]) (.seq (.seq (.ops [[.m 6 0, .r 7 0 6, .n 8 0]]) (.block 0 (.loop O6))) (.seq (.ops [[.n 4 (-1)]]) .ret))
theorem H1 : B8 Tryz.prog 69 = some (19, P7, [.t 4]) := by kernel_rfl
@[go_sem] def A2O : AC := .seq (.ops [[.j 1 (.box 700001 2 (.t 0)), .t 2 false]]) (.seq (.ops [[.a 3 1 1, .l 4 3, .b 5 .geq 4 1, .m 6 5, .k 7 6 true (.faddr 1 (.t 1)), .k 8 6 true (.load 1 false (.t 7)), .k 9 6 true (.bin .leq (.t 8) (.z 2147483647)), .j 10 (.pick (.t 6) (.t 9) (.c (.bool false))), .m 11 10, .k 12 11 true (.faddr 0 (.t 1)), .k 13 11 true (.load 1 false (.t 12)), .k 14 11 true (.bin .geq (.t 13) (.z (-2147483647))), .j 15 (.pick (.t 11) (.t 14) (.c (.bool false))), .m 16 15, .k 17 16 true (.faddr 0 (.t 1)), .k 18 16 true (.load 1 false (.t 17)), .k 19 16 true (.bin .leq (.t 18) (.z 2147483647)), .j 20 (.pick (.t 16) (.t 19) (.c (.bool false))), .m 21 20, .k 22 21 true (.faddr 0 (.t 1)), .k 23 21 true (.load 1 false (.t 22)), .k 24 21 true (.faddr 0 (.t 1)), .k 25 21 true (.load 1 false (.t 24)), .k 26 21 true (.un .neg (.t 25)), .k 27 21 true (.mm true [(.t 23), (.t 26)]), .k 28 21 true (.faddr 1 (.t 1)), .k 29 21 true (.load 1 false (.t 28)), .k 30 21 true (.call 87 [(.t 27), (.t 29)]), .k 31 21 true (.bin .eql (.t 30) (.z 1)), .j 32 (.pick (.t 21) (.t 31) (.c (.bool false))), .m 2 32]]) .ret)
theorem A1K : B8 Tryz.prog 70 = some (33, A2O, [.t 2]) := by kernel_rfl
@[go_sem] def A9E : AC := .seq (.ops [[.j 2 (.box 710002 6 (.c (.agg [(.str []), (.int .i64 0), (.int .i64 0), (.int .i64 0), (.int .i64 0), (.int .i64 0)]))), .t 3 false]]) (.seq (.ops [[.j 6 (.call 88 [(.c (.str [109, 111, 118, 101, 32, 99, 111, 110, 115, 116, 32, 110, 105, 108, 32, 98, 111, 111, 108, 32, 117, 112, 103, 101, 116, 32, 117, 112, 115, 101, 116, 32, 103, 108, 111, 98, 97, 108, 32, 115, 101, 116, 103, 108, 111, 98, 32, 103, 101, 116, 32, 115, 101, 116, 32, 115, 101, 108, 102, 32, 117, 110, 97, 114, 121, 32, 98, 105, 110, 97, 114, 121, 32, 106, 117, 109, 112, 32, 116, 101, 115, 116, 32, 99, 97, 108, 108, 32, 116, 97, 105, 108, 32, 114, 101, 116, 117, 114, 110, 32, 118, 97, 114, 97, 114, 103, 32, 116, 97, 98, 108, 101, 32, 97, 112, 112, 101, 110, 100, 32, 99, 108, 111, 115, 117, 114, 101, 32, 112, 114, 101, 112, 32, 108, 111, 111, 112, 32, 105, 116, 101, 114, 32, 110, 101, 120, 116, 32, 99, 108, 111, 115, 101, 32, 109, 97, 114, 107, 32, 115, 116, 97, 116]))]), .m 4 6]]) (.seq (.seq (.ops [[.m 7 0, .b 8 .lss 7 1, .m 9 8, .k 10 9 false (.mov (.t 0)), .k 11 9 false (.mov (.t 4)), .k 12 9 false (.len 0 (.t 11)), .k 13 9 false (.bin .gtr (.t 10) (.t 12)), .j 14 (.pick (.t 9) (.c (.bool true)) (.t 13))]]) (.cond (.t 14) (.seq (.ops [[.j 15 (.build [(.str []), (.int .i64 0), (.int .i64 0), (.int .i64 0), (.int .i64 0), (.int .i64 0)] []), .s 6 2 15, .t 3 false]]) .ret) .skip)) (.seq (.ops [[.m 16 0, .c 17 89 16, .j 5 (.box 710005 6 (.c (.agg [(.str []), (.int .i64 0), (.int .i64 0), (.int .i64 0), (.int .i64 0), (.int .i64 0)]))), .s 6 5 17]]) (.seq (.ops [[.m 18 4, .m 19 0, .b 20 .sub 19 1, .i 21 1 18 20, .l 22 21, .a 23 0 5, .s 1 23 22]]) (.seq (.ops [[.w 24 6 5, .s 6 2 24, .t 3 true]]) .ret)))))
theorem A8A : B8 Tryz.prog 71 = some (25, A9E, [.c 2 6 true, .t 3]) := by kernel_rfl
@[go_sem] def A4v : AC := .seq (.ops [[.j 2 (.box 720002 6 (.t 0)), .j 3 (.box 720003 5 (.t 1)), .j 4 (.box 720004 4 (.c (.agg [(.int .i64 0), (.int .i64 0), (.int .i64 0), (.int .i64 0)]))), .j 5 (.box 720005 4 (.c (.agg [(.int .i64 0), (.int .i64 0), (.int .i64 0), (.int .i64 0)])))]]) (.seq (.ops [[.a 6 1 2, .l 7 6, .a 8 2 2, .l 9 8, .a 10 3 2, .l 11 10, .a 12 4 2, .l 13 12, .j 14 (.build [(.int .i64 0), (.int .i64 0), (.int .i64 0), (.int .i64 0)] [(0, 1, (.t 7)), (1, 1, (.t 9)), (2, 1, (.t 11)), (3, 1, (.t 13))]), .a 15 1 3, .l 16 15, .a 17 2 3, .l 18 17, .a 19 3 3, .l 20 19, .a 21 4 3, .l 22 21, .j 23 (.build [(.int .i64 0), (.int .i64 0), (.int .i64 0), (.int .i64 0)] [(0, 1, (.t 16)), (1, 1, (.t 18)), (2, 1, (.t 20)), (3, 1, (.t 22))]), .s 4 4 14, .s 4 5 23], [.a 6 1 2, .l 7 6, .a 8 2 2, .l 9 8, .a 10 3 2, .l 11 10, .a 12 4 2, .l 13 12, .j 14 (.build [(.int .i64 0), (.int .i64 0), (.int .i64 0), (.int .i64 0)] [(0, 1, (.t 7)), (1, 1, (.t 9)), (2, 1, (.t 11)), (3, 1, (.t 13))]), .a 15 1 3, .l 16 15, .a 17 2 3, .l 18 17, .a 19 3 3, .l 20 19, .a 21 4 3, .s 4 4 14, .l 22 21, .j 23 (.build [(.int .i64 0), (.int .i64 0), (.int .i64 0), (.int .i64 0)] [(0, 1, (.t 16)), (1, 1, (.t 18)), (2, 1, (.t 20)), (3, 1, (.t 22))]), .s 4 5 23], [.a 6 1 2, .l 7 6, .a 8 2 2, .l 9 8, .a 10 3 2, .l 11 10, .a 12 4 2, .l 13 12, .j 14 (.build [(.int .i64 0), (.int .i64 0), (.int .i64 0), (.int .i64 0)] [(0, 1, (.t 7)), (1, 1, (.t 9)), (2, 1, (.t 11)), (3, 1, (.t 13))]), .a 15 1 3, .l 16 15, .a 17 2 3, .l 18 17, .a 19 3 3, .a 21 4 3, .l 22 21, .s 4 4 14, .l 20 19, .j 23 (.build [(.int .i64 0), (.int .i64 0), (.int .i64 0), (.int .i64 0)] [(0, 1, (.t 16)), (1, 1, (.t 18)), (2, 1, (.t 20)), (3, 1, (.t 22))]), .s 4 5 23], [.a 6 1 2, .l 7 6, .a 8 2 2, .l 9 8, .a 10 3 2, .l 11 10, .a 12 4 2, .l 13 12, .j 14 (.build [(.int .i64 0), (.int .i64 0), (.int .i64 0), (.int .i64 0)] [(0, 1, (.t 7)), (1, 1, (.t 9)), (2, 1, (.t 11)), (3, 1, (.t 13))]), .a 15 1 3, .l 16 15, .a 17 2 3, .l 18 17, .a 19 3 3, .a 21 4 3, .s 4 4 14, .l 20 19, .l 22 21, .j 23 (.build [(.int .i64 0), (.int .i64 0), (.int .i64 0), (.int .i64 0)] [(0, 1, (.t 16)), (1, 1, (.t 18)), (2, 1, (.t 20)), (3, 1, (.t 22))]), .s 4 5 23], [.a 6 1 2, .l 7 6, .a 8 2 2, .l 9 8, .a 10 3 2, .l 11 10, .a 12 4 2, .l 13 12, .j 14 (.build [(.int .i64 0), (.int .i64 0), (.int .i64 0), (.int .i64 0)] [(0, 1, (.t 7)), (1, 1, (.t 9)), (2, 1, (.t 11)), (3, 1, (.t 13))]), .a 15 1 3, .l 16 15, .a 17 2 3, .a 19 3 3, .l 20 19, .a 21 4 3, .l 22 21, .s 4 4 14, .l 18 17, .j 23 (.build [(.int .i64 0), (.int .i64 0), (.int .i64 0), (.int .i64 0)] [(0, 1, (.t 16)), (1, 1, (.t 18)), (2, 1, (.t 20)), (3, 1, (.t 22))]), .s 4 5 23], [.a 6 1 2, .l 7 6, .a 8 2 2, .l 9 8, .a 10 3 2, .l 11 10, .a 12 4 2, .l 13 12, .j 14 (.build [(.int .i64 0), (.int .i64 0), (.int .i64 0), (.int .i64 0)] [(0, 1, (.t 7)), (1, 1, (.t 9)), (2, 1, (.t 11)), (3, 1, (.t 13))]), .a 15 1 3, .l 16 15, .a 17 2 3, .a 19 3 3, .l 20 19, .a 21 4 3, .s 4 4 14, .l 18 17, .l 22 21, .j 23 (.build [(.int .i64 0), (.int .i64 0), (.int .i64 0), (.int .i64 0)] [(0, 1, (.t 16)), (1, 1, (.t 18)), (2, 1, (.t 20)), (3, 1, (.t 22))]), .s 4 5 23], [.a 6 1 2, .l 7 6, .a 8 2 2, .l 9 8, .a 10 3 2, .l 11 10, .a 12 4 2, .l 13 12, .j 14 (.build [(.int .i64 0), (.int .i64 0), (.int .i64 0), (.int .i64 0)] [(0, 1, (.t 7)), (1, 1, (.t 9)), (2, 1, (.t 11)), (3, 1, (.t 13))]), .a 15 1 3, .l 16 15, .a 17 2 3, .a 19 3 3, .a 21 4 3, .l 22 21, .s 4 4 14, .l 18 17, .l 20 19, .j 23 (.build [(.int .i64 0), (.int .i64 0), (.int .i64 0), (.int .i64 0)] [(0, 1, (.t 16)), (1, 1, (.t 18)), (2, 1, (.t 20)), (3, 1, (.t 22))]), .s 4 5 23], [.a 6 1 2, .l 7 6, .a 8 2 2, .l 9 8, .a 10 3 2, .l 11 10, .a 12 4 2, .l 13 12, .j 14 (.build [(.int .i64 0), (.int .i64 0), (.int .i64 0), (.int .i64 0)] [(0, 1, (.t 7)), (1, 1, (.t 9)), (2, 1, (.t 11)), (3, 1, (.t 13))]), .a 15 1 3, .l 16 15, .a 17 2 3, .a 19 3 3, .a 21 4 3, .s 4 4 14, .l 18 17, .l 20 19, .l 22 21, .j 23 (.build [(.int .i64 0), (.int .i64 0), (.int .i64 0), (.int .i64 0)] [(0, 1, (.t 16)), (1, 1, (.t 18)), (2, 1, (.t 20)), (3, 1, (.t 22))]), .s 4 5 23], [.a 6 1 2, .l 7 6, .a 8 2 2, .l 9 8, .a 10 3 2, .l 11 10, .a 12 4 2, .l 13 12, .j 14 (.build [(.int .i64 0), (.int .i64 0), (.int .i64 0), (.int .i64 0)] [(0, 1, (.t 7)), (1, 1, (.t 9)), (2, 1, (.t 11)), (3, 1, (.t 13))]), .a 15 1 3, .a 17 2 3, .l 18 17, .a 19 3 3, .l 20 19, .a 21 4 3, .l 22 21, .s 4 4 14, .l 16 15, .j 23 (.build [(.int .i64 0), (.int .i64 0), (.int .i64 0), (.int .i64 0)] [(0, 1, (.t 16)), (1, 1, (.t 18)), (2, 1, (.t 20)), (3, 1, (.t 22))]), .s 4 5 23], [.a 6 1 2, .l 7 6, .a 8 2 2, .l 9 8, .a 10 3 2, .l 11 10, .a 12 4 2, .l 13 12, .j 14 (.build [(.int .i64 0), (.int .i64 0), (.int .i64 0), (.int .i64 0)] [(0, 1, (.t 7)), (1, 1, (.t 9)), (2, 1, (.t 11)), (3, 1, (.t 13))]), .a 15 1 3, .a 17 2 3, .l 18 17, .a 19 3 3, .l 20 19, .a 21 4 3, .s 4 4 14, .l 16 15, .l 22 21, .j 23 (.build [(.int .i64 0), (.int .i64 0), (.int .i64 0), (.int .i64 0)] [(0, 1, (.t 16)), (1, 1, (.t 18)), (2, 1, (.t 20)), (3, 1, (.t 22))]), .s 4 5 23], [.a 6 1 2, .l 7 6, .a 8 2 2, .l 9 8, .a 10 3 2, .l 11 10, .a 12 4 2, .l 13 12, .j 14 (.build [(.int .i64 0), (.int .i64 0), (.int .i64 0), (.int .i64 0)] [(0, 1, (.t 7)), (1, 1, (.t 9)), (2, 1, (.t 11)), (3, 1, (.t 13))]), .a 15 1 3, .a 17 2 3, .l 18 17, .a 19 3 3, .a 21 4 3, .l 22 21, .s 4 4 14, .l 16 15, .l 20 19, .j 23 (.build [(.int .i64 0), (.int .i64 0), (.int .i64 0), (.int .i64 0)] [(0, 1, (.t 16)), (1, 1, (.t 18)), (2, 1, (.t 20)), (3, 1, (.t 22))]), .s 4 5 23], [.a 6 1 2, .l 7 6, .a 8 2 2, .l 9 8, .a 10 3 2, .l 11 10, .a 12 4 2, .l 13 12, .j 14 (.build [(.int .i64 0), (.int .i64 0), (.int .i64 0), (.int .i64 0)] [(0, 1, (.t 7)), (1, 1, (.t 9)), (2, 1, (.t 11)), (3, 1, (.t 13))]), .a 15 1 3, .a 17 2 3, .l 18 17, .a 19 3 3, .a 21 4 3, .s 4 4 14, .l 16 15, .l 20 19, .l 22 21, .j 23 (.build [(.int .i64 0), (.int .i64 0), (.int .i64 0), (.int .i64 0)] [(0, 1, (.t 16)), (1, 1, (.t 18)), (2, 1, (.t 20)), (3, 1, (.t 22))]), .s 4 5 23], [.a 6 1 2, .l 7 6, .a 8 2 2, .l 9 8, .a 10 3 2, .l 11 10, .a 12 4 2, .l 13 12, .j 14 (.build [(.int .i64 0), (.int .i64 0), (.int .i64 0), (.int .i64 0)] [(0, 1, (.t 7)), (1, 1, (.t 9)), (2, 1, (.t 11)), (3, 1, (.t 13))]), .a 15 1 3, .a 17 2 3, .a 19 3 3, .l 20 19, .a 21 4 3, .l 22 21, .s 4 4 14, .l 16 15, .l 18 17, .j 23 (.build [(.int .i64 0), (.int .i64 0), (.int .i64 0), (.int .i64 0)] [(0, 1, (.t 16)), (1, 1, (.t 18)), (2, 1, (.t 20)), (3, 1, (.t 22))]), .s 4 5 23], [.a 6 1 2, .l 7 6, .a 8 2 2, .l 9 8, .a 10 3 2, .l 11 10, .a 12 4 2, .l 13 12, .j 14 (.build [(.int .i64 0), (.int .i64 0), (.int .i64 0), (.int .i64 0)] [(0, 1, (.t 7)), (1, 1, (.t 9)), (2, 1, (.t 11)), (3, 1, (.t 13))]), .a 15 1 3, .a 17 2 3, .a 19 3 3, .l 20 19, .a 21 4 3, .s 4 4 14, .l 16 15, .l 18 17, .l 22 21, .j 23 (.build [(.int .i64 0), (.int .i64 0), (.int .i64 0), (.int .i64 0)] [(0, 1, (.t 16)), (1, 1, (.t 18)), (2, 1, (.t 20)), (3, 1, (.t 22))]), .s 4 5 23], [.a 6 1 2, .l 7 6, .a 8 2 2, .l 9 8, .a 10 3 2, .l 11 10, .a 12 4 2, .l 13 12, .j 14 (.build [(.int .i64 0), (.int .i64 0), (.int .i64 0), (.int .i64 0)] [(0, 1, (.t 7)), (1, 1, (.t 9)), (2, 1, (.t 11)), (3, 1, (.t 13))]), .a 15 1 3, .a 17 2 3, .a 19 3 3, .a 21 4 3, .l 22 21, .s 4 4 14, .l 16 15, .l 18 17, .l 20 19, .j 23 (.build [(.int .i64 0), (.int .i64 0), (.int .i64 0), (.int .i64 0)] [(0, 1, (.t 16)), (1, 1, (.t 18)), (2, 1, (.t 20)), (3, 1, (.t 22))]), .s 4 5 23], [.a 6 1 2, .l 7 6, .a 8 2 2, .l 9 8, .a 10 3 2, .l 11 10, .a 12 4 2, .l 13 12, .j 14 (.build [(.int .i64 0), (.int .i64 0), (.int .i64 0), (.int .i64 0)] [(0, 1, (.t 7)), (1, 1, (.t 9)), (2, 1, (.t 11)), (3, 1, (.t 13))]), .a 15 1 3, .a 17 2 3, .a 19 3 3, .a 21 4 3, .s 4 4 14, .l 16 15, .l 18 17, .l 20 19, .l 22 21, .j 23 (.build [(.int .i64 0), (.int .i64 0), (.int .i64 0), (.int .i64 0)] [(0, 1, (.t 16)), (1, 1, (.t 18)), (2, 1, (.t 20)), (3, 1, (.t 22))]), .s 4 5 23]]) .ret)
theorem A2v : B8 Tryz.prog 72 = some (24, A4v, [.c 4 4 true, .c 5 4 true]) := by kernel_rfl
@[go_sem] def A3f : AC := .seq (.ops [[.n 2 0, .n 3 0]]) (.seq (.seq (.ops [[.m 4 0]]) (.block 0 (.seq (.ops [[.b 6 .eql 4 1, .m 5 6]]) (.cond (.t 5) (.seq (.ops [[.n 2 0, .n 3 4095]]) .ret) (.seq (.ops [[.b 8 .eql 4 2, .m 7 8]]) (.cond (.t 7) (.seq (.ops [[.n 2 0, .n 3 4095]]) .ret) (.seq (.ops [[.b 10 .eql 4 3, .m 9 10]]) (.cond (.t 9) (.seq (.ops [[.n 2 0, .n 3 59]]) .ret) (.seq (.ops [[.b 12 .eql 4 4, .m 11 12]]) (.cond (.t 11) (.seq (.ops [[.n 2 0, .n 3 1023]]) .ret) (.seq (.ops [[.b 14 .eql 4 5, .m 13 14]]) (.cond (.t 13) (.seq (.ops [[.n 2 0, .n 3 16383]]) .ret) (.seq (.ops [[.b 16 .eql 4 6, .m 15 16]]) (.cond (.t 15) (.seq (.ops [[.n 2 (-1), .n 3 200]]) .ret) (.seq (.ops [[.b 18 .eql 4 7, .m 17 18]]) (.cond (.t 17) (.seq (.ops [[.n 2 (-1), .n 3 4096]]) .ret) (.seq (.ops [[.b 20 .eql 4 8, .m 19 20]]) (.cond (.t 19) (.seq (.ops [[.n 2 0, .n 3 1]]) .ret) (.seq (.ops [[.b 22 .eql 4 9, .m 21 22]]) (.cond (.t 21) (.seq (.ops [[.n 2 20, .n 3 23]]) .ret) (.seq (.ops [[.b 24 .eql 4 10, .m 23 24]]) (.cond (.t 23) (.seq (.ops [[.n 2 1, .n 3 19]]) .ret) (.seq (.ops [[.b 26 .eql 4 11, .m 25 26]]) (.cond (.t 25) (.seq (.ops [[.n 2 1, .n 3 200]]) .ret) (.seq (.ops [[.b 28 .eql 4 12, .m 27 28]]) (.cond (.t 27) (.seq (.ops [[.n 2 1, .n 3 32767]]) .ret) .skip)))))))))))))))))))))))))) (.seq (.ops [[.n 2 0, .n 3 0]]) .ret))
theorem A8H : B8 Tryz.prog 73 = some (29, A3f, [.t 2, .t 3]) := by kernel_rfl
@[go_sem] def A6X : AC := .seq (.ops [[.j 2 (.box 740002 6 (.t 0)), .j 3 (.box 740003 5 (.t 1)), .n 4 0]]) (.seq (.ops [[.a 6 1 3, .l 7 6, .a 8 5 2, .l 9 8, .h 10 .add 7 9, .m 5 10]]) (.seq (.seq (.ops [[.a 11 0 3, .l 12 11]]) (.block 0 (.seq (.ops [[.b 14 .eql 12 16, .m 13 14]]) (.cond (.t 13) (.ops [[.a 15 1 3, .l 16 15, .a 17 2 3, .l 18 17, .h 19 .add 16 18, .a 20 1 3, .l 21 20, .a 22 3 3, .l 23 22, .h 24 .add 21 23, .b 25 .sub 24 1, .j 26 (.mm true [(.t 19), (.t 25)]), .m 5 26]]) (.seq (.seq (.ops [[.b 28 .eql 12 17, .m 27 28]]) (.cond (.t 27) .skip (.ops [[.b 29 .eql 12 21, .m 27 29]]))) (.cond (.t 27) (.ops [[.a 30 1 3, .l 31 30, .a 32 2 3, .l 33 32, .h 34 .add 31 33, .m 5 34]]) (.seq (.seq (.ops [[.b 36 .eql 12 18, .m 35 36]]) (.cond (.t 35) .skip (.ops [[.b 37 .eql 12 19, .m 35 37]]))) (.cond (.t 35) (.ops [[.a 38 1 3, .l 39 38, .a 40 2 3, .l 41 40, .h 42 .add 39 41, .b 43 .sub 42 1, .m 5 43]]) (.seq (.ops [[.b 45 .eql 12 25, .m 44 45]]) (.cond (.t 44) (.ops [[.a 46 1 3, .l 47 46, .b 48 .add 47 2, .a 49 3 3, .l 50 49, .h 51 .add 48 50, .m 5 51]]) .skip)))))))))) (.seq (.ops [[.m 52 5, .m 4 52]]) .ret)))
theorem A5Y : B8 Tryz.prog 74 = some (53, A6X, [.t 4]) := by kernel_rfl
@[go_sem] def A4U : AC := .seq (.ops [[.j 2 (.mov (.c .nils))]]) (.seq (.ops [[.m 3 0, .c 4 90 3]]) (.seq (.ops [[.m 5 0, .c 6 91 5, .m 2 6]]) .ret))
theorem A2D : B8 Tryz.prog 75 = some (7, A4U, [.t 2]) := by kernel_rfl
@[go_sem] def A4P : AC := .seq (.ops [[.h 13 .lss 12 11]]) (.seq (.cond (.t 13) .skip (.exit 0)) (.seq (.block 1 (.seq (.ops [[.m 14 12, .m 7 14]]) (.ops [[.m 15 6, .m 16 0, .m 17 7, .h 18 .add 16 17, .j 19 (.mkisl 1 [(.t 18)]), .j 20 (.app 760020 1 (.t 15) (.t 19)), .m 6 20]]))) (.ops [[.b 21 .add 12 1, .m 12 21]])))
def A5J : AC := A4P
theorem A8M : A5J = A4P := rfl
@[go_sem] def A6K : AC := .seq (.ops [[.j 4 (.mov (.c .nils)), .n 5 0]]) (.seq (.seq (.ops [[.m 8 1, .b 9 .lss 8 0]]) (.cond (.t 9) (.seq (.ops [[.m 10 0, .j 4 (.mov (.c .nils)), .m 5 10]]) .ret) .skip)) (.seq (.ops [[.j 6 (.mov (.c .nils))]]) (.seq (.seq (.ops [[.m 11 1, .n 12 0]]) (.block 0 (.loop A5J))) (.seq (.ops [[.m 22 6, .m 4 22, .n 5 (-1)]]) .ret))))
theorem A0r : B8 Tryz.prog 76 = some (23, A6K, [.t 4, .t 5]) := by kernel_rfl
@[go_sem] def A3h : AC := .seq (.ops [[.t 3 false]]) (.seq (.ops [[.m 4 0, .a 5 4 1, .l 6 5, .h 7 .geq 4 6, .m 3 7]]) .ret)
theorem A1y : B8 Tryz.prog 77 = some (8, A3h, [.t 3]) := by kernel_rfl
@[go_sem] def A2Z : AC := .seq (.ops [[.j 1 (.box 780001 5 (.t 0)), .n 2 0, .t 3 false]]) (.seq (.seq (.ops [[.a 4 0 1, .l 5 4]]) (.block 0 (.seq (.ops [[.b 7 .eql 5 2, .m 6 7]]) (.cond (.t 6) (.seq (.ops [[.a 8 2 1, .l 9 8, .m 2 9, .t 3 false]]) .ret) (.seq (.ops [[.b 11 .eql 5 7, .m 10 11]]) (.cond (.t 10) (.seq (.ops [[.a 12 2 1, .l 13 12, .m 2 13, .t 3 true]]) .ret) (.seq (.ops [[.b 15 .eql 5 8, .m 14 15]]) (.cond (.t 14) (.seq (.ops [[.a 16 1 1, .l 17 16, .m 2 17, .t 3 true]]) .ret) (.seq (.ops [[.b 19 .eql 5 11, .m 18 19]]) (.cond (.t 18) (.seq (.ops [[.a 20 3 1, .l 21 20, .m 2 21, .t 3 true]]) .ret) .skip)))))))))) (.seq (.ops [[.n 2 (-1), .t 3 false]]) .ret))
theorem A1H : B8 Tryz.prog 78 = some (22, A2Z, [.t 2, .t 3]) := by kernel_rfl
@[go_sem] def A3p : AC := .seq (.ops [[.h 12 .lss 11 10]]) (.seq (.cond (.t 12) .skip (.exit 0)) (.seq (.block 1 (.seq (.ops [[.m 13 11, .m 4 13]]) (.ops [[.a 14 0 3, .l 15 14, .m 16 4, .i 17 1 15 16, .e (.store 1 (.t 17) (.c (.bool true)))]]))) (.ops [[.b 18 .add 11 1, .m 11 18]])))
def A4E : AC := A3p
theorem A7l : A4E = A3p := rfl
@[go_sem] def A5U : AC := .seq (.ops [[.j 1 (.box 790001 11 (.t 0)), .j 2 (.box 790002 3 (.c (.agg [.nils, (.int .i64 0), .nils])))]]) (.seq (.ops [[.a 5 4 1, .l 6 5, .j 7 (.mksl 790007 [(.bool false)] (.t 6)), .j 8 (.build [.nils, (.int .i64 0), .nils] [(0, 1, (.t 7)), (1, 1, (.z (-1)))]), .j 3 (.box 790003 3 (.c (.agg [.nils, (.int .i64 0), .nils]))), .s 3 3 8]]) (.seq (.seq (.ops [[.a 9 2 1, .l 10 9, .n 11 0]]) (.block 0 (.loop A4E))) (.seq (.ops [[.w 19 3 3, .s 3 2 19]]) .ret)))
theorem A4r : B8 Tryz.prog 79 = some (20, A5U, [.c 2 3 true]) := by kernel_rfl
@[go_sem] def A4b : AC := .seq (.ops [[.j 3 (.box 800003 11 (.t 0)), .j 4 (.box 800004 2 (.t 1)), .j 5 (.box 800005 3 (.t 2)), .j 6 (.box 800006 3 (.c (.agg [.nils, (.int .i64 0), .nils])))]]) (.seq (.ops [[.a 10 5 3, .l 11 10, .j 12 (.iaddrA 2 1 (.t 4) (.z 0)), .l 13 12, .i 14 5 11 13, .w 15 5 14, .j 7 (.box 800007 5 (.c (.agg [(.int .i64 0), (.int .i64 0), (.int .i64 0), (.int .i64 0), (.int .i64 0)]))), .s 5 7 15]]) (.seq (.ops [[.w 16 5 7, .w 17 3 5, .j 18 (.call 92 [(.t 16), (.t 17)]), .j 8 (.box 800008 3 (.c (.agg [.nils, (.int .i64 0), .nils]))), .s 3 8 18]]) (.seq (.ops [[.a 19 0 7, .l 20 19, .b 21 .eql 20 23, .m 22 21, .k 23 22 true (.iaddrA 2 1 (.t 4) (.z 1)), .k 24 22 true (.load 1 false (.t 23)), .k 25 22 true (.faddr 2 (.t 7)), .k 26 22 true (.load 1 false (.t 25)), .k 27 22 true (.bin .eql (.t 24) (.t 26)), .j 28 (.pick (.t 22) (.t 27) (.c (.bool false))), .m 29 28, .k 30 29 false (.faddr 0 (.t 7)), .k 31 29 false (.load 1 false (.t 30)), .k 32 29 false (.bin .eql (.t 31) (.z 24)), .k 33 29 false (.mov (.t 32)), .k 34 33 true (.iaddrA 2 1 (.t 4) (.z 1)), .k 35 33 true (.load 1 false (.t 34)), .k 36 33 true (.faddr 2 (.t 7)), .k 37 33 true (.load 1 false (.t 36)), .k 38 33 true (.bin .neq (.t 35) (.t 37)), .k 39 33 true (.mov (.t 38)), .k 40 39 false (.faddr 2 (.t 7)), .k 41 39 false (.load 1 false (.t 40)), .k 42 39 false (.iaddrA 2 1 (.t 4) (.z 0)), .k 43 39 false (.load 1 false (.t 42)), .k 44 39 false (.bin .add (.t 43) (.z 1)), .k 45 39 false (.bin .eql (.t 41) (.t 44)), .k 46 33 true (.pick (.t 39) (.c (.bool true)) (.t 45)), .k 47 29 false (.pick (.t 33) (.t 46) (.c (.bool false))), .j 48 (.pick (.t 29) (.c (.bool true)) (.t 47)), .m 9 48]]) (.seq (.seq (.ops [[.m 49 9, .m 50 49, .k 51 50 true (.faddr 0 (.t 5)), .k 52 50 true (.load 1 false (.t 51)), .k 53 50 true (.faddr 1 (.t 7)), .k 54 50 true (.load 1 false (.t 53)), .k 55 50 true (.bin .add (.t 54) (.z 3)), .k 56 50 true (.iaddr 1 (.t 52) (.t 55)), .k 57 50 true (.load 1 false (.t 56)), .k 58 50 true (.un .not (.t 57)), .j 59 (.pick (.t 50) (.t 58) (.c (.bool false)))]]) (.cond (.t 59) (.ops [[.a 60 0 8, .l 61 60, .a 62 1 7, .l 63 62, .b 64 .add 63 3, .i 65 1 61 64, .e (.store 1 (.t 65) (.c (.bool false)))]]) .skip)) (.seq (.ops [[.w 66 3 8, .s 3 6 66]]) .ret)))))
theorem A3j : B8 Tryz.prog 80 = some (67, A4b, [.c 6 3 true]) := by kernel_rfl
@[go_sem] def A4c : AC := .seq (.ops [[.h 11 .lss 10 9]]) (.seq (.cond (.t 11) .skip (.exit 0)) (.seq (.block 1 (.seq (.ops [[.m 12 10, .m 6 12]]) (.seq (.ops [[.a 13 0 2, .l 14 13, .m 15 6, .i 16 1 14 15, .l 17 16, .m 18 17, .k 19 18 true (.faddr 0 (.t 3)), .k 20 18 true (.load 1 false (.t 19)), .k 21 18 true (.mov (.t 6)), .k 22 18 true (.iaddr 1 (.t 20) (.t 21)), .k 23 18 true (.load 1 false (.t 22)), .k 24 18 true (.un .not (.t 23)), .j 25 (.pick (.t 18) (.t 24) (.c (.bool false)))]]) (.cond (.t 25) (.seq (.ops [[.a 26 0 2, .l 27 26, .m 28 6, .i 29 1 27 28, .e (.store 1 (.t 29) (.c (.bool false)))]]) (.ops [[.t 5 true]])) .skip)))) (.ops [[.b 30 .add 10 1, .m 10 30]])))
def A5M : AC := A4c
theorem A8T : A5M = A4c := rfl
@[go_sem] def A6L : AC := .seq (.ops [[.j 2 (.box 810002 3 (.t 0)), .j 3 (.box 810003 3 (.t 1)), .t 4 false]]) (.seq (.ops [[.t 5 false]]) (.seq (.seq (.ops [[.a 7 0 2, .l 8 7, .r 9 0 8, .n 10 0]]) (.block 0 (.loop A5M))) (.seq (.ops [[.m 31 5, .m 4 31]]) .ret)))
theorem A5W : B8 Tryz.prog 81 = some (32, A6L, [.t 4]) := by kernel_rfl
@[go_sem] def A9K : AC := .seq (.ops [[.j 2 (.box 820002 11 (.t 0)), .j 4 (.mov (.c .nils))]]) (.seq (.seq (.ops [[.m 8 1, .b 9 .lss 8 0, .m 10 9, .k 11 10 false (.mov (.t 1)), .k 12 10 false (.faddr 5 (.t 2)), .k 13 10 false (.load 1 false (.t 12)), .k 14 10 false (.len 0 (.t 13)), .k 15 10 false (.bin .geq (.t 11) (.t 14)), .j 16 (.pick (.t 10) (.c (.bool true)) (.t 15))]]) (.cond (.t 16) (.seq (.ops [[.j 4 (.mov (.c .nils))]]) .ret) .skip)) (.seq (.ops [[.j 5 (.mov (.c .nils))]]) (.seq (.seq (.ops [[.a 18 5 2, .l 19 18, .m 20 1, .i 21 5 19 20, .w 22 5 21, .c 23 62 22, .m 17 23, .x 24 0 17, .x 25 1 17, .m 6 24, .m 7 25]]) (.seq (.ops [[.m 26 7, .m 27 26, .k 28 27 true (.mov (.t 6)), .k 29 27 true (.bin .geq (.t 28) (.z 0)), .j 30 (.pick (.t 27) (.t 29) (.c (.bool false))), .m 31 30, .k 32 31 true (.mov (.t 6)), .k 33 31 true (.faddr 5 (.t 2)), .k 34 31 true (.load 1 false (.t 33)), .k 35 31 true (.len 0 (.t 34)), .k 36 31 true (.bin .lss (.t 32) (.t 35)), .j 37 (.pick (.t 31) (.t 36) (.c (.bool false)))]]) (.cond (.t 37) (.ops [[.m 38 5, .m 39 6, .j 40 (.mkisl 1 [(.t 39)]), .j 41 (.app 820041 1 (.t 38) (.t 40)), .m 5 41]]) .skip))) (.seq (.seq (.ops [[.a 42 5 2, .l 43 42, .m 44 1, .i 45 5 43 44, .w 46 5 45, .c 47 83 46, .m 48 47, .k 49 48 true (.mov (.t 1)), .k 50 48 true (.bin .add (.t 49) (.z 1)), .k 51 48 true (.faddr 5 (.t 2)), .k 52 48 true (.load 1 false (.t 51)), .k 53 48 true (.len 0 (.t 52)), .k 54 48 true (.bin .lss (.t 50) (.t 53)), .j 55 (.pick (.t 48) (.t 54) (.c (.bool false)))]]) (.cond (.t 55) (.ops [[.m 56 5, .m 57 1, .b 58 .add 57 1, .j 59 (.mkisl 1 [(.t 58)]), .j 60 (.app 820060 1 (.t 56) (.t 59)), .m 5 60]]) .skip)) (.seq (.ops [[.m 61 5, .c 62 90 61]]) (.seq (.ops [[.m 63 5, .c 64 91 63, .m 4 64]]) .ret))))))
theorem A8e : B8 Tryz.prog 82 = some (65, A9K, [.t 4]) := by kernel_rfl
@[go_sem] def A6a : AC := .seq (.ops [[.j 1 (.box 830001 5 (.t 0)), .t 2 false]]) (.seq (.ops [[.a 3 0 1, .l 4 3, .b 5 .neq 4 14, .m 6 5, .k 7 6 true (.faddr 0 (.t 1)), .k 8 6 true (.load 1 false (.t 7)), .k 9 6 true (.bin .neq (.t 8) (.z 17)), .j 10 (.pick (.t 6) (.t 9) (.c (.bool false))), .m 11 10, .k 12 11 true (.faddr 0 (.t 1)), .k 13 11 true (.load 1 false (.t 12)), .k 14 11 true (.bin .neq (.t 13) (.z 18)), .j 15 (.pick (.t 11) (.t 14) (.c (.bool false))), .m 2 15]]) .ret)
theorem A4T : B8 Tryz.prog 83 = some (16, A6a, [.t 2]) := by kernel_rfl
@[go_sem] def A3w : AC := .seq (.seq (.ops [[.m 30 9, .b 31 .geq 30 0, .m 32 31, .k 33 32 true (.mov (.t 9)), .k 34 32 true (.faddr 1 (.t 5)), .k 35 32 true (.load 1 false (.t 34)), .k 36 32 true (.bin .lss (.t 33) (.t 35)), .j 37 (.pick (.t 32) (.t 36) (.c (.bool false)))]]) (.cond (.t 37) .skip (.exit 0))) (.seq (.block 1 (.ops [[.m 40 7, .m 41 9, .j 42 (.mkisl 1 [(.t 41)]), .j 43 (.app 840043 1 (.t 40) (.t 42)), .m 7 43]])) (.ops [[.m 38 9, .b 39 .add 38 1, .m 9 39]]))
def A4l : AC := A3w
theorem A0M : A4l = A3w := rfl
@[go_sem] def A2M : AC := .seq (.ops [[.h 56 .lss 55 54]]) (.seq (.cond (.t 56) .skip (.exit 2)) (.seq (.block 3 (.seq (.ops [[.i 57 3 53 55, .w 58 3 57, .j 11 (.box 840011 3 (.c (.agg [(.str []), (.bool false), (.int .i64 0)]))), .s 3 11 58]]) (.seq (.ops [[.a 59 1 11, .l 60 59]]) (.cond (.t 60) (.ops [[.m 61 7, .a 62 2 11, .l 63 62, .j 64 (.mkisl 1 [(.t 63)]), .j 65 (.app 840065 1 (.t 61) (.t 64)), .m 7 65]]) .skip)))) (.ops [[.b 66 .add 55 1, .m 55 66]])))
def A4n : AC := A2M
theorem A0u : A4n = A2M := rfl
@[go_sem] def A5P : AC := .seq (.ops [[.j 3 (.box 840003 11 (.t 0)), .j 4 (.box 840004 5 (.t 1)), .j 5 (.box 840005 3 (.t 2)), .t 6 false]]) (.seq (.ops [[.w 13 5 4, .c 14 59 13, .m 12 14, .x 15 0 12, .x 16 1 12, .m 7 15, .m 8 16]]) (.seq (.seq (.ops [[.m 17 8, .b 18 .geq 17 0, .a 19 1 5, .l 20 19, .b 21 .geq 20 0, .j 22 (.eqp 2 true (.t 18) (.t 21)), .m 23 22, .k 24 23 false (.mov (.t 8)), .k 25 23 false (.faddr 1 (.t 5)), .k 26 23 false (.load 1 false (.t 25)), .k 27 23 false (.bin .gtr (.t 24) (.t 26)), .j 28 (.pick (.t 23) (.c (.bool true)) (.t 27))]]) (.cond (.t 28) (.seq (.ops [[.t 6 false]]) .ret) .skip)) (.seq (.seq (.ops [[.m 29 8, .m 9 29]]) (.block 0 (.loop A4l))) (.seq (.seq (.ops [[.a 44 0 4, .l 45 44, .b 46 .eql 45 22]]) (.cond (.t 46) (.seq (.ops [[.a 47 8 3, .l 48 47, .a 49 2 4, .l 50 49, .i 51 11 48 50, .a 52 9 51, .l 53 52, .r 54 0 53, .n 55 0]]) (.block 2 (.loop A4n))) .skip)) (.seq (.ops [[.m 67 7, .j 68 (.mkfn 93 [(.t 5)]), .j 69 (.call 54 [(.t 67), (.t 68)]), .j 70 (.un .not (.t 69)), .m 6 70]]) .ret)))))
theorem r7 : B8 Tryz.prog 84 = some (71, A5P, [.t 6]) := by kernel_rfl
@[go_sem] def A0b : AC := .seq (.ops [[.t 3 false]]) (.seq (.ops [[.m 4 0, .a 5 1 1, .l 6 5, .h 7 .geq 4 6, .m 3 7]]) .ret)
theorem m9 : B8 Tryz.prog 85 = some (8, A0b, [.t 3]) := by kernel_rfl
@[go_sem] def S0 : AC := .seq (.ops [[.h 14 .lss 13 12]]) (.seq (.cond (.t 14) .skip (.exit 0)) (.seq (.block 1 (.seq (.ops [[.m 15 13, .m 5 15]]) (.seq (.ops [[.m 16 0, .m 17 5, .i 18 1 16 17, .l 19 18, .m 20 1, .m 21 5, .i 22 1 20 21, .l 23 22, .h 24 .neq 19 23]]) (.cond (.t 24) (.seq (.ops [[.t 4 false]]) .ret) .skip)))) (.ops [[.b 25 .add 13 1, .m 13 25]])))
def U7 : AC := S0
theorem A0x : U7 = S0 := rfl
@[go_sem] def Z2 : AC := .seq (.ops [[.t 4 false]]) (.seq (.seq (.ops [[.m 6 0, .r 7 0 6, .m 8 1, .r 9 0 8, .h 10 .neq 7 9]]) (.cond (.t 10) (.seq (.ops [[.t 4 false]]) .ret) .skip)) (.seq (.seq (.ops [[.m 11 0, .r 12 0 11, .n 13 0]]) (.block 0 (.loop U7))) (.seq (.ops [[.t 4 true]]) .ret)))
theorem W4 : B8 Tryz.prog 86 = some (26, Z2, [.t 4]) := by kernel_rfl
@[go_sem] def A2k : AC := .seq (.seq (.ops [[.m 5 1, .b 6 .neq 5 0]]) (.cond (.t 6) .skip (.exit 0))) (.block 1 (.ops [[.m 7 1, .m 8 0, .m 9 1, .h 10 .rem 8 9, .m 0 7, .m 1 10]]))
def A4z : AC := A2k
theorem A7O : A4z = A2k := rfl
@[go_sem] def A5p : AC := .seq (.ops [[.n 4 0]]) (.seq (.block 0 (.loop A4z)) (.seq (.ops [[.m 11 0, .m 4 11]]) .ret))
theorem A4O : B8 Tryz.prog 87 = some (12, A5p, [.t 4]) := by kernel_rfl
@[go_sem] def A7I : AC := .seq (.seq (.ops [[.m 13 6, .m 14 0, .r 15 1 14, .h 16 .lss 13 15]]) (.cond (.t 16) .skip (.exit 0))) (.seq (.block 1 (.seq (.ops [[.m 19 0, .m 20 6, .j 21 (.idx (.t 19) (.t 20)), .m 7 21]]) (.seq (.ops [[.m 22 5, .m 23 7, .h 24 .or 22 23, .m 5 24]]) (.seq (.ops [[.m 25 7, .j 26 (.iaddrA 256 1 (.g 0) (.t 25)), .l 27 26, .j 28 (.conv .i64 (.t 27)), .m 8 28]]) (.seq (.ops [[.m 29 3, .m 30 4, .m 31 8, .j 32 (.un .xor (.t 31)), .h 33 .and 30 32, .h 34 .add 29 33, .m 3 34]]) (.ops [[.m 35 8, .m 4 35]])))))) (.ops [[.m 17 6, .b 18 .add 17 1, .m 6 18]]))
def A8t : AC := A7I
@[go_sem] def A7j : AC := .seq (.seq (.ops [[.m 42 12, .m 43 0, .r 44 1 43, .h 45 .lss 42 44, .m 46 45, .k 47 46 true (.mov (.t 0)), .k 48 46 true (.mov (.t 12)), .k 49 46 true (.idx (.t 47) (.t 48)), .k 50 46 true (.iaddrA 256 1 (.g 0) (.t 49)), .k 51 46 true (.load 1 false (.t 50)), .k 52 46 true (.bin .neq (.t 51) (.c (.int .u8 0))), .j 53 (.pick (.t 46) (.t 52) (.c (.bool false)))]]) (.cond (.t 53) .skip (.exit 2))) (.block 3 (.ops [[.m 54 12, .b 55 .add 54 1, .m 12 55]]))
def A8C : AC := A7j
@[go_sem] def A7A : AC := .seq (.seq (.ops [[.m 80 12, .m 81 0, .r 82 1 81, .h 83 .lss 80 82, .m 84 83, .k 85 84 true (.mov (.t 0)), .k 86 84 true (.mov (.t 12)), .k 87 84 true (.idx (.t 85) (.t 86)), .k 88 84 true (.iaddrA 256 1 (.g 0) (.t 87)), .k 89 84 true (.load 1 false (.t 88)), .k 90 84 true (.bin .neq (.t 89) (.c (.int .u8 0))), .j 91 (.pick (.t 84) (.t 90) (.c (.bool false)))]]) (.cond (.t 91) .skip (.exit 6))) (.block 7 (.ops [[.m 92 12, .b 93 .add 92 1, .m 12 93]]))
def A8E : AC := A7A
@[go_sem] def A7q : AC := .seq (.seq (.ops [[.m 57 12, .m 58 0, .r 59 1 58, .h 60 .lss 57 59]]) (.cond (.t 60) .skip (.exit 4))) (.block 5 (.seq (.seq (.ops [[.m 61 0, .m 62 12, .j 63 (.idx (.t 61) (.t 62)), .j 64 (.iaddrA 256 1 (.g 0) (.t 63)), .l 65 64, .j 66 (.bin .eql (.t 65) (.c (.int .u8 0)))]]) (.cond (.t 66) (.seq (.ops [[.m 67 12, .b 68 .add 67 1, .m 12 68]]) (.exit 5)) .skip)) (.seq (.ops [[.m 69 9, .m 70 10, .m 71 0, .m 72 11, .m 73 12, .j 74 (.sls (.t 71) (some (.t 72)) (some (.t 73))), .i 75 1 69 70, .s 1 75 74]]) (.seq (.ops [[.m 76 10, .b 77 .add 76 1, .m 10 77]]) (.seq (.ops [[.m 78 12, .b 79 .add 78 1, .m 12 79]]) (.seq (.block 6 (.loop A8E)) (.ops [[.m 94 12, .m 11 94]])))))))
def A8z : AC := A7q
@[go_sem] def A2H : AC := .seq (.ops [[.j 2 (.mov (.c .nils))]]) (.seq (.ops [[.n 3 0]]) (.seq (.ops [[.n 4 1]]) (.seq (.ops [[.j 5 (.mov (.c (.int .u8 0)))]]) (.seq (.seq (.ops [[.n 6 0]]) (.block 0 (.loop A8t))) (.seq (.seq (.ops [[.m 36 5, .j 37 (.bin .geq (.t 36) (.c (.int .u8 128)))]]) (.cond (.t 37) (.seq (.ops [[.m 38 0, .j 39 (.call 94 [(.t 38), (.f 95)]), .m 2 39]]) .ret) .skip)) (.seq (.ops [[.m 40 3, .j 41 (.mksl 880041 [(.str [])] (.t 40)), .m 9 41]]) (.seq (.ops [[.n 10 0]]) (.seq (.ops [[.n 11 0]]) (.seq (.ops [[.n 12 0]]) (.seq (.block 2 (.loop A8C)) (.seq (.ops [[.m 56 12, .m 11 56]]) (.seq (.block 4 (.loop A8z)) (.seq (.seq (.ops [[.m 95 11, .m 96 0, .r 97 1 96, .h 98 .lss 95 97]]) (.cond (.t 98) (.ops [[.m 99 9, .m 100 10, .m 101 0, .m 102 11, .j 103 (.sls (.t 101) (some (.t 102)) none), .i 104 1 99 100, .s 1 104 103]]) .skip)) (.seq (.ops [[.m 105 9, .m 2 105]]) .ret))))))))))))))
theorem A8i : B8 Tryz.prog 88 = some (106, A2H, [.t 2]) := by kernel_rfl
@[go_sem] def A5w : AC := .seq (.ops [[.j 2 (.box 890002 6 (.c (.agg [(.str []), (.int .i64 0), (.int .i64 0), (.int .i64 0), (.int .i64 0), (.int .i64 0)])))]]) (.seq (.seq (.ops [[.m 3 0]]) (.block 0 (.seq (.ops [[.b 5 .eql 3 1, .m 4 5]]) (.cond (.t 4) (.seq (.ops [[.j 6 (.build [(.str []), (.int .i64 0), (.int .i64 0), (.int .i64 0), (.int .i64 0), (.int .i64 0)] [(1, 1, (.z 1)), (2, 1, (.z 1))]), .s 6 2 6]]) .ret) (.seq (.seq (.ops [[.b 8 .eql 3 2, .m 7 8]]) (.cond (.t 7) .skip (.ops [[.b 9 .eql 3 7, .m 7 9]]))) (.cond (.t 7) (.seq (.ops [[.j 10 (.build [(.str []), (.int .i64 0), (.int .i64 0), (.int .i64 0), (.int .i64 0), (.int .i64 0)] [(1, 1, (.z 1)), (2, 1, (.z 2))]), .s 6 2 10]]) .ret) (.seq (.ops [[.b 12 .eql 3 3, .m 11 12]]) (.cond (.t 11) (.seq (.ops [[.j 13 (.build [(.str []), (.int .i64 0), (.int .i64 0), (.int .i64 0), (.int .i64 0), (.int .i64 0)] [(1, 1, (.z 1)), (2, 1, (.z 1))]), .s 6 2 13]]) .ret) (.seq (.ops [[.b 15 .eql 3 4, .m 14 15]]) (.cond (.t 14) (.seq (.ops [[.j 16 (.build [(.str []), (.int .i64 0), (.int .i64 0), (.int .i64 0), (.int .i64 0), (.int .i64 0)] [(1, 1, (.z 1)), (2, 1, (.z 8))]), .s 6 2 16]]) .ret) (.seq (.ops [[.b 18 .eql 3 5, .m 17 18]]) (.cond (.t 17) (.seq (.ops [[.j 19 (.build [(.str []), (.int .i64 0), (.int .i64 0), (.int .i64 0), (.int .i64 0), (.int .i64 0)] [(1, 1, (.z 1)), (2, 1, (.z 3))]), .s 6 2 19]]) .ret) (.seq (.ops [[.b 21 .eql 3 6, .m 20 21]]) (.cond (.t 20) (.seq (.ops [[.j 22 (.build [(.str []), (.int .i64 0), (.int .i64 0), (.int .i64 0), (.int .i64 0), (.int .i64 0)] [(1, 1, (.z 3)), (2, 1, (.z 1))]), .s 6 2 22]]) .ret) (.seq (.ops [[.b 24 .eql 3 8, .m 23 24]]) (.cond (.t 23) (.seq (.ops [[.j 25 (.build [(.str []), (.int .i64 0), (.int .i64 0), (.int .i64 0), (.int .i64 0), (.int .i64 0)] [(1, 1, (.z 2)), (2, 1, (.z 1))]), .s 6 2 25]]) .ret) (.seq (.seq (.ops [[.b 27 .eql 3 9, .m 26 27]]) (.cond (.t 26) .skip (.ops [[.b 28 .eql 3 10, .m 26 28]]))) (.cond (.t 26) (.seq (.ops [[.j 29 (.build [(.str []), (.int .i64 0), (.int .i64 0), (.int .i64 0), (.int .i64 0), (.int .i64 0)] [(1, 1, (.z 1)), (2, 1, (.z 1)), (3, 1, (.z 1))]), .s 6 2 29]]) .ret) (.seq (.ops [[.b 31 .eql 3 11, .m 30 31]]) (.cond (.t 30) (.seq (.ops [[.j 32 (.build [(.str []), (.int .i64 0), (.int .i64 0), (.int .i64 0), (.int .i64 0), (.int .i64 0)] [(1, 1, (.z 1)), (2, 1, (.z 1)), (3, 1, (.z 2)), (5, 1, (.z 1))]), .s 6 2 32]]) .ret) (.seq (.ops [[.b 34 .eql 3 12, .m 33 34]]) (.cond (.t 33) (.seq (.ops [[.j 35 (.build [(.str []), (.int .i64 0), (.int .i64 0), (.int .i64 0), (.int .i64 0), (.int .i64 0)] [(1, 1, (.z 1)), (2, 1, (.z 1)), (3, 1, (.z 9))]), .s 6 2 35]]) .ret) (.seq (.ops [[.b 37 .eql 3 13, .m 36 37]]) (.cond (.t 36) (.seq (.ops [[.j 38 (.build [(.str []), (.int .i64 0), (.int .i64 0), (.int .i64 0), (.int .i64 0), (.int .i64 0)] [(1, 1, (.z 1)), (2, 1, (.z 1)), (3, 1, (.z 1)), (4, 1, (.z 10))]), .s 6 2 38]]) .ret) (.seq (.ops [[.b 40 .eql 3 14, .m 39 40]]) (.cond (.t 39) (.seq (.ops [[.j 41 (.build [(.str []), (.int .i64 0), (.int .i64 0), (.int .i64 0), (.int .i64 0), (.int .i64 0)] [(2, 1, (.z 5))]), .s 6 2 41]]) .ret) (.seq (.ops [[.b 43 .eql 3 15, .m 42 43]]) (.cond (.t 42) (.seq (.ops [[.j 44 (.build [(.str []), (.int .i64 0), (.int .i64 0), (.int .i64 0), (.int .i64 0), (.int .i64 0)] [(1, 1, (.z 1)), (2, 1, (.z 5)), (3, 1, (.z 8))]), .s 6 2 44]]) .ret) (.seq (.ops [[.b 46 .eql 3 16, .m 45 46]]) (.cond (.t 45) (.seq (.ops [[.j 47 (.build [(.str []), (.int .i64 0), (.int .i64 0), (.int .i64 0), (.int .i64 0), (.int .i64 0)] [(1, 1, (.z 1)), (2, 1, (.z 7)), (3, 1, (.z 6))]), .s 6 2 47]]) .ret) (.seq (.seq (.ops [[.b 49 .eql 3 17, .m 48 49]]) (.cond (.t 48) .skip (.ops [[.b 50 .eql 3 18, .m 48 50]]))) (.cond (.t 48) (.seq (.ops [[.j 51 (.build [(.str []), (.int .i64 0), (.int .i64 0), (.int .i64 0), (.int .i64 0), (.int .i64 0)] [(1, 1, (.z 1)), (2, 1, (.z 7))]), .s 6 2 51]]) .ret) (.seq (.ops [[.b 53 .eql 3 19, .m 52 53]]) (.cond (.t 52) (.seq (.ops [[.j 54 (.build [(.str []), (.int .i64 0), (.int .i64 0), (.int .i64 0), (.int .i64 0), (.int .i64 0)] [(1, 1, (.z 1)), (2, 1, (.z 6))]), .s 6 2 54]]) .ret) (.seq (.ops [[.b 56 .eql 3 21, .m 55 56]]) (.cond (.t 55) (.seq (.ops [[.j 57 (.build [(.str []), (.int .i64 0), (.int .i64 0), (.int .i64 0), (.int .i64 0), (.int .i64 0)] [(1, 1, (.z 1)), (2, 1, (.z 7)), (3, 1, (.z 12))]), .s 6 2 57]]) .ret) (.seq (.ops [[.b 59 .eql 3 22, .m 58 59]]) (.cond (.t 58) (.seq (.ops [[.j 60 (.build [(.str []), (.int .i64 0), (.int .i64 0), (.int .i64 0), (.int .i64 0), (.int .i64 0)] [(1, 1, (.z 1)), (2, 1, (.z 4))]), .s 6 2 60]]) .ret) (.seq (.seq (.ops [[.b 62 .eql 3 23, .m 61 62]]) (.cond (.t 61) .skip (.seq (.ops [[.b 63 .eql 3 24, .m 61 63]]) (.cond (.t 61) .skip (.ops [[.b 64 .eql 3 26, .m 61 64]]))))) (.cond (.t 61) (.seq (.ops [[.j 65 (.build [(.str []), (.int .i64 0), (.int .i64 0), (.int .i64 0), (.int .i64 0), (.int .i64 0)] [(1, 1, (.z 1)), (2, 1, (.z 5)), (5, 1, (.z 3))]), .s 6 2 65]]) .ret) (.seq (.ops [[.b 67 .eql 3 25, .m 66 67]]) (.cond (.t 66) (.seq (.ops [[.j 68 (.build [(.str []), (.int .i64 0), (.int .i64 0), (.int .i64 0), (.int .i64 0), (.int .i64 0)] [(1, 1, (.z 1)), (3, 1, (.z 11)), (5, 1, (.z 3))]), .s 6 2 68]]) .ret) (.seq (.seq (.ops [[.b 70 .eql 3 20, .m 69 70]]) (.cond (.t 69) .skip (.seq (.ops [[.b 71 .eql 3 27, .m 69 71]]) (.cond (.t 69) .skip (.ops [[.b 72 .eql 3 28, .m 69 72]]))))) (.cond (.t 69) (.seq (.ops [[.j 73 (.build [(.str []), (.int .i64 0), (.int .i64 0), (.int .i64 0), (.int .i64 0), (.int .i64 0)] [(1, 1, (.z 1))]), .s 6 2 73]]) .ret) .skip)))))))))))))))))))))))))))))))))))))))))))) (.seq (.ops [[.j 74 (.build [(.str []), (.int .i64 0), (.int .i64 0), (.int .i64 0), (.int .i64 0), (.int .i64 0)] [(1, 1, (.z 8))]), .s 6 2 74]]) .ret))
theorem B0m : B8 Tryz.prog 89 = some (75, A5w, [.c 2 6 true]) := by kernel_rfl
@[go_sem] def f0 : AC := .seq (.ops [[.m 3 0, .r 4 0 3, .m 2 4]]) (.ops [[.m 5 0, .m 6 2, .m 7 2, .j 8 (.conv .u64 (.t 7)), .c 9 97 8, .j 10 (.call 96 [(.t 5), (.z 0), (.t 6), (.t 9)])]])
theorem A3W : B8 Tryz.prog 90 = some (11, f0, []) := by kernel_rfl
@[go_sem] def A0F : AC := .seq (.seq (.ops [[.m 29 5, .m 30 4, .r 31 0 30, .h 32 .lss 29 31]]) (.cond (.t 32) .skip (.exit 2))) (.seq (.block 3 (.seq (.ops [[.m 35 4, .m 36 5, .i 37 1 35 36, .l 38 37, .m 39 4, .m 40 5, .b 41 .sub 40 1, .i 42 1 39 41, .l 43 42, .h 44 .neq 38 43]]) (.cond (.t 44) (.seq (.ops [[.m 45 0, .m 46 3, .m 47 4, .m 48 5, .i 49 1 47 48, .l 50 49, .i 51 1 45 46, .s 1 51 50]]) (.ops [[.m 52 3, .b 53 .add 52 1, .m 3 53]])) .skip))) (.ops [[.m 33 5, .b 34 .add 33 1, .m 5 34]]))
def A1d : AC := A0F
@[go_sem] def A0D : AC := .seq (.seq (.ops [[.m 10 3, .m 11 0, .r 12 0 11, .h 13 .lss 10 12]]) (.cond (.t 13) .skip (.exit 0))) (.seq (.block 1 (.seq (.ops [[.m 16 0, .m 17 3, .i 18 1 16 17, .l 19 18, .m 20 0, .m 21 3, .b 22 .sub 21 1, .i 23 1 20 22, .l 24 23, .h 25 .eql 19 24]]) (.cond (.t 25) (.seq (.ops [[.m 26 0, .m 27 3, .j 28 (.slc 1 (.t 26) (some (.t 27)) none), .m 4 28]]) (.seq (.seq (.ops [[.n 5 1]]) (.block 2 (.loop A1d))) (.seq (.ops [[.m 54 0, .m 55 3, .j 56 (.slc 1 (.t 54) (some (.t 55)) none), .e (.clr [(.int .i64 0)] (.t 56))]]) (.seq (.ops [[.m 57 0, .m 58 3, .j 59 (.slc 1 (.t 57) none (some (.t 58))), .m 2 59]]) .ret)))) .skip))) (.ops [[.m 14 3, .b 15 .add 14 1, .m 3 15]]))
def A1e : AC := A0D
@[go_sem] def T3 : AC := .seq (.ops [[.j 2 (.mov (.c .nils))]]) (.seq (.seq (.ops [[.m 6 0, .r 7 0 6, .b 8 .lss 7 2]]) (.cond (.t 8) (.seq (.ops [[.m 9 0, .m 2 9]]) .ret) .skip)) (.seq (.seq (.ops [[.n 3 1]]) (.block 0 (.loop A1e))) (.seq (.ops [[.m 60 0, .m 2 60]]) .ret)))
theorem A1h : B8 Tryz.prog 91 = some (61, T3, [.t 2]) := by kernel_rfl
@[go_sem] def A1I : AC := .seq (.ops [[.h 58 .lss 57 56]]) (.seq (.cond (.t 58) .skip (.exit 1)) (.seq (.block 2 (.seq (.ops [[.i 59 1 55 57, .l 60 59, .m 9 60]]) (.ops [[.a 61 0 5, .l 62 61, .m 63 9, .i 64 1 62 63, .e (.store 1 (.t 64) (.c (.bool true)))]]))) (.ops [[.b 65 .add 57 1, .m 57 65]])))
def A3c : AC := A1I
theorem A6v : A3c = A1I := rfl
@[go_sem] def J0 : AC := .seq (.ops [[.j 2 (.box 920002 5 (.t 0)), .j 3 (.box 920003 3 (.t 1)), .j 4 (.box 920004 3 (.c (.agg [.nils, (.int .i64 0), .nils])))]]) (.seq (.ops [[.a 10 0 3, .l 11 10, .a 13 2 3, .l 14 13, .c 12 98 11, .c 15 43 14, .j 16 (.build [.nils, (.int .i64 0), .nils] [(0, 1, (.t 12)), (1, 1, (.z (-1))), (2, 1, (.t 15))]), .j 5 (.box 920005 3 (.c (.agg [.nils, (.int .i64 0), .nils]))), .s 3 5 16], [.a 10 0 3, .l 11 10, .a 13 2 3, .l 14 13, .c 12 98 11, .j 5 (.box 920005 3 (.c (.agg [.nils, (.int .i64 0), .nils]))), .c 15 43 14, .j 16 (.build [.nils, (.int .i64 0), .nils] [(0, 1, (.t 12)), (1, 1, (.z (-1))), (2, 1, (.t 15))]), .s 3 5 16], [.a 10 0 3, .l 11 10, .a 13 2 3, .l 14 13, .j 5 (.box 920005 3 (.c (.agg [.nils, (.int .i64 0), .nils]))), .c 12 98 11, .c 15 43 14, .j 16 (.build [.nils, (.int .i64 0), .nils] [(0, 1, (.t 12)), (1, 1, (.z (-1))), (2, 1, (.t 15))]), .s 3 5 16], [.a 10 0 3, .l 11 10, .a 13 2 3, .j 5 (.box 920005 3 (.c (.agg [.nils, (.int .i64 0), .nils]))), .l 14 13, .c 12 98 11, .c 15 43 14, .j 16 (.build [.nils, (.int .i64 0), .nils] [(0, 1, (.t 12)), (1, 1, (.z (-1))), (2, 1, (.t 15))]), .s 3 5 16], [.a 10 0 3, .l 11 10, .a 13 2 3, .c 12 98 11, .l 14 13, .c 15 43 14, .j 16 (.build [.nils, (.int .i64 0), .nils] [(0, 1, (.t 12)), (1, 1, (.z (-1))), (2, 1, (.t 15))]), .j 5 (.box 920005 3 (.c (.agg [.nils, (.int .i64 0), .nils]))), .s 3 5 16], [.a 10 0 3, .l 11 10, .a 13 2 3, .c 12 98 11, .l 14 13, .j 5 (.box 920005 3 (.c (.agg [.nils, (.int .i64 0), .nils]))), .c 15 43 14, .j 16 (.build [.nils, (.int .i64 0), .nils] [(0, 1, (.t 12)), (1, 1, (.z (-1))), (2, 1, (.t 15))]), .s 3 5 16], [.a 10 0 3, .l 11 10, .a 13 2 3, .c 12 98 11, .j 5 (.box 920005 3 (.c (.agg [.nils, (.int .i64 0), .nils]))), .l 14 13, .c 15 43 14, .j 16 (.build [.nils, (.int .i64 0), .nils] [(0, 1, (.t 12)), (1, 1, (.z (-1))), (2, 1, (.t 15))]), .s 3 5 16], [.a 10 0 3, .l 11 10, .a 13 2 3, .j 5 (.box 920005 3 (.c (.agg [.nils, (.int .i64 0), .nils]))), .c 12 98 11, .l 14 13, .c 15 43 14, .j 16 (.build [.nils, (.int .i64 0), .nils] [(0, 1, (.t 12)), (1, 1, (.z (-1))), (2, 1, (.t 15))]), .s 3 5 16], [.a 10 0 3, .a 13 2 3, .l 14 13, .j 5 (.box 920005 3 (.c (.agg [.nils, (.int .i64 0), .nils]))), .l 11 10, .c 12 98 11, .c 15 43 14, .j 16 (.build [.nils, (.int .i64 0), .nils] [(0, 1, (.t 12)), (1, 1, (.z (-1))), (2, 1, (.t 15))]), .s 3 5 16], [.a 10 0 3, .a 13 2 3, .j 5 (.box 920005 3 (.c (.agg [.nils, (.int .i64 0), .nils]))), .l 11 10, .l 14 13, .c 12 98 11, .c 15 43 14, .j 16 (.build [.nils, (.int .i64 0), .nils] [(0, 1, (.t 12)), (1, 1, (.z (-1))), (2, 1, (.t 15))]), .s 3 5 16], [.a 10 0 3, .a 13 2 3, .j 5 (.box 920005 3 (.c (.agg [.nils, (.int .i64 0), .nils]))), .l 11 10, .c 12 98 11, .l 14 13, .c 15 43 14, .j 16 (.build [.nils, (.int .i64 0), .nils] [(0, 1, (.t 12)), (1, 1, (.z (-1))), (2, 1, (.t 15))]), .s 3 5 16]]) (.seq (.seq (.ops [[.a 17 0 2, .l 18 17]]) (.block 0 (.seq (.ops [[.b 20 .eql 18 16, .m 19 20]]) (.cond (.t 19) (.ops [[.a 21 0 5, .l 22 21, .a 23 1 2, .l 24 23, .j 25 (.call 99 [(.t 22), (.t 24)])]]) (.seq (.ops [[.b 27 .eql 18 25, .m 26 27]]) (.cond (.t 26) (.ops [[.a 28 0 5, .l 29 28, .a 30 1 2, .l 31 30, .b 32 .add 31 3, .j 33 (.call 99 [(.t 29), (.t 32)])]]) (.seq (.ops [[.b 35 .eql 18 28, .m 34 35]]) (.cond (.t 34) (.ops [[.a 36 2 5, .l 37 36, .a 38 1 2, .l 39 38, .j 40 (.mkisl 1 [(.t 39)]), .j 41 (.app 920041 1 (.t 37) (.t 40)), .a 42 2 5, .s 1 42 41]]) (.seq (.ops [[.b 44 .eql 18 27, .m 43 44]]) (.cond (.t 43) (.ops [[.a 45 2 5, .l 46 45, .j 47 (.mkfn 101 [(.t 2)]), .j 48 (.call 100 [(.t 46), (.t 47)]), .a 49 2 5, .s 1 49 48]]) .skip)))))))))) (.seq (.ops [[.w 51 5 2, .c 52 60 51, .m 50 52, .x 53 0 50, .x 54 1 50, .m 6 53, .m 7 54]]) (.seq (.seq (.ops [[.m 55 6, .r 56 0 55, .n 57 0]]) (.block 1 (.loop A3c))) (.seq (.seq (.ops [[.m 66 7, .b 67 .geq 66 0]]) (.cond (.t 67) (.seq (.ops [[.a 68 0 5, .l 69 68, .m 70 7, .j 71 (.call 99 [(.t 69), (.t 70)])]]) (.ops [[.m 72 7, .a 73 1 5, .s 1 73 72]])) .skip)) (.seq (.ops [[.w 74 3 5, .s 3 4 74]]) .ret))))))
theorem A2P : B8 Tryz.prog 92 = some (75, J0, [.c 4 3 true]) := by kernel_rfl
@[go_sem] def A3s : AC := .seq (.ops [[.t 3 false]]) (.seq (.ops [[.a 4 0 1, .l 5 4, .m 6 0, .i 7 1 5 6, .l 8 7, .j 9 (.un .not (.t 8)), .m 3 9]]) .ret)
theorem A1t : B8 Tryz.prog 93 = some (10, A3s, [.t 3]) := by kernel_rfl
@[go_sem] def S9 : AC := .seq (.ops [[.j 2 (.mov (.c .nils))]]) (.seq (.seq (.ops [[.m 3 0, .j 4 (.eqn false false (.t 3))]]) (.cond (.t 4) (.seq (.ops [[.j 2 (.mov (.c .nils))]]) .ret) .skip)) (.seq (.ops [[.j 5 (.mkrow 980005 1 []), .m 6 0, .j 7 (.apb 140737488355328 980007 1 (.t 5) (.t 6)), .m 2 7]]) .ret))
theorem R4 : B8 Tryz.prog 98 = some (8, S9, [.t 2]) := by kernel_rfl
@[go_sem] def A2y : AC := .seq (.seq (.ops [[.m 6 4, .m 7 0, .r 8 0 7, .h 9 .lss 6 8]]) (.cond (.t 9) .skip (.exit 0))) (.seq (.block 1 (.ops [[.m 12 0, .m 13 4, .i 14 1 12 13, .e (.store 1 (.t 14) (.c (.bool false)))]])) (.ops [[.m 10 4, .b 11 .add 10 1, .m 4 11]]))
def A4g : AC := A2y
theorem A7M : A4g = A2y := rfl
@[go_sem] def A6b : AC := .seq (.ops [[.m 5 1, .m 4 5]]) (.block 0 (.loop A4g))
theorem A4u : B8 Tryz.prog 99 = some (15, A6b, []) := by kernel_rfl
@[go_sem] def L8 : AC := .seq (.seq (.ops [[.m 16 6, .m 17 0, .r 18 0 17, .h 19 .lss 16 18]]) (.cond (.t 19) .skip (.exit 0))) (.seq (.block 1 (.seq (.ops [[.m 22 0, .m 23 6, .i 24 1 22 23, .l 25 24, .m 7 25]]) (.seq (.ops [[.m 26 1, .m 27 7, .j 28 (.callv (.t 26) [(.t 27)]), .j 29 (.un .not (.t 28))]]) (.cond (.t 29) (.seq (.ops [[.m 30 0, .m 31 5, .m 32 7, .i 33 1 30 31, .s 1 33 32]]) (.ops [[.m 34 5, .b 35 .add 34 1, .m 5 35]])) .skip)))) (.ops [[.m 20 6, .b 21 .add 20 1, .m 6 21]]))
def M9 : AC := L8
theorem a6 : M9 = L8 := rfl
@[go_sem] def P0 : AC := .seq (.ops [[.j 4 (.mov (.c .nils))]]) (.seq (.ops [[.m 8 0, .m 9 1, .j 10 (.call 69 [(.t 8), (.t 9)]), .m 5 10]]) (.seq (.seq (.ops [[.m 11 5, .b 12 .eql 11 (-1)]]) (.cond (.t 12) (.seq (.ops [[.m 13 0, .m 4 13]]) .ret) .skip)) (.seq (.seq (.ops [[.m 14 5, .b 15 .add 14 1, .m 6 15]]) (.block 0 (.loop M9))) (.seq (.ops [[.m 36 0, .m 37 5, .j 38 (.slc 1 (.t 36) (some (.t 37)) none), .e (.clr [(.int .i64 0)] (.t 38))]]) (.seq (.ops [[.m 39 0, .m 40 5, .j 41 (.slc 1 (.t 39) none (some (.t 40))), .m 4 41]]) .ret)))))
theorem N9 : B8 Tryz.prog 100 = some (42, P0, [.t 4]) := by kernel_rfl
@[go_sem] def A1C : AC := .seq (.ops [[.t 3 false]]) (.seq (.ops [[.m 4 0, .a 5 1 1, .l 6 5, .h 7 .geq 4 6, .m 3 7]]) .ret)
theorem A0N : B8 Tryz.prog 101 = some (8, A1C, [.t 3]) := by kernel_rfl
def exT : List (FuncId × Nat × AC × List RV) := [
  (3, 67, Q6, [.t 4]),
  (4, 78, Z9, [.t 0]),
  (5, 22, V5, [.t 2]),
  (6, 71, B0M, [.c 2 11 true, .t 3]),
  (7, 20, A9P, [.c 2 11 true, .t 3]),
  (8, 13, A5b, [.t 2]),
  (9, 33, d5, [.t 4]),
  (10, 41, B0N, [.t 2, .t 3]),
  (11, 5, Z4, [.c 0 11 true]),
  (12, 19, B1L, [.t 2]),
  (13, 20, m8, [.t 2]),
  (14, 20, A6B, [.c 2 11 true, .c 3 1 false]),
  (15, 16, A6M, [.c 2 1 false]),
  (16, 23, A2F, [.t 2, .t 3, .t 4]),
  (17, 44, d7, [.t 2]),
  (18, 185, m6, [.t 4]),
  (19, 181, X8, []),
  (20, 19, A4i, []),
  (21, 119, X9, [.c 4 11 true]),
  (22, 7, A1a, []),
  (23, 20, A6J, [.t 2]),
  (24, 4, A8v, [.t 2]),
  (25, 74, A5x, [.t 2]),
  (26, 42, A4F, [.t 4, .t 5, .t 6]),
  (27, 17, A1D, []),
  (28, 23, A1s, []),
  (29, 23, u6, []),
  (30, 43, v8, []),
  (31, 8, A1z, [.t 2]),
  (32, 24, A1p, [.t 2]),
  (33, 14, x8, [.t 2]),
  (34, 22, k6, [.t 2]),
  (35, 37, A0d, [.c 2 5 true]),
  (36, 7, A5C, []),
  (37, 23, A8W, [.t 4]),
  (38, 42, A5e, [.c 2 11 true]),
  (39, 53, A5i, [.t 2]),
  (40, 118, A7T, [.t 2]),
  (41, 60, u7, [.t 4]),
  (42, 21, A5Q, [.t 2]),
  (43, 8, Y5, [.t 2]),
  (44, 31, A0T, [.t 4]),
  (45, 8, I6, [.t 2]),
  (46, 8, I5, [.t 2]),
  (47, 8, N7, [.t 2]),
  (48, 8, L0, [.t 2]),
  (49, 6, A3n, [.t 2]),
  (50, 9, H7, [.t 4]),
  (51, 8, A2m, [.t 3]),
  (52, 9, G2, [.t 4]),
  (53, 8, A3m, [.t 3]),
  (54, 9, L6, [.t 4]),
  (55, 5, A5A, [.t 2]),
  (56, 6, A5H, [.t 2]),
  (57, 74, A6P, [.t 2]),
  (58, 85, A5I, [.t 2]),
  (59, 88, A5R, [.t 2, .t 3]),
  (60, 92, A4a, [.t 2, .t 3]),
  (61, 17, A5r, [.t 6]),
  (62, 14, A4j, [.t 2, .t 3]),
  (63, 63, A5m, [.t 4]),
  (64, 56, A4K, [.t 4]),
  (65, 30, A5g, [.t 2]),
  (66, 109, X7, [.t 6]),
  (67, 19, J5, [.t 4]),
  (68, 19, I1, [.t 4]),
  (69, 19, P7, [.t 4]),
  (70, 33, A2O, [.t 2]),
  (71, 25, A9E, [.c 2 6 true, .t 3]),
  (72, 24, A4v, [.c 4 4 true, .c 5 4 true]),
  (73, 29, A3f, [.t 2, .t 3]),
  (74, 53, A6X, [.t 4]),
  (75, 7, A4U, [.t 2]),
  (76, 23, A6K, [.t 4, .t 5]),
  (77, 8, A3h, [.t 3]),
  (78, 22, A2Z, [.t 2, .t 3]),
  (79, 20, A5U, [.c 2 3 true]),
  (80, 67, A4b, [.c 6 3 true]),
  (81, 32, A6L, [.t 4]),
  (82, 65, A9K, [.t 4]),
  (83, 16, A6a, [.t 2]),
  (84, 71, A5P, [.t 6]),
  (85, 8, A0b, [.t 3]),
  (86, 26, Z2, [.t 4]),
  (87, 12, A5p, [.t 4]),
  (88, 106, A2H, [.t 2]),
  (89, 75, A5w, [.c 2 6 true]),
  (90, 11, f0, []),
  (91, 61, T3, [.t 2]),
  (92, 75, J0, [.c 4 3 true]),
  (93, 10, A3s, [.t 3]),
  (98, 8, S9, [.t 2]),
  (99, 15, A6b, []),
  (100, 42, P0, [.t 4]),
  (101, 8, A1C, [.t 3])]
theorem A3G : C1 Tryz.prog exT := 
  (C1.cons O5 
  (C1.cons A3t 
  (C1.cons S3 
  (C1.cons A1B 
  (C1.cons A8r 
  (C1.cons T6 
  (C1.cons Z7 
  (C1.cons B4K 
  (C1.cons A2X 
  (C1.cons B0c 
  (C1.cons d6 
  (C1.cons A5v 
  (C1.cons A5u 
  (C1.cons A1q 
  (C1.cons W8 
  (C1.cons d9 
  (C1.cons A2w 
  (C1.cons A2T 
  (C1.cons K6 
  (C1.cons x6 
  (C1.cons A5D 
  (C1.cons A6Q 
  (C1.cons A4V 
  (C1.cons A3a 
  (C1.cons A7g 
  (C1.cons A7c 
  (C1.cons A5z 
  (C1.cons A5K 
  (C1.cons A0K 
  (C1.cons A0q 
  (C1.cons n7 
  (C1.cons f8 
  (C1.cons q9 
  (C1.cons A4e 
  (C1.cons A6T 
  (C1.cons A4B 
  (C1.cons A4s 
  (C1.cons A6A 
  (C1.cons q8 
  (C1.cons A4N 
  (C1.cons K9 
  (C1.cons y0 
  (C1.cons H6 
  (C1.cons H8 
  (C1.cons L4 
  (C1.cons K1 
  (C1.cons A1A 
  (C1.cons G8 
  (C1.cons A1G 
  (C1.cons F9 
  (C1.cons A1E 
  (C1.cons L1 
  (C1.cons A4h 
  (C1.cons A4Q 
  (C1.cons A5k 
  (C1.cons A4G 
  (C1.cons s7 
  (C1.cons A2q 
  (C1.cons A4q 
  (C1.cons A3y 
  (C1.cons A4C 
  (C1.cons A2G 
  (C1.cons A4o 
  (C1.cons U1 
  (C1.cons I8 
  (C1.cons H2 
  (C1.cons H1 
  (C1.cons A1K 
  (C1.cons A8A 
  (C1.cons A2v 
  (C1.cons A8H 
  (C1.cons A5Y 
  (C1.cons A2D 
  (C1.cons A0r 
  (C1.cons A1y 
  (C1.cons A1H 
  (C1.cons A4r 
  (C1.cons A3j 
  (C1.cons A5W 
  (C1.cons A8e 
  (C1.cons A4T 
  (C1.cons r7 
  (C1.cons m9 
  (C1.cons W4 
  (C1.cons A4O 
  (C1.cons A8i 
  (C1.cons B0m 
  (C1.cons A3W 
  (C1.cons A1h 
  (C1.cons A2P 
  (C1.cons A1t 
  (C1.cons R4 
  (C1.cons A4u 
  (C1.cons N9 
  (C1.cons A0N C1.nil)))))))))))))))))))))))))))))))))))))))))))))))))))))))))))))))))))))))))))))))))))))))))))))))
end Go.Proofs.YtilggmmkmegefaaGreatDoor
