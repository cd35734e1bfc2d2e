/-
  The code of the functions that this seat reaches, translated into abstract code (printed by a program, each proved to be the translation). No condition.
-/
import Derived.Test.YtpmkgcjhbpiojaaGreatDoorCodeB
import Derived.Test.YtpmkgcjhbpiojaaGreatDoorChecked
set_option maxRecDepth 1000000
namespace Go.Proofs.YtpmkgcjhbpiojaaGreatDoor
open Go.Abs
@[go_sem] def A6w : AC := .seq (.ops [[.j 2 (.box 1060002 6 (.c (.agg [(.str []), (.int .i64 0), (.int .i64 0), (.int .i64 0), (.int .i64 0), (.int .i64 0)])))]]) (.seq (.seq (.ops [[.m 3 0]]) (.block 0 (.seq (.ops [[.b 5 .eql 3 1, .m 4 5]]) (.cond (.t 4) (.seq (.ops [[.j 6 (.build [(.str []), (.int .i64 0), (.int .i64 0), (.int .i64 0), (.int .i64 0), (.int .i64 0)] [(1, 1, (.z 1)), (2, 1, (.z 1))]), .s 6 2 6]]) .ret) (.seq (.seq (.ops [[.b 8 .eql 3 2, .m 7 8]]) (.cond (.t 7) .skip (.ops [[.b 9 .eql 3 7, .m 7 9]]))) (.cond (.t 7) (.seq (.ops [[.j 10 (.build [(.str []), (.int .i64 0), (.int .i64 0), (.int .i64 0), (.int .i64 0), (.int .i64 0)] [(1, 1, (.z 1)), (2, 1, (.z 2))]), .s 6 2 10]]) .ret) (.seq (.ops [[.b 12 .eql 3 3, .m 11 12]]) (.cond (.t 11) (.seq (.ops [[.j 13 (.build [(.str []), (.int .i64 0), (.int .i64 0), (.int .i64 0), (.int .i64 0), (.int .i64 0)] [(1, 1, (.z 1)), (2, 1, (.z 1))]), .s 6 2 13]]) .ret) (.seq (.ops [[.b 15 .eql 3 4, .m 14 15]]) (.cond (.t 14) (.seq (.ops [[.j 16 (.build [(.str []), (.int .i64 0), (.int .i64 0), (.int .i64 0), (.int .i64 0), (.int .i64 0)] [(1, 1, (.z 1)), (2, 1, (.z 8))]), .s 6 2 16]]) .ret) (.seq (.ops [[.b 18 .eql 3 5, .m 17 18]]) (.cond (.t 17) (.seq (.ops [[.j 19 (.build [(.str []), (.int .i64 0), (.int .i64 0), (.int .i64 0), (.int .i64 0), (.int .i64 0)] [(1, 1, (.z 1)), (2, 1, (.z 3))]), .s 6 2 19]]) .ret) (.seq (.ops [[.b 21 .eql 3 6, .m 20 21]]) (.cond (.t 20) (.seq (.ops [[.j 22 (.build [(.str []), (.int .i64 0), (.int .i64 0), (.int .i64 0), (.int .i64 0), (.int .i64 0)] [(1, 1, (.z 3)), (2, 1, (.z 1))]), .s 6 2 22]]) .ret) (.seq (.ops [[.b 24 .eql 3 8, .m 23 24]]) (.cond (.t 23) (.seq (.ops [[.j 25 (.build [(.str []), (.int .i64 0), (.int .i64 0), (.int .i64 0), (.int .i64 0), (.int .i64 0)] [(1, 1, (.z 2)), (2, 1, (.z 1))]), .s 6 2 25]]) .ret) (.seq (.seq (.ops [[.b 27 .eql 3 9, .m 26 27]]) (.cond (.t 26) .skip (.ops [[.b 28 .eql 3 10, .m 26 28]]))) (.cond (.t 26) (.seq (.ops [[.j 29 (.build [(.str []), (.int .i64 0), (.int .i64 0), (.int .i64 0), (.int .i64 0), (.int .i64 0)] [(1, 1, (.z 1)), (2, 1, (.z 1)), (3, 1, (.z 1))]), .s 6 2 29]]) .ret) (.seq (.ops [[.b 31 .eql 3 11, .m 30 31]]) (.cond (.t 30) (.seq (.ops [[.j 32 (.build [(.str []), (.int .i64 0), (.int .i64 0), (.int .i64 0), (.int .i64 0), (.int .i64 0)] [(1, 1, (.z 1)), (2, 1, (.z 1)), (3, 1, (.z 2)), (5, 1, (.z 1))]), .s 6 2 32]]) .ret) (.seq (.ops [[.b 34 .eql 3 12, .m 33 34]]) (.cond (.t 33) (.seq (.ops [[.j 35 (.build [(.str []), (.int .i64 0), (.int .i64 0), (.int .i64 0), (.int .i64 0), (.int .i64 0)] [(1, 1, (.z 1)), (2, 1, (.z 1)), (3, 1, (.z 9))]), .s 6 2 35]]) .ret) (.seq (.ops [[.b 37 .eql 3 13, .m 36 37]]) (.cond (.t 36) (.seq (.ops [[.j 38 (.build [(.str []), (.int .i64 0), (.int .i64 0), (.int .i64 0), (.int .i64 0), (.int .i64 0)] [(1, 1, (.z 1)), (2, 1, (.z 1)), (3, 1, (.z 1)), (4, 1, (.z 10))]), .s 6 2 38]]) .ret) (.seq (.ops [[.b 40 .eql 3 14, .m 39 40]]) (.cond (.t 39) (.seq (.ops [[.j 41 (.build [(.str []), (.int .i64 0), (.int .i64 0), (.int .i64 0), (.int .i64 0), (.int .i64 0)] [(2, 1, (.z 5))]), .s 6 2 41]]) .ret) (.seq (.ops [[.b 43 .eql 3 15, .m 42 43]]) (.cond (.t 42) (.seq (.ops [[.j 44 (.build [(.str []), (.int .i64 0), (.int .i64 0), (.int .i64 0), (.int .i64 0), (.int .i64 0)] [(1, 1, (.z 1)), (2, 1, (.z 5)), (3, 1, (.z 8))]), .s 6 2 44]]) .ret) (.seq (.ops [[.b 46 .eql 3 16, .m 45 46]]) (.cond (.t 45) (.seq (.ops [[.j 47 (.build [(.str []), (.int .i64 0), (.int .i64 0), (.int .i64 0), (.int .i64 0), (.int .i64 0)] [(1, 1, (.z 1)), (2, 1, (.z 7)), (3, 1, (.z 6))]), .s 6 2 47]]) .ret) (.seq (.seq (.ops [[.b 49 .eql 3 17, .m 48 49]]) (.cond (.t 48) .skip (.ops [[.b 50 .eql 3 18, .m 48 50]]))) (.cond (.t 48) (.seq (.ops [[.j 51 (.build [(.str []), (.int .i64 0), (.int .i64 0), (.int .i64 0), (.int .i64 0), (.int .i64 0)] [(1, 1, (.z 1)), (2, 1, (.z 7))]), .s 6 2 51]]) .ret) (.seq (.ops [[.b 53 .eql 3 19, .m 52 53]]) (.cond (.t 52) (.seq (.ops [[.j 54 (.build [(.str []), (.int .i64 0), (.int .i64 0), (.int .i64 0), (.int .i64 0), (.int .i64 0)] [(1, 1, (.z 1)), (2, 1, (.z 6))]), .s 6 2 54]]) .ret) (.seq (.ops [[.b 56 .eql 3 21, .m 55 56]]) (.cond (.t 55) (.seq (.ops [[.j 57 (.build [(.str []), (.int .i64 0), (.int .i64 0), (.int .i64 0), (.int .i64 0), (.int .i64 0)] [(1, 1, (.z 1)), (2, 1, (.z 7)), (3, 1, (.z 12))]), .s 6 2 57]]) .ret) (.seq (.ops [[.b 59 .eql 3 22, .m 58 59]]) (.cond (.t 58) (.seq (.ops [[.j 60 (.build [(.str []), (.int .i64 0), (.int .i64 0), (.int .i64 0), (.int .i64 0), (.int .i64 0)] [(1, 1, (.z 1)), (2, 1, (.z 4))]), .s 6 2 60]]) .ret) (.seq (.seq (.ops [[.b 62 .eql 3 23, .m 61 62]]) (.cond (.t 61) .skip (.seq (.ops [[.b 63 .eql 3 24, .m 61 63]]) (.cond (.t 61) .skip (.ops [[.b 64 .eql 3 26, .m 61 64]]))))) (.cond (.t 61) (.seq (.ops [[.j 65 (.build [(.str []), (.int .i64 0), (.int .i64 0), (.int .i64 0), (.int .i64 0), (.int .i64 0)] [(1, 1, (.z 1)), (2, 1, (.z 5)), (5, 1, (.z 3))]), .s 6 2 65]]) .ret) (.seq (.ops [[.b 67 .eql 3 25, .m 66 67]]) (.cond (.t 66) (.seq (.ops [[.j 68 (.build [(.str []), (.int .i64 0), (.int .i64 0), (.int .i64 0), (.int .i64 0), (.int .i64 0)] [(1, 1, (.z 1)), (3, 1, (.z 11)), (5, 1, (.z 3))]), .s 6 2 68]]) .ret) (.seq (.seq (.ops [[.b 70 .eql 3 20, .m 69 70]]) (.cond (.t 69) .skip (.seq (.ops [[.b 71 .eql 3 27, .m 69 71]]) (.cond (.t 69) .skip (.ops [[.b 72 .eql 3 28, .m 69 72]]))))) (.cond (.t 69) (.seq (.ops [[.j 73 (.build [(.str []), (.int .i64 0), (.int .i64 0), (.int .i64 0), (.int .i64 0), (.int .i64 0)] [(1, 1, (.z 1))]), .s 6 2 73]]) .ret) .skip)))))))))))))))))))))))))))))))))))))))))))) (.seq (.ops [[.j 74 (.build [(.str []), (.int .i64 0), (.int .i64 0), (.int .i64 0), (.int .i64 0), (.int .i64 0)] [(1, 1, (.z 8))]), .s 6 2 74]]) .ret))
theorem B0O : B8 Tryz.prog 106 = some (75, A6w, [.c 2 6 true]) := by kernel_rfl
@[go_sem] def A0I : AC := .seq (.ops [[.m 3 0, .r 4 0 3, .m 2 4]]) (.ops [[.m 5 0, .m 6 2, .m 7 2, .j 8 (.conv .u64 (.t 7)), .c 9 118 8, .j 10 (.call 117 [(.t 5), (.z 0), (.t 6), (.t 9)])]])
theorem A4Z : B8 Tryz.prog 107 = some (11, A0I, []) := by kernel_rfl
@[go_sem] def A2r : AC := .seq (.seq (.ops [[.m 29 5, .m 30 4, .r 31 0 30, .h 32 .lss 29 31]]) (.cond (.t 32) .skip (.exit 2))) (.seq (.block 3 (.seq (.ops [[.m 35 4, .m 36 5, .i 37 1 35 36, .l 38 37, .m 39 4, .m 40 5, .b 41 .sub 40 1, .i 42 1 39 41, .l 43 42, .h 44 .neq 38 43]]) (.cond (.t 44) (.seq (.ops [[.m 45 0, .m 46 3, .m 47 4, .m 48 5, .i 49 1 47 48, .l 50 49, .i 51 1 45 46, .s 1 51 50]]) (.ops [[.m 52 3, .b 53 .add 52 1, .m 3 53]])) .skip))) (.ops [[.m 33 5, .b 34 .add 33 1, .m 5 34]]))
def A2Q : AC := A2r
@[go_sem] def A2n : AC := .seq (.seq (.ops [[.m 10 3, .m 11 0, .r 12 0 11, .h 13 .lss 10 12]]) (.cond (.t 13) .skip (.exit 0))) (.seq (.block 1 (.seq (.ops [[.m 16 0, .m 17 3, .i 18 1 16 17, .l 19 18, .m 20 0, .m 21 3, .b 22 .sub 21 1, .i 23 1 20 22, .l 24 23, .h 25 .eql 19 24]]) (.cond (.t 25) (.seq (.ops [[.m 26 0, .m 27 3, .j 28 (.slc 1 (.t 26) (some (.t 27)) none), .m 4 28]]) (.seq (.seq (.ops [[.n 5 1]]) (.block 2 (.loop A2Q))) (.seq (.ops [[.m 54 0, .m 55 3, .j 56 (.slc 1 (.t 54) (some (.t 55)) none), .e (.clr [(.int .i64 0)] (.t 56))]]) (.seq (.ops [[.m 57 0, .m 58 3, .j 59 (.slc 1 (.t 57) none (some (.t 58))), .m 2 59]]) .ret)))) .skip))) (.ops [[.m 14 3, .b 15 .add 14 1, .m 3 15]]))
def A2Y : AC := A2n
@[go_sem] def X7 : AC := .seq (.ops [[.j 2 (.mov (.c .nils))]]) (.seq (.seq (.ops [[.m 6 0, .r 7 0 6, .b 8 .lss 7 2]]) (.cond (.t 8) (.seq (.ops [[.m 9 0, .m 2 9]]) .ret) .skip)) (.seq (.seq (.ops [[.n 3 1]]) (.block 0 (.loop A2Y))) (.seq (.ops [[.m 60 0, .m 2 60]]) .ret)))
theorem A2V : B8 Tryz.prog 108 = some (61, X7, [.t 2]) := by kernel_rfl
@[go_sem] def o8 : AC := .seq (.seq (.ops [[.m 5 1, .b 6 .neq 5 0]]) (.cond (.t 6) .skip (.exit 0))) (.block 1 (.ops [[.m 7 1, .m 8 0, .m 9 1, .h 10 .rem 8 9, .m 0 7, .m 1 10]]))
def A0D : AC := o8
theorem A3E : A0D = o8 := rfl
@[go_sem] def A1l : AC := .seq (.ops [[.n 4 0]]) (.seq (.block 0 (.loop A0D)) (.seq (.ops [[.m 11 0, .m 4 11]]) .ret))
theorem A0S : B8 Tryz.prog 109 = some (12, A1l, [.t 4]) := by kernel_rfl
@[go_sem] def A1p : AC := .seq (.ops [[.n 2 0]]) (.seq (.seq (.ops [[.m 3 0, .b 4 .lss 3 0]]) (.cond (.t 4) (.seq (.ops [[.m 5 0, .j 6 (.un .neg (.t 5)), .m 2 6]]) .ret) .skip)) (.seq (.ops [[.m 7 0, .m 2 7]]) .ret))
theorem A0z : B8 Tryz.prog 110 = some (8, A1p, [.t 2]) := by kernel_rfl
@[go_sem] def A1K : AC := .seq (.ops [[.j 8 (.box 1110008 13 (.c (.agg [(.str []), (.bool false), (.bool false), (.bool false), (.bool false), (.int .i64 0), (.int .i64 0), (.int .i64 0), (.int .i64 0), (.int .i64 0), (.int .i64 0), (.int .i64 0), (.int .i64 0)])))]]) (.seq (.ops [[.m 9 0, .j 10 (.build [(.bool false), (.bool false), (.bool false), (.bool false)] [(0, 1, (.c (.bool true))), (1, 1, (.c (.bool true))), (2, 1, (.c (.bool false))), (3, 1, (.c (.bool false)))]), .m 11 2, .j 12 (.build [(.int .i64 0), (.int .i64 0), (.int .i64 0), (.int .i64 0)] [(0, 1, (.z 0)), (1, 1, (.t 11)), (2, 1, (.z 0)), (3, 1, (.z 0))]), .m 13 1, .m 14 3, .j 15 (.build [(.int .i64 0), (.int .i64 0), (.int .i64 0), (.int .i64 0)] [(0, 1, (.t 13)), (1, 1, (.t 14)), (2, 1, (.z 0)), (3, 1, (.z 0))]), .j 16 (.build [(.str []), (.bool false), (.bool false), (.bool false), (.bool false), (.int .i64 0), (.int .i64 0), (.int .i64 0), (.int .i64 0), (.int .i64 0), (.int .i64 0), (.int .i64 0), (.int .i64 0)] [(0, 1, (.t 9)), (1, 4, (.t 10)), (5, 4, (.t 12)), (9, 4, (.t 15))]), .s 13 8 16]]) .ret)
theorem A6M : B8 Tryz.prog 111 = some (17, A1K, [.c 8 13 true]) := by kernel_rfl
@[go_sem] def A1f : AC := .seq (.ops [[.j 6 (.box 1120006 2 (.t 2)), .j 7 (.box 1120007 2 (.t 3)), .j 8 (.box 1120008 13 (.c (.agg [(.str []), (.bool false), (.bool false), (.bool false), (.bool false), (.int .i64 0), (.int .i64 0), (.int .i64 0), (.int .i64 0), (.int .i64 0), (.int .i64 0), (.int .i64 0), (.int .i64 0)])))]]) (.seq (.ops [[.m 9 0, .j 10 (.build [(.bool false), (.bool false), (.bool false), (.bool false)] [(0, 1, (.c (.bool true))), (1, 1, (.c (.bool true))), (2, 1, (.c (.bool true))), (3, 1, (.c (.bool false)))]), .j 11 (.iaddrA 2 1 (.t 6) (.z 0)), .l 12 11, .j 13 (.iaddrA 2 1 (.t 7) (.z 0)), .l 14 13, .j 15 (.build [(.int .i64 0), (.int .i64 0), (.int .i64 0), (.int .i64 0)] [(0, 1, (.z 0)), (1, 1, (.t 12)), (2, 1, (.t 14)), (3, 1, (.z 0))]), .m 16 1, .j 17 (.iaddrA 2 1 (.t 6) (.z 1)), .l 18 17, .j 19 (.iaddrA 2 1 (.t 7) (.z 1)), .l 20 19, .j 21 (.build [(.int .i64 0), (.int .i64 0), (.int .i64 0), (.int .i64 0)] [(0, 1, (.t 16)), (1, 1, (.t 18)), (2, 1, (.t 20)), (3, 1, (.z 0))]), .j 22 (.build [(.str []), (.bool false), (.bool false), (.bool false), (.bool false), (.int .i64 0), (.int .i64 0), (.int .i64 0), (.int .i64 0), (.int .i64 0), (.int .i64 0), (.int .i64 0), (.int .i64 0)] [(0, 1, (.t 9)), (1, 4, (.t 10)), (5, 4, (.t 15)), (9, 4, (.t 21))]), .s 13 8 22]]) .ret)
theorem A5U : B8 Tryz.prog 112 = some (23, A1f, [.c 8 13 true]) := by kernel_rfl
@[go_sem] def r8 : AC := .seq (.ops [[.j 2 (.box 1130002 13 (.c (.agg [(.str []), (.bool false), (.bool false), (.bool false), (.bool false), (.int .i64 0), (.int .i64 0), (.int .i64 0), (.int .i64 0), (.int .i64 0), (.int .i64 0), (.int .i64 0), (.int .i64 0)])))]]) (.seq (.ops [[.j 6 (.build [(.int .i64 0), (.int .i64 0)] [(0, 1, (.z (-1))), (1, 1, (.z 200))]), .j 3 (.box 1130003 2 (.c (.agg [(.int .i64 0), (.int .i64 0)]))), .s 2 3 6]]) (.seq (.ops [[.j 7 (.build [(.int .i64 0), (.int .i64 0)] [(0, 1, (.z (-1))), (1, 1, (.z 4096))]), .j 4 (.box 1130004 2 (.c (.agg [(.int .i64 0), (.int .i64 0)]))), .s 2 4 7]]) (.seq (.ops [[.j 8 (.build [(.int .i64 0), (.int .i64 0)] [(0, 1, (.z 0)), (1, 1, (.z 16383))]), .j 5 (.box 1130005 2 (.c (.agg [(.int .i64 0), (.int .i64 0)]))), .s 2 5 8]]) (.seq (.seq (.ops [[.m 9 0]]) (.block 0 (.seq (.ops [[.b 11 .eql 9 14, .m 10 11]]) (.cond (.t 10) (.seq (.ops [[.j 12 (.build [(.bool false), (.bool false), (.bool false), (.bool false)] [(0, 1, (.c (.bool false))), (1, 1, (.c (.bool true))), (2, 1, (.c (.bool false))), (3, 1, (.c (.bool false)))]), .j 13 (.build [(.int .i64 0), (.int .i64 0), (.int .i64 0), (.int .i64 0)] [(0, 1, (.z 0)), (1, 1, (.z 16383)), (2, 1, (.z 0)), (3, 1, (.z 0))]), .j 14 (.build [(.str []), (.bool false), (.bool false), (.bool false), (.bool false), (.int .i64 0), (.int .i64 0), (.int .i64 0), (.int .i64 0), (.int .i64 0), (.int .i64 0), (.int .i64 0), (.int .i64 0)] [(0, 1, (.c (.str [106, 117, 109, 112]))), (1, 4, (.t 12)), (9, 4, (.t 13))]), .s 13 2 14]]) .ret) (.seq (.ops [[.b 16 .eql 9 15, .m 15 16]]) (.cond (.t 15) (.seq (.ops [[.w 17 2 5, .j 18 (.build [(.int .i64 0), (.int .i64 0)] [(0, 1, (.z 0)), (1, 1, (.z 1))]), .j 19 (.call 112 [(.c (.str [116, 101, 115, 116])), (.z 4095), (.t 17), (.t 18)]), .s 13 2 19]]) .ret) (.seq (.ops [[.b 21 .eql 9 16, .m 20 21]]) (.cond (.t 20) (.seq (.ops [[.w 22 2 4, .w 23 2 3, .j 24 (.call 112 [(.c (.str [99, 97, 108, 108])), (.z 4095), (.t 22), (.t 23)]), .s 13 2 24]]) .ret) (.seq (.ops [[.b 26 .eql 9 17, .m 25 26]]) (.cond (.t 25) (.seq (.ops [[.j 27 (.call 111 [(.c (.str [116, 97, 105, 108])), (.z 4095), (.z (-1)), (.z 4096)]), .s 13 2 27]]) .ret) (.seq (.ops [[.b 29 .eql 9 18, .m 28 29]]) (.cond (.t 28) (.seq (.ops [[.j 30 (.call 111 [(.c (.str [114, 101, 116, 117, 114, 110])), (.z 4095), (.z (-1)), (.z 4096)]), .s 13 2 30]]) .ret) (.seq (.ops [[.b 32 .eql 9 19, .m 31 32]]) (.cond (.t 31) (.seq (.ops [[.j 33 (.call 111 [(.c (.str [118, 97, 114, 97, 114, 103])), (.z 4095), (.z (-1)), (.z 200)]), .s 13 2 33]]) .ret) (.seq (.ops [[.b 35 .eql 9 20, .m 34 35]]) (.cond (.t 34) (.seq (.ops [[.j 36 (.call 119 [(.c (.str [116, 97, 98, 108, 101])), (.z 4095)]), .s 13 2 36]]) .ret) (.seq (.ops [[.b 38 .eql 9 21, .m 37 38]]) (.cond (.t 37) (.seq (.ops [[.w 39 2 4, .j 40 (.build [(.int .i64 0), (.int .i64 0)] [(0, 1, (.z 1)), (1, 1, (.z 32767))]), .j 41 (.call 112 [(.c (.str [97, 112, 112, 101, 110, 100])), (.z 4095), (.t 39), (.t 40)]), .s 13 2 41]]) .ret) (.seq (.ops [[.b 43 .eql 9 22, .m 42 43]]) (.cond (.t 42) (.seq (.ops [[.j 44 (.call 111 [(.c (.str [99, 108, 111, 115, 117, 114, 101])), (.z 4095), (.z 0), (.z 1023)]), .s 13 2 44]]) .ret) (.seq (.ops [[.b 46 .eql 9 23, .m 45 46]]) (.cond (.t 45) (.seq (.ops [[.j 47 (.call 111 [(.c (.str [112, 114, 101, 112])), (.z 4092), (.z 0), (.z 16383)]), .s 13 2 47]]) .ret) (.seq (.ops [[.b 49 .eql 9 24, .m 48 49]]) (.cond (.t 48) (.seq (.ops [[.j 50 (.call 111 [(.c (.str [108, 111, 111, 112])), (.z 4092), (.z 0), (.z 16383)]), .s 13 2 50]]) .ret) (.seq (.ops [[.b 52 .eql 9 25, .m 51 52]]) (.cond (.t 51) (.seq (.ops [[.j 53 (.build [(.bool false), (.bool false), (.bool false), (.bool false)] [(0, 1, (.c (.bool true))), (1, 1, (.c (.bool false))), (2, 1, (.c (.bool true))), (3, 1, (.c (.bool false)))]), .j 54 (.build [(.int .i64 0), (.int .i64 0), (.int .i64 0), (.int .i64 0)] [(0, 1, (.z 0)), (1, 1, (.z 0)), (2, 1, (.z 1)), (3, 1, (.z 0))]), .j 55 (.build [(.int .i64 0), (.int .i64 0), (.int .i64 0), (.int .i64 0)] [(0, 1, (.z 4092)), (1, 1, (.z 0)), (2, 1, (.z 200)), (3, 1, (.z 0))]), .j 56 (.build [(.str []), (.bool false), (.bool false), (.bool false), (.bool false), (.int .i64 0), (.int .i64 0), (.int .i64 0), (.int .i64 0), (.int .i64 0), (.int .i64 0), (.int .i64 0), (.int .i64 0)] [(0, 1, (.c (.str [105, 116, 101, 114]))), (1, 4, (.t 53)), (5, 4, (.t 54)), (9, 4, (.t 55))]), .s 13 2 56]]) .ret) (.seq (.ops [[.b 58 .eql 9 26, .m 57 58]]) (.cond (.t 57) (.seq (.ops [[.j 59 (.call 111 [(.c (.str [110, 101, 120, 116])), (.z 4092), (.z 0), (.z 16383)]), .s 13 2 59]]) .ret) (.seq (.ops [[.b 61 .eql 9 27, .m 60 61]]) (.cond (.t 60) (.seq (.ops [[.j 62 (.call 119 [(.c (.str [99, 108, 111, 115, 101])), (.z 4095)]), .s 13 2 62]]) .ret) (.seq (.ops [[.b 64 .eql 9 28, .m 63 64]]) (.cond (.t 63) (.seq (.ops [[.j 65 (.call 119 [(.c (.str [109, 97, 114, 107])), (.z 4095)]), .s 13 2 65]]) .ret) (.seq (.ops [[.b 67 .eql 9 29, .m 66 67]]) (.cond (.t 66) (.seq (.ops [[.j 68 (.call 119 [(.c (.str [115, 116, 97, 116])), (.z 1)]), .s 13 2 68]]) .ret) .skip)))))))))))))))))))))))))))))))))) (.seq (.ops [[.j 69 (.call 120 [(.c (.str []))]), .s 13 2 69]]) .ret)))))
theorem Z7 : B8 Tryz.prog 113 = some (70, r8, [.c 2 13 true]) := by kernel_rfl
@[go_sem] def v8 : AC := .seq (.seq (.ops [[.m 9 7, .m 10 0, .r 11 0 10, .h 12 .lss 9 11]]) (.cond (.t 12) .skip (.exit 0))) (.seq (.block 1 (.seq (.seq (.ops [[.m 15 6, .j 16 (.un .not (.t 15)), .m 17 16, .k 18 17 true (.mov (.t 0)), .k 19 17 true (.mov (.t 7)), .k 20 17 true (.iaddr 1 (.t 18) (.t 19)), .k 21 17 true (.load 1 false (.t 20)), .k 22 17 true (.mov (.t 1)), .k 23 17 true (.bin .geq (.t 21) (.t 22)), .j 24 (.pick (.t 17) (.t 23) (.c (.bool false)))]]) (.cond (.t 24) (.seq (.ops [[.m 25 5, .m 26 1, .j 27 (.mkisl 1 [(.t 26)]), .j 28 (.app 1140028 1 (.t 25) (.t 27)), .m 5 28]]) (.ops [[.t 6 true]])) .skip)) (.seq (.ops [[.m 29 0, .m 30 7, .i 31 1 29 30, .l 32 31, .m 33 1, .h 34 .neq 32 33]]) (.cond (.t 34) (.ops [[.m 35 5, .m 36 0, .m 37 7, .i 38 1 36 37, .l 39 38, .j 40 (.mkisl 1 [(.t 39)]), .j 41 (.app 1140041 1 (.t 35) (.t 40)), .m 5 41]]) .skip)))) (.ops [[.m 13 7, .b 14 .add 13 1, .m 7 14]]))
def A0F : AC := v8
theorem A3z : A0F = v8 := rfl
@[go_sem] def A1g : AC := .seq (.ops [[.j 4 (.mov (.c .nils))]]) (.seq (.ops [[.j 8 (.mkrow 1140008 1 []), .m 5 8]]) (.seq (.ops [[.t 6 false]]) (.seq (.seq (.ops [[.n 7 0]]) (.block 0 (.loop A0F))) (.seq (.seq (.ops [[.m 42 6, .j 43 (.un .not (.t 42))]]) (.cond (.t 43) (.ops [[.m 44 5, .m 45 1, .j 46 (.mkisl 1 [(.t 45)]), .j 47 (.app 1140047 1 (.t 44) (.t 46)), .m 5 47]]) .skip)) (.seq (.ops [[.m 48 5, .m 4 48]]) .ret)))))
theorem A0v : B8 Tryz.prog 114 = some (49, A1g, [.t 4]) := by kernel_rfl
@[go_sem] def A2y : AC := .seq (.ops [[.j 4 (.box 1190004 13 (.c (.agg [(.str []), (.bool false), (.bool false), (.bool false), (.bool false), (.int .i64 0), (.int .i64 0), (.int .i64 0), (.int .i64 0), (.int .i64 0), (.int .i64 0), (.int .i64 0), (.int .i64 0)])))]]) (.seq (.ops [[.m 5 0, .j 6 (.build [(.bool false), (.bool false), (.bool false), (.bool false)] [(0, 1, (.c (.bool true))), (1, 1, (.c (.bool false))), (2, 1, (.c (.bool false))), (3, 1, (.c (.bool false)))]), .m 7 1, .j 8 (.build [(.int .i64 0), (.int .i64 0), (.int .i64 0), (.int .i64 0)] [(0, 1, (.t 7)), (1, 1, (.z 0)), (2, 1, (.z 0)), (3, 1, (.z 0))]), .j 9 (.build [(.str []), (.bool false), (.bool false), (.bool false), (.bool false), (.int .i64 0), (.int .i64 0), (.int .i64 0), (.int .i64 0), (.int .i64 0), (.int .i64 0), (.int .i64 0), (.int .i64 0)] [(0, 1, (.t 5)), (1, 4, (.t 6)), (9, 4, (.t 8))]), .s 13 4 9]]) .ret)
theorem A7r : B8 Tryz.prog 119 = some (10, A2y, [.c 4 13 true]) := by kernel_rfl
@[go_sem] def A0G : AC := .seq (.ops [[.j 2 (.box 1200002 13 (.c (.agg [(.str []), (.bool false), (.bool false), (.bool false), (.bool false), (.int .i64 0), (.int .i64 0), (.int .i64 0), (.int .i64 0), (.int .i64 0), (.int .i64 0), (.int .i64 0), (.int .i64 0)])))]]) (.seq (.ops [[.m 3 0, .j 4 (.build [(.str []), (.bool false), (.bool false), (.bool false), (.bool false), (.int .i64 0), (.int .i64 0), (.int .i64 0), (.int .i64 0), (.int .i64 0), (.int .i64 0), (.int .i64 0), (.int .i64 0)] [(0, 1, (.t 3))]), .s 13 2 4]]) .ret)
theorem A0j : B8 Tryz.prog 120 = some (5, A0G, [.c 2 13 true]) := by kernel_rfl
def exT : List (FuncId × Nat × AC × List RV) := [
  (3, 37, U4, [.t 4]),
  (4, 78, A0e, [.t 0]),
  (5, 22, f7, [.t 2]),
  (6, 71, B1Q, [.c 2 11 true, .t 3]),
  (7, 63, A1t, [.c 2 11 true, .t 3]),
  (8, 33, A0y, [.t 4]),
  (9, 41, B1W, [.t 2, .t 3]),
  (10, 5, o6, [.c 0 11 true]),
  (11, 19, B2b, [.t 2]),
  (12, 20, A1r, [.t 2]),
  (13, 20, A7H, [.c 2 11 true, .c 3 1 false]),
  (14, 16, A7K, [.c 2 1 false]),
  (15, 20, A0K, [.t 4]),
  (16, 121, D7, [.c 4 11 true]),
  (17, 25, n7, [.t 2]),
  (18, 44, A0N, [.t 2]),
  (19, 185, A1e, [.t 4]),
  (20, 181, A0m, []),
  (21, 19, A5m, []),
  (22, 119, A0k, [.c 4 11 true]),
  (23, 7, A2h, []),
  (24, 20, A7D, [.t 2]),
  (25, 4, A9b, [.t 2]),
  (26, 74, A6d, [.t 2]),
  (27, 13, Q1, []),
  (28, 8, R9, [.t 2]),
  (29, 25, L5, [.t 2]),
  (30, 23, O5, [.t 4]),
  (31, 79, O6, []),
  (32, 30, O7, [.t 2]),
  (33, 33, r7, [.t 2]),
  (34, 83, f6, [.t 2]),
  (35, 17, A3f, []),
  (36, 23, A3l, []),
  (37, 23, A1P, []),
  (38, 43, A1J, []),
  (39, 8, A3p, [.t 2]),
  (40, 24, A3o, [.t 2]),
  (41, 14, A1G, [.t 2]),
  (42, 22, A1w, [.t 2]),
  (43, 37, A1I, [.c 2 5 true]),
  (44, 7, A6c, []),
  (45, 23, A9j, [.t 4]),
  (46, 42, A6i, [.c 2 11 true]),
  (47, 53, A6b, [.t 2]),
  (48, 118, A9a, [.t 2]),
  (49, 60, A1L, [.t 4]),
  (50, 55, Q5, [.t 4]),
  (51, 20, P1, [.c 2 5 true]),
  (52, 30, P2, [.c 2 5 true]),
  (53, 74, c9, [.t 2]),
  (54, 151, A0P, [.t 2]),
  (55, 62, y4, [.t 4]),
  (56, 31, A2M, [.t 4]),
  (57, 8, I2, [.t 2]),
  (58, 8, u7, [.t 2]),
  (59, 8, I6, [.t 2]),
  (60, 8, Q4, [.t 2]),
  (61, 8, M6, [.t 2]),
  (62, 6, A4C, [.t 2]),
  (63, 9, H5, [.t 4]),
  (64, 8, A4g, [.t 3]),
  (65, 9, G2, [.t 4]),
  (66, 8, A4v, [.t 3]),
  (67, 9, O8, [.t 4]),
  (68, 5, A6j, [.t 2]),
  (69, 6, A6t, [.t 2]),
  (70, 74, A7N, [.t 2]),
  (71, 85, A6v, [.t 2]),
  (72, 88, A6P, [.t 2, .t 3]),
  (73, 92, A5L, [.t 2, .t 3]),
  (74, 17, A6I, [.t 6]),
  (75, 14, A5n, [.t 2, .t 3]),
  (76, 63, A6R, [.t 4]),
  (77, 88, s6, [.t 2]),
  (78, 73, A0c, [.t 2]),
  (79, 90, A0h, [.t 2, .t 3]),
  (80, 93, f8, [.t 2, .t 3]),
  (81, 23, o7, [.t 6]),
  (82, 14, Z1, [.t 2, .t 3]),
  (83, 61, d8, [.t 4]),
  (84, 19, K8, [.t 4]),
  (85, 19, I4, [.t 4]),
  (86, 19, T9, [.t 4]),
  (87, 33, A4y, [.t 2]),
  (88, 25, B0l, [.c 2 6 true, .t 3]),
  (89, 24, A5J, [.c 4 4 true, .c 5 4 true]),
  (90, 29, A3W, [.t 2, .t 3]),
  (91, 53, A7A, [.t 4]),
  (92, 7, A5R, [.t 2]),
  (93, 23, A7E, [.t 4, .t 5]),
  (94, 8, A4d, [.t 3]),
  (95, 22, A4a, [.t 2, .t 3]),
  (96, 30, r9, [.t 2]),
  (97, 65, A0w, [.c 2 13 true]),
  (98, 12, Z6, [.c 2 4 true]),
  (99, 46, n9, [.t 2]),
  (100, 19, A1n, [.t 2]),
  (101, 16, A0R, [.t 6, .t 7]),
  (102, 20, A0B, [.t 6]),
  (103, 19, A0u, [.t 4]),
  (104, 12, A6e, [.t 4]),
  (105, 106, A4E, [.t 2]),
  (106, 75, A6w, [.c 2 6 true]),
  (107, 11, A0I, []),
  (108, 61, X7, [.t 2]),
  (109, 12, A1l, [.t 4]),
  (110, 8, A1p, [.t 2]),
  (111, 17, A1K, [.c 8 13 true]),
  (112, 23, A1f, [.c 8 13 true]),
  (113, 70, r8, [.c 2 13 true]),
  (114, 49, A1g, [.t 4]),
  (119, 10, A2y, [.c 4 13 true]),
  (120, 5, A0G, [.c 2 13 true])]
theorem A3Q : C0 Tryz.prog exT := 
  (C0.cons S6 
  (C0.cons A4p 
  (C0.cons W2 
  (C0.cons A3r 
  (C0.cons R3 
  (C0.cons A0p 
  (C0.cons B6z 
  (C0.cons A4M 
  (C0.cons B0z 
  (C0.cons A0s 
  (C0.cons A6k 
  (C0.cons A6q 
  (C0.cons w8 
  (C0.cons J6 
  (C0.cons b9 
  (C0.cons x7 
  (C0.cons A0A 
  (C0.cons A4o 
  (C0.cons A4t 
  (C0.cons O2 
  (C0.cons A1N 
  (C0.cons A6m 
  (C0.cons A7F 
  (C0.cons A5P 
  (C0.cons P0 
  (C0.cons Q6 
  (C0.cons K7 
  (C0.cons N9 
  (C0.cons M3 
  (C0.cons M2 
  (C0.cons Z8 
  (C0.cons W0 
  (C0.cons A8w 
  (C0.cons A8g 
  (C0.cons A6H 
  (C0.cons A5W 
  (C0.cons A2x 
  (C0.cons A2m 
  (C0.cons A1v 
  (C0.cons A0E 
  (C0.cons A1s 
  (C0.cons A5y 
  (C0.cons A7L 
  (C0.cons A5r 
  (C0.cons A5o 
  (C0.cons A7y 
  (C0.cons A1o 
  (C0.cons O9 
  (C0.cons O1 
  (C0.cons M9 
  (C0.cons X4 
  (C0.cons q7 
  (C0.cons m7 
  (C0.cons A1F 
  (C0.cons H7 
  (C0.cons b8 
  (C0.cons H6 
  (C0.cons P3 
  (C0.cons L6 
  (C0.cons A3m 
  (C0.cons H2 
  (C0.cons A3g 
  (C0.cons F8 
  (C0.cons A3s 
  (C0.cons N7 
  (C0.cons A5t 
  (C0.cons A5O 
  (C0.cons A6G 
  (C0.cons A5u 
  (C0.cons A5p 
  (C0.cons A4O 
  (C0.cons A5q 
  (C0.cons A4P 
  (C0.cons A5M 
  (C0.cons D1 
  (C0.cons k9 
  (C0.cons Z0 
  (C0.cons X6 
  (C0.cons d6 
  (C0.cons X3 
  (C0.cons W9 
  (C0.cons K0 
  (C0.cons H9 
  (C0.cons R5 
  (C0.cons A3n 
  (C0.cons A9w 
  (C0.cons A4w 
  (C0.cons A8F 
  (C0.cons A6s 
  (C0.cons A4h 
  (C0.cons A5Z 
  (C0.cons A3j 
  (C0.cons A3h 
  (C0.cons a6 
  (C0.cons y0 
  (C0.cons V7 
  (C0.cons i9 
  (C0.cons A0C 
  (C0.cons P4 
  (C0.cons P5 
  (C0.cons A0i 
  (C0.cons A5B 
  (C0.cons A9s 
  (C0.cons B0O 
  (C0.cons A4Z 
  (C0.cons A2V 
  (C0.cons A0S 
  (C0.cons A0z 
  (C0.cons A6M 
  (C0.cons A5U 
  (C0.cons Z7 
  (C0.cons A0v 
  (C0.cons A7r 
  (C0.cons A0j C0.nil))))))))))))))))))))))))))))))))))))))))))))))))))))))))))))))))))))))))))))))))))))))))))))))))))))))))))))))))))
end Go.Proofs.YtpmkgcjhbpiojaaGreatDoor
