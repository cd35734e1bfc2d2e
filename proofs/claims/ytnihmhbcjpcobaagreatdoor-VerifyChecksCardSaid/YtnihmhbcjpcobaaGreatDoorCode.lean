/-
 The code of the functions that this seat reaches, translated into abstract code (printed by a program, each proved to be the translation). No condition.
-/
import Derived.Test.YtnihmhbcjpcobaaGreatDoorCodeB
import Derived.Test.YtnihmhbcjpcobaaGreatDoorChecked
set_option maxRecDepth 1000000
namespace Go.Proofs.YtnihmhbcjpcobaaGreatDoor
open Go.Abs
@[go_sem] def Z5:AC:= .seq (.seq (.ops [[.m 7 4,.a 8 0 2,.l 9 8,.r 10 0 9,.h 11 .lss 7 10]]) (.cond (.t 11) .skip (.exit 0))) (.seq (.block 1 (.ops [[.a 14 0 2,.l 15 14,.m 16 4,.i 17 1 15 16,.e (.store 1 (.t 17) (.c (.bool false)))]])) (.ops [[.m 12 4,.b 13 .add 12 1,.m 4 13]]))
def y0:AC:=Z5
theorem A3o:y0=Z5:=rfl
@[go_sem] def A1b:AC:= .seq (.ops [[.j 2 (.box 1030002 3 (.t 0))]]) (.seq (.ops [[.m 5 1,.j 6 (.mm true [(.t 5),(.z 0)]),.m 4 6]]) (.block 0 (.loop y0)))
theorem y5:B3 Tryz.prog 103=some (18,A1b,[]):=by kernel_rfl
@[go_sem] def A5b:AC:= .seq (.seq (.ops [[.m 5 1,.b 6 .neq 5 0]]) (.cond (.t 6) .skip (.exit 0))) (.block 1 (.ops [[.m 7 1,.m 8 0,.m 9 1,.h 10 .rem 8 9,.m 0 7,.m 1 10]]))
def A6D:AC:=A5b
theorem A9r:A6D=A5b:=rfl
@[go_sem] def A7O:AC:= .seq (.ops [[.n 4 0]]) (.seq (.block 0 (.loop A6D)) (.seq (.ops [[.m 11 0,.m 4 11]]) .ret))
theorem A6E:B3 Tryz.prog 104=some (12,A7O,[.t 4]):=by kernel_rfl
@[go_sem] def A9z:AC:= .seq (.seq (.ops [[.m 13 6,.m 14 0,.r 15 1 14,.h 16 .lss 13 15]]) (.cond (.t 16) .skip (.exit 0))) (.seq (.block 1 (.seq (.ops [[.m 19 0,.m 20 6,.j 21 (.idx (.t 19) (.t 20)),.m 7 21]]) (.seq (.ops [[.m 22 5,.m 23 7,.h 24 .or 22 23,.m 5 24]]) (.seq (.ops [[.m 25 7,.j 26 (.iaddrA 256 1 (.g 0) (.t 25)),.l 27 26,.j 28 (.conv .i64 (.t 27)),.m 8 28]]) (.seq (.ops [[.m 29 3,.m 30 4,.m 31 8,.j 32 (.un .xor (.t 31)),.h 33 .and 30 32,.h 34 .add 29 33,.m 3 34]]) (.ops [[.m 35 8,.m 4 35]])))))) (.ops [[.m 17 6,.b 18 .add 17 1,.m 6 18]]))
def B0G:AC:=A9z
@[go_sem] def A9A:AC:= .seq (.seq (.ops [[.m 42 12,.m 43 0,.r 44 1 43,.h 45 .lss 42 44,.m 46 45,.k 47 46 true (.mov (.t 0)),.k 48 46 true (.mov (.t 12)),.k 49 46 true (.idx (.t 47) (.t 48)),.k 50 46 true (.iaddrA 256 1 (.g 0) (.t 49)),.k 51 46 true (.load 1 false (.t 50)),.k 52 46 true (.bin .neq (.t 51) (.c (.int .u8 0))),.j 53 (.pick (.t 46) (.t 52) (.c (.bool false)))]]) (.cond (.t 53) .skip (.exit 2))) (.block 3 (.ops [[.m 54 12,.b 55 .add 54 1,.m 12 55]]))
def B0H:AC:=A9A
@[go_sem] def A9C:AC:= .seq (.seq (.ops [[.m 80 12,.m 81 0,.r 82 1 81,.h 83 .lss 80 82,.m 84 83,.k 85 84 true (.mov (.t 0)),.k 86 84 true (.mov (.t 12)),.k 87 84 true (.idx (.t 85) (.t 86)),.k 88 84 true (.iaddrA 256 1 (.g 0) (.t 87)),.k 89 84 true (.load 1 false (.t 88)),.k 90 84 true (.bin .neq (.t 89) (.c (.int .u8 0))),.j 91 (.pick (.t 84) (.t 90) (.c (.bool false)))]]) (.cond (.t 91) .skip (.exit 6))) (.block 7 (.ops [[.m 92 12,.b 93 .add 92 1,.m 12 93]]))
def B0J:AC:=A9C
@[go_sem] def A9B:AC:= .seq (.seq (.ops [[.m 57 12,.m 58 0,.r 59 1 58,.h 60 .lss 57 59]]) (.cond (.t 60) .skip (.exit 4))) (.block 5 (.seq (.seq (.ops [[.m 61 0,.m 62 12,.j 63 (.idx (.t 61) (.t 62)),.j 64 (.iaddrA 256 1 (.g 0) (.t 63)),.l 65 64,.j 66 (.bin .eql (.t 65) (.c (.int .u8 0)))]]) (.cond (.t 66) (.seq (.ops [[.m 67 12,.b 68 .add 67 1,.m 12 68]]) (.exit 5)) .skip)) (.seq (.ops [[.m 69 9,.m 70 10,.m 71 0,.m 72 11,.m 73 12,.j 74 (.sls (.t 71) (some (.t 72)) (some (.t 73))),.i 75 1 69 70,.s 1 75 74]]) (.seq (.ops [[.m 76 10,.b 77 .add 76 1,.m 10 77]]) (.seq (.ops [[.m 78 12,.b 79 .add 78 1,.m 12 79]]) (.seq (.block 6 (.loop B0J)) (.ops [[.m 94 12,.m 11 94]])))))))
def B0I:AC:=A9B
@[go_sem] def A5j:AC:= .seq (.ops [[.j 2 (.mov (.c .nils))]]) (.seq (.ops [[.n 3 0]]) (.seq (.ops [[.n 4 1]]) (.seq (.ops [[.j 5 (.mov (.c (.int .u8 0)))]]) (.seq (.seq (.ops [[.n 6 0]]) (.block 0 (.loop B0G))) (.seq (.seq (.ops [[.m 36 5,.j 37 (.bin .geq (.t 36) (.c (.int .u8 128)))]]) (.cond (.t 37) (.seq (.ops [[.m 38 0,.j 39 (.call 119 [(.t 38),(.f 120)]),.m 2 39]]) .ret) .skip)) (.seq (.ops [[.m 40 3,.j 41 (.mksl 1050041 [(.str [])] (.t 40)),.m 9 41]]) (.seq (.ops [[.n 10 0]]) (.seq (.ops [[.n 11 0]]) (.seq (.ops [[.n 12 0]]) (.seq (.block 2 (.loop B0H)) (.seq (.ops [[.m 56 12,.m 11 56]]) (.seq (.block 4 (.loop B0I)) (.seq (.seq (.ops [[.m 95 11,.m 96 0,.r 97 1 96,.h 98 .lss 95 97]]) (.cond (.t 98) (.ops [[.m 99 9,.m 100 10,.m 101 0,.m 102 11,.j 103 (.sls (.t 101) (some (.t 102)) none),.i 104 1 99 100,.s 1 104 103]]) .skip)) (.seq (.ops [[.m 105 9,.m 2 105]]) .ret))))))))))))))
theorem B0K:B3 Tryz.prog 105=some (106,A5j,[.t 2]):=by kernel_rfl
@[go_sem] def A7w:AC:= .seq (.ops [[.j 2 (.box 1060002 6 (.c (.agg [(.str []),(.int .i64 0),(.int .i64 0),(.int .i64 0),(.int .i64 0),(.int .i64 0)])))]]) (.seq (.seq (.ops [[.m 3 0]]) (.block 0 (.seq (.ops [[.b 5 .eql 3 1,.m 4 5]]) (.cond (.t 4) (.seq (.ops [[.j 6 (.build [(.str []),(.int .i64 0),(.int .i64 0),(.int .i64 0),(.int .i64 0),(.int .i64 0)] [(1,1,(.z 1)),(2,1,(.z 1))]),.s 6 2 6]]) .ret) (.seq (.seq (.ops [[.b 8 .eql 3 2,.m 7 8]]) (.cond (.t 7) .skip (.ops [[.b 9 .eql 3 7,.m 7 9]]))) (.cond (.t 7) (.seq (.ops [[.j 10 (.build [(.str []),(.int .i64 0),(.int .i64 0),(.int .i64 0),(.int .i64 0),(.int .i64 0)] [(1,1,(.z 1)),(2,1,(.z 2))]),.s 6 2 10]]) .ret) (.seq (.ops [[.b 12 .eql 3 3,.m 11 12]]) (.cond (.t 11) (.seq (.ops [[.j 13 (.build [(.str []),(.int .i64 0),(.int .i64 0),(.int .i64 0),(.int .i64 0),(.int .i64 0)] [(1,1,(.z 1)),(2,1,(.z 1))]),.s 6 2 13]]) .ret) (.seq (.ops [[.b 15 .eql 3 4,.m 14 15]]) (.cond (.t 14) (.seq (.ops [[.j 16 (.build [(.str []),(.int .i64 0),(.int .i64 0),(.int .i64 0),(.int .i64 0),(.int .i64 0)] [(1,1,(.z 1)),(2,1,(.z 8))]),.s 6 2 16]]) .ret) (.seq (.ops [[.b 18 .eql 3 5,.m 17 18]]) (.cond (.t 17) (.seq (.ops [[.j 19 (.build [(.str []),(.int .i64 0),(.int .i64 0),(.int .i64 0),(.int .i64 0),(.int .i64 0)] [(1,1,(.z 1)),(2,1,(.z 3))]),.s 6 2 19]]) .ret) (.seq (.ops [[.b 21 .eql 3 6,.m 20 21]]) (.cond (.t 20) (.seq (.ops [[.j 22 (.build [(.str []),(.int .i64 0),(.int .i64 0),(.int .i64 0),(.int .i64 0),(.int .i64 0)] [(1,1,(.z 3)),(2,1,(.z 1))]),.s 6 2 22]]) .ret) (.seq (.ops [[.b 24 .eql 3 8,.m 23 24]]) (.cond (.t 23) (.seq (.ops [[.j 25 (.build [(.str []),(.int .i64 0),(.int .i64 0),(.int .i64 0),(.int .i64 0),(.int .i64 0)] [(1,1,(.z 2)),(2,1,(.z 1))]),.s 6 2 25]]) .ret) (.seq (.seq (.ops [[.b 27 .eql 3 9,.m 26 27]]) (.cond (.t 26) .skip (.ops [[.b 28 .eql 3 10,.m 26 28]]))) (.cond (.t 26) (.seq (.ops [[.j 29 (.build [(.str []),(.int .i64 0),(.int .i64 0),(.int .i64 0),(.int .i64 0),(.int .i64 0)] [(1,1,(.z 1)),(2,1,(.z 1)),(3,1,(.z 1))]),.s 6 2 29]]) .ret) (.seq (.ops [[.b 31 .eql 3 11,.m 30 31]]) (.cond (.t 30) (.seq (.ops [[.j 32 (.build [(.str []),(.int .i64 0),(.int .i64 0),(.int .i64 0),(.int .i64 0),(.int .i64 0)] [(1,1,(.z 1)),(2,1,(.z 1)),(3,1,(.z 2)),(5,1,(.z 1))]),.s 6 2 32]]) .ret) (.seq (.ops [[.b 34 .eql 3 12,.m 33 34]]) (.cond (.t 33) (.seq (.ops [[.j 35 (.build [(.str []),(.int .i64 0),(.int .i64 0),(.int .i64 0),(.int .i64 0),(.int .i64 0)] [(1,1,(.z 1)),(2,1,(.z 1)),(3,1,(.z 9))]),.s 6 2 35]]) .ret) (.seq (.ops [[.b 37 .eql 3 13,.m 36 37]]) (.cond (.t 36) (.seq (.ops [[.j 38 (.build [(.str []),(.int .i64 0),(.int .i64 0),(.int .i64 0),(.int .i64 0),(.int .i64 0)] [(1,1,(.z 1)),(2,1,(.z 1)),(3,1,(.z 1)),(4,1,(.z 10))]),.s 6 2 38]]) .ret) (.seq (.ops [[.b 40 .eql 3 14,.m 39 40]]) (.cond (.t 39) (.seq (.ops [[.j 41 (.build [(.str []),(.int .i64 0),(.int .i64 0),(.int .i64 0),(.int .i64 0),(.int .i64 0)] [(2,1,(.z 5))]),.s 6 2 41]]) .ret) (.seq (.ops [[.b 43 .eql 3 15,.m 42 43]]) (.cond (.t 42) (.seq (.ops [[.j 44 (.build [(.str []),(.int .i64 0),(.int .i64 0),(.int .i64 0),(.int .i64 0),(.int .i64 0)] [(1,1,(.z 1)),(2,1,(.z 5)),(3,1,(.z 8))]),.s 6 2 44]]) .ret) (.seq (.ops [[.b 46 .eql 3 16,.m 45 46]]) (.cond (.t 45) (.seq (.ops [[.j 47 (.build [(.str []),(.int .i64 0),(.int .i64 0),(.int .i64 0),(.int .i64 0),(.int .i64 0)] [(1,1,(.z 1)),(2,1,(.z 7)),(3,1,(.z 6))]),.s 6 2 47]]) .ret) (.seq (.seq (.ops [[.b 49 .eql 3 17,.m 48 49]]) (.cond (.t 48) .skip (.ops [[.b 50 .eql 3 18,.m 48 50]]))) (.cond (.t 48) (.seq (.ops [[.j 51 (.build [(.str []),(.int .i64 0),(.int .i64 0),(.int .i64 0),(.int .i64 0),(.int .i64 0)] [(1,1,(.z 1)),(2,1,(.z 7))]),.s 6 2 51]]) .ret) (.seq (.ops [[.b 53 .eql 3 19,.m 52 53]]) (.cond (.t 52) (.seq (.ops [[.j 54 (.build [(.str []),(.int .i64 0),(.int .i64 0),(.int .i64 0),(.int .i64 0),(.int .i64 0)] [(1,1,(.z 1)),(2,1,(.z 6))]),.s 6 2 54]]) .ret) (.seq (.ops [[.b 56 .eql 3 21,.m 55 56]]) (.cond (.t 55) (.seq (.ops [[.j 57 (.build [(.str []),(.int .i64 0),(.int .i64 0),(.int .i64 0),(.int .i64 0),(.int .i64 0)] [(1,1,(.z 1)),(2,1,(.z 7)),(3,1,(.z 12))]),.s 6 2 57]]) .ret) (.seq (.ops [[.b 59 .eql 3 22,.m 58 59]]) (.cond (.t 58) (.seq (.ops [[.j 60 (.build [(.str []),(.int .i64 0),(.int .i64 0),(.int .i64 0),(.int .i64 0),(.int .i64 0)] [(1,1,(.z 1)),(2,1,(.z 4))]),.s 6 2 60]]) .ret) (.seq (.seq (.ops [[.b 62 .eql 3 23,.m 61 62]]) (.cond (.t 61) .skip (.seq (.ops [[.b 63 .eql 3 24,.m 61 63]]) (.cond (.t 61) .skip (.ops [[.b 64 .eql 3 26,.m 61 64]]))))) (.cond (.t 61) (.seq (.ops [[.j 65 (.build [(.str []),(.int .i64 0),(.int .i64 0),(.int .i64 0),(.int .i64 0),(.int .i64 0)] [(1,1,(.z 1)),(2,1,(.z 5)),(5,1,(.z 3))]),.s 6 2 65]]) .ret) (.seq (.ops [[.b 67 .eql 3 25,.m 66 67]]) (.cond (.t 66) (.seq (.ops [[.j 68 (.build [(.str []),(.int .i64 0),(.int .i64 0),(.int .i64 0),(.int .i64 0),(.int .i64 0)] [(1,1,(.z 1)),(3,1,(.z 11)),(5,1,(.z 3))]),.s 6 2 68]]) .ret) (.seq (.seq (.ops [[.b 70 .eql 3 20,.m 69 70]]) (.cond (.t 69) .skip (.seq (.ops [[.b 71 .eql 3 27,.m 69 71]]) (.cond (.t 69) .skip (.ops [[.b 72 .eql 3 28,.m 69 72]]))))) (.cond (.t 69) (.seq (.ops [[.j 73 (.build [(.str []),(.int .i64 0),(.int .i64 0),(.int .i64 0),(.int .i64 0),(.int .i64 0)] [(1,1,(.z 1))]),.s 6 2 73]]) .ret) .skip)))))))))))))))))))))))))))))))))))))))))))) (.seq (.ops [[.j 74 (.build [(.str []),(.int .i64 0),(.int .i64 0),(.int .i64 0),(.int .i64 0),(.int .i64 0)] [(1,1,(.z 8))]),.s 6 2 74]]) .ret))
theorem B2f:B3 Tryz.prog 106=some (75,A7w,[.c 2 6 true]):=by kernel_rfl
@[go_sem] def f6:AC:= .seq (.ops [[.j 2 (.mov (.c .nils))]]) (.seq (.seq (.ops [[.m 3 0,.j 4 (.eqn false false (.t 3))]]) (.cond (.t 4) (.seq (.ops [[.j 2 (.mov (.c .nils))]]) .ret) .skip)) (.seq (.ops [[.j 5 (.mkrow 1070005 1 []),.m 6 0,.j 7 (.apb 140737488355328 1070007 1 (.t 5) (.t 6)),.m 2 7]]) .ret))
theorem W3:B3 Tryz.prog 107=some (8,f6,[.t 2]):=by kernel_rfl
@[go_sem] def A5A:AC:= .seq (.seq (.ops [[.m 6 4,.m 7 0,.r 8 0 7,.h 9 .lss 6 8]]) (.cond (.t 9) .skip (.exit 0))) (.seq (.block 1 (.ops [[.m 12 0,.m 13 4,.i 14 1 12 13,.e (.store 1 (.t 14) (.c (.bool false)))]])) (.ops [[.m 10 4,.b 11 .add 10 1,.m 4 11]]))
def A6V:AC:=A5A
theorem A9J:A6V=A5A:=rfl
@[go_sem] def A8d:AC:= .seq (.ops [[.m 5 1,.m 4 5]]) (.block 0 (.loop A6V))
theorem A6W:B3 Tryz.prog 108=some (15,A8d,[]):=by kernel_rfl
@[go_sem] def O2:AC:= .seq (.seq (.ops [[.m 16 6,.m 17 0,.r 18 0 17,.h 19 .lss 16 18]]) (.cond (.t 19) .skip (.exit 0))) (.seq (.block 1 (.seq (.ops [[.m 22 0,.m 23 6,.i 24 1 22 23,.l 25 24,.m 7 25]]) (.seq (.ops [[.m 26 1,.m 27 7,.j 28 (.callv (.t 26) [(.t 27)]),.j 29 (.un .not (.t 28))]]) (.cond (.t 29) (.seq (.ops [[.m 30 0,.m 31 5,.m 32 7,.i 33 1 30 31,.s 1 33 32]]) (.ops [[.m 34 5,.b 35 .add 34 1,.m 5 35]])) .skip)))) (.ops [[.m 20 6,.b 21 .add 20 1,.m 6 21]]))
def Q3:AC:=O2
theorem A1i:Q3=O2:=rfl
@[go_sem] def R6:AC:= .seq (.ops [[.j 4 (.mov (.c .nils))]]) (.seq (.ops [[.m 8 0,.m 9 1,.j 10 (.call 80 [(.t 8),(.t 9)]),.m 5 10]]) (.seq (.seq (.ops [[.m 11 5,.b 12 .eql 11 (-1)]]) (.cond (.t 12) (.seq (.ops [[.m 13 0,.m 4 13]]) .ret) .skip)) (.seq (.seq (.ops [[.m 14 5,.b 15 .add 14 1,.m 6 15]]) (.block 0 (.loop Q3))) (.seq (.ops [[.m 36 0,.m 37 5,.j 38 (.slc 1 (.t 36) (some (.t 37)) none),.e (.clr [(.int .i64 0)] (.t 38))]]) (.seq (.ops [[.m 39 0,.m 40 5,.j 41 (.slc 1 (.t 39) none (some (.t 40))),.m 4 41]]) .ret)))))
theorem Q4:B3 Tryz.prog 109=some (42,R6,[.t 4]):=by kernel_rfl
@[go_sem] def A4d:AC:= .seq (.ops [[.t 3 false]]) (.seq (.ops [[.m 4 0,.a 5 1 1,.l 6 5,.h 7 .geq 4 6,.m 3 7]]) .ret)
theorem A3z:B3 Tryz.prog 110=some (8,A4d,[.t 3]):=by kernel_rfl
@[go_sem] def A0z:AC:= .seq (.seq (.ops [[.m 5 1,.b 6 .neq 5 0]]) (.cond (.t 6) .skip (.exit 0))) (.block 1 (.ops [[.m 7 1,.m 8 0,.m 9 1,.h 10 .rem 8 9,.m 0 7,.m 1 10]]))
def A1n:AC:=A0z
theorem A4n:A1n=A0z:=rfl
@[go_sem] def A1S:AC:= .seq (.ops [[.n 4 0]]) (.seq (.block 0 (.loop A1n)) (.seq (.ops [[.m 11 0,.m 4 11]]) .ret))
theorem A1o:B3 Tryz.prog 113=some (12,A1S,[.t 4]):=by kernel_rfl
@[go_sem] def A1R:AC:= .seq (.ops [[.n 2 0]]) (.seq (.seq (.ops [[.m 3 0,.b 4 .lss 3 0]]) (.cond (.t 4) (.seq (.ops [[.m 5 0,.j 6 (.un .neg (.t 5)),.m 2 6]]) .ret) .skip)) (.seq (.ops [[.m 7 0,.m 2 7]]) .ret))
theorem A1m:B3 Tryz.prog 114=some (8,A1R,[.t 2]):=by kernel_rfl
@[go_sem] def A2u:AC:= .seq (.ops [[.j 8 (.box 1150008 13 (.c (.agg [(.str []),(.bool false),(.bool false),(.bool false),(.bool false),(.int .i64 0),(.int .i64 0),(.int .i64 0),(.int .i64 0),(.int .i64 0),(.int .i64 0),(.int .i64 0),(.int .i64 0)])))]]) (.seq (.ops [[.m 9 0,.j 10 (.build [(.bool false),(.bool false),(.bool false),(.bool false)] [(0,1,(.c (.bool true))),(1,1,(.c (.bool true))),(2,1,(.c (.bool false))),(3,1,(.c (.bool false)))]),.m 11 2,.j 12 (.build [(.int .i64 0),(.int .i64 0),(.int .i64 0),(.int .i64 0)] [(0,1,(.z 0)),(1,1,(.t 11)),(2,1,(.z 0)),(3,1,(.z 0))]),.m 13 1,.m 14 3,.j 15 (.build [(.int .i64 0),(.int .i64 0),(.int .i64 0),(.int .i64 0)] [(0,1,(.t 13)),(1,1,(.t 14)),(2,1,(.z 0)),(3,1,(.z 0))]),.j 16 (.build [(.str []),(.bool false),(.bool false),(.bool false),(.bool false),(.int .i64 0),(.int .i64 0),(.int .i64 0),(.int .i64 0),(.int .i64 0),(.int .i64 0),(.int .i64 0),(.int .i64 0)] [(0,1,(.t 9)),(1,4,(.t 10)),(5,4,(.t 12)),(9,4,(.t 15))]),.s 13 8 16]]) .ret)
theorem A7S:B3 Tryz.prog 115=some (17,A2u,[.c 8 13 true]):=by kernel_rfl
@[go_sem] def A1T:AC:= .seq (.ops [[.j 6 (.box 1160006 2 (.t 2)),.j 7 (.box 1160007 2 (.t 3)),.j 8 (.box 1160008 13 (.c (.agg [(.str []),(.bool false),(.bool false),(.bool false),(.bool false),(.int .i64 0),(.int .i64 0),(.int .i64 0),(.int .i64 0),(.int .i64 0),(.int .i64 0),(.int .i64 0),(.int .i64 0)])))]]) (.seq (.ops [[.m 9 0,.j 10 (.build [(.bool false),(.bool false),(.bool false),(.bool false)] [(0,1,(.c (.bool true))),(1,1,(.c (.bool true))),(2,1,(.c (.bool true))),(3,1,(.c (.bool false)))]),.j 11 (.iaddrA 2 1 (.t 6) (.z 0)),.l 12 11,.j 13 (.iaddrA 2 1 (.t 7) (.z 0)),.l 14 13,.j 15 (.build [(.int .i64 0),(.int .i64 0),(.int .i64 0),(.int .i64 0)] [(0,1,(.z 0)),(1,1,(.t 12)),(2,1,(.t 14)),(3,1,(.z 0))]),.m 16 1,.j 17 (.iaddrA 2 1 (.t 6) (.z 1)),.l 18 17,.j 19 (.iaddrA 2 1 (.t 7) (.z 1)),.l 20 19,.j 21 (.build [(.int .i64 0),(.int .i64 0),(.int .i64 0),(.int .i64 0)] [(0,1,(.t 16)),(1,1,(.t 18)),(2,1,(.t 20)),(3,1,(.z 0))]),.j 22 (.build [(.str []),(.bool false),(.bool false),(.bool false),(.bool false),(.int .i64 0),(.int .i64 0),(.int .i64 0),(.int .i64 0),(.int .i64 0),(.int .i64 0),(.int .i64 0),(.int .i64 0)] [(0,1,(.t 9)),(1,4,(.t 10)),(5,4,(.t 15)),(9,4,(.t 21))]),.s 13 8 22]]) .ret)
theorem A7a:B3 Tryz.prog 116=some (23,A1T,[.c 8 13 true]):=by kernel_rfl
@[go_sem] def A0F:AC:= .seq (.ops [[.j 2 (.box 1170002 13 (.c (.agg [(.str []),(.bool false),(.bool false),(.bool false),(.bool false),(.int .i64 0),(.int .i64 0),(.int .i64 0),(.int .i64 0),(.int .i64 0),(.int .i64 0),(.int .i64 0),(.int .i64 0)])))]]) (.seq (.ops [[.j 6 (.build [(.int .i64 0),(.int .i64 0)] [(0,1,(.z (-1))),(1,1,(.z 200))]),.j 3 (.box 1170003 2 (.c (.agg [(.int .i64 0),(.int .i64 0)]))),.s 2 3 6]]) (.seq (.ops [[.j 7 (.build [(.int .i64 0),(.int .i64 0)] [(0,1,(.z (-1))),(1,1,(.z 4096))]),.j 4 (.box 1170004 2 (.c (.agg [(.int .i64 0),(.int .i64 0)]))),.s 2 4 7]]) (.seq (.ops [[.j 8 (.build [(.int .i64 0),(.int .i64 0)] [(0,1,(.z 0)),(1,1,(.z 16383))]),.j 5 (.box 1170005 2 (.c (.agg [(.int .i64 0),(.int .i64 0)]))),.s 2 5 8]]) (.seq (.seq (.ops [[.m 9 0]]) (.block 0 (.seq (.ops [[.b 11 .eql 9 14,.m 10 11]]) (.cond (.t 10) (.seq (.ops [[.j 12 (.build [(.bool false),(.bool false),(.bool false),(.bool false)] [(0,1,(.c (.bool false))),(1,1,(.c (.bool true))),(2,1,(.c (.bool false))),(3,1,(.c (.bool false)))]),.j 13 (.build [(.int .i64 0),(.int .i64 0),(.int .i64 0),(.int .i64 0)] [(0,1,(.z 0)),(1,1,(.z 16383)),(2,1,(.z 0)),(3,1,(.z 0))]),.j 14 (.build [(.str []),(.bool false),(.bool false),(.bool false),(.bool false),(.int .i64 0),(.int .i64 0),(.int .i64 0),(.int .i64 0),(.int .i64 0),(.int .i64 0),(.int .i64 0),(.int .i64 0)] [(0,1,(.c (.str [106,117,109,112]))),(1,4,(.t 12)),(9,4,(.t 13))]),.s 13 2 14]]) .ret) (.seq (.ops [[.b 16 .eql 9 15,.m 15 16]]) (.cond (.t 15) (.seq (.ops [[.w 17 2 5,.j 18 (.build [(.int .i64 0),(.int .i64 0)] [(0,1,(.z 0)),(1,1,(.z 1))]),.j 19 (.call 116 [(.c (.str [116,101,115,116])),(.z 4095),(.t 17),(.t 18)]),.s 13 2 19]]) .ret) (.seq (.ops [[.b 21 .eql 9 16,.m 20 21]]) (.cond (.t 20) (.seq (.ops [[.w 22 2 4,.w 23 2 3,.j 24 (.call 116 [(.c (.str [99,97,108,108])),(.z 4095),(.t 22),(.t 23)]),.s 13 2 24]]) .ret) (.seq (.ops [[.b 26 .eql 9 17,.m 25 26]]) (.cond (.t 25) (.seq (.ops [[.j 27 (.call 115 [(.c (.str [116,97,105,108])),(.z 4095),(.z (-1)),(.z 4096)]),.s 13 2 27]]) .ret) (.seq (.ops [[.b 29 .eql 9 18,.m 28 29]]) (.cond (.t 28) (.seq (.ops [[.j 30 (.call 115 [(.c (.str [114,101,116,117,114,110])),(.z 4095),(.z (-1)),(.z 4096)]),.s 13 2 30]]) .ret) (.seq (.ops [[.b 32 .eql 9 19,.m 31 32]]) (.cond (.t 31) (.seq (.ops [[.j 33 (.call 115 [(.c (.str [118,97,114,97,114,103])),(.z 4095),(.z (-1)),(.z 200)]),.s 13 2 33]]) .ret) (.seq (.ops [[.b 35 .eql 9 20,.m 34 35]]) (.cond (.t 34) (.seq (.ops [[.j 36 (.call 132 [(.c (.str [116,97,98,108,101])),(.z 4095)]),.s 13 2 36]]) .ret) (.seq (.ops [[.b 38 .eql 9 21,.m 37 38]]) (.cond (.t 37) (.seq (.ops [[.w 39 2 4,.j 40 (.build [(.int .i64 0),(.int .i64 0)] [(0,1,(.z 1)),(1,1,(.z 32767))]),.j 41 (.call 116 [(.c (.str [97,112,112,101,110,100])),(.z 4095),(.t 39),(.t 40)]),.s 13 2 41]]) .ret) (.seq (.ops [[.b 43 .eql 9 22,.m 42 43]]) (.cond (.t 42) (.seq (.ops [[.j 44 (.call 115 [(.c (.str [99,108,111,115,117,114,101])),(.z 4095),(.z 0),(.z 1023)]),.s 13 2 44]]) .ret) (.seq (.ops [[.b 46 .eql 9 23,.m 45 46]]) (.cond (.t 45) (.seq (.ops [[.j 47 (.call 115 [(.c (.str [112,114,101,112])),(.z 4092),(.z 0),(.z 16383)]),.s 13 2 47]]) .ret) (.seq (.ops [[.b 49 .eql 9 24,.m 48 49]]) (.cond (.t 48) (.seq (.ops [[.j 50 (.call 115 [(.c (.str [108,111,111,112])),(.z 4092),(.z 0),(.z 16383)]),.s 13 2 50]]) .ret) (.seq (.ops [[.b 52 .eql 9 25,.m 51 52]]) (.cond (.t 51) (.seq (.ops [[.j 53 (.build [(.bool false),(.bool false),(.bool false),(.bool false)] [(0,1,(.c (.bool true))),(1,1,(.c (.bool false))),(2,1,(.c (.bool true))),(3,1,(.c (.bool false)))]),.j 54 (.build [(.int .i64 0),(.int .i64 0),(.int .i64 0),(.int .i64 0)] [(0,1,(.z 0)),(1,1,(.z 0)),(2,1,(.z 1)),(3,1,(.z 0))]),.j 55 (.build [(.int .i64 0),(.int .i64 0),(.int .i64 0),(.int .i64 0)] [(0,1,(.z 4092)),(1,1,(.z 0)),(2,1,(.z 200)),(3,1,(.z 0))]),.j 56 (.build [(.str []),(.bool false),(.bool false),(.bool false),(.bool false),(.int .i64 0),(.int .i64 0),(.int .i64 0),(.int .i64 0),(.int .i64 0),(.int .i64 0),(.int .i64 0),(.int .i64 0)] [(0,1,(.c (.str [105,116,101,114]))),(1,4,(.t 53)),(5,4,(.t 54)),(9,4,(.t 55))]),.s 13 2 56]]) .ret) (.seq (.ops [[.b 58 .eql 9 26,.m 57 58]]) (.cond (.t 57) (.seq (.ops [[.j 59 (.call 115 [(.c (.str [110,101,120,116])),(.z 4092),(.z 0),(.z 16383)]),.s 13 2 59]]) .ret) (.seq (.ops [[.b 61 .eql 9 27,.m 60 61]]) (.cond (.t 60) (.seq (.ops [[.j 62 (.call 132 [(.c (.str [99,108,111,115,101])),(.z 4095)]),.s 13 2 62]]) .ret) (.seq (.ops [[.b 64 .eql 9 28,.m 63 64]]) (.cond (.t 63) (.seq (.ops [[.j 65 (.call 132 [(.c (.str [109,97,114,107])),(.z 4095)]),.s 13 2 65]]) .ret) (.seq (.ops [[.b 67 .eql 9 29,.m 66 67]]) (.cond (.t 66) (.seq (.ops [[.j 68 (.call 132 [(.c (.str [115,116,97,116])),(.z 1)]),.s 13 2 68]]) .ret) .skip)))))))))))))))))))))))))))))))))) (.seq (.ops [[.j 69 (.call 133 [(.c (.str []))]),.s 13 2 69]]) .ret)))))
theorem p5:B3 Tryz.prog 117=some (70,A0F,[.c 2 13 true]):=by kernel_rfl
@[go_sem] def A0I:AC:= .seq (.seq (.ops [[.m 9 7,.m 10 0,.r 11 0 10,.h 12 .lss 9 11]]) (.cond (.t 12) .skip (.exit 0))) (.seq (.block 1 (.seq (.seq (.ops [[.m 15 6,.j 16 (.un .not (.t 15)),.m 17 16,.k 18 17 true (.mov (.t 0)),.k 19 17 true (.mov (.t 7)),.k 20 17 true (.iaddr 1 (.t 18) (.t 19)),.k 21 17 true (.load 1 false (.t 20)),.k 22 17 true (.mov (.t 1)),.k 23 17 true (.bin .geq (.t 21) (.t 22)),.j 24 (.pick (.t 17) (.t 23) (.c (.bool false)))]]) (.cond (.t 24) (.seq (.ops [[.m 25 5,.m 26 1,.j 27 (.mkisl 1 [(.t 26)]),.j 28 (.app 1180028 1 (.t 25) (.t 27)),.m 5 28]]) (.ops [[.t 6 true]])) .skip)) (.seq (.ops [[.m 29 0,.m 30 7,.i 31 1 29 30,.l 32 31,.m 33 1,.h 34 .neq 32 33]]) (.cond (.t 34) (.ops [[.m 35 5,.m 36 0,.m 37 7,.i 38 1 36 37,.l 39 38,.j 40 (.mkisl 1 [(.t 39)]),.j 41 (.app 1180041 1 (.t 35) (.t 40)),.m 5 41]]) .skip)))) (.ops [[.m 13 7,.b 14 .add 13 1,.m 7 14]]))
def A1s:AC:=A0I
theorem A4o:A1s=A0I:=rfl
@[go_sem] def A1U:AC:= .seq (.ops [[.j 4 (.mov (.c .nils))]]) (.seq (.ops [[.j 8 (.mkrow 1180008 1 []),.m 5 8]]) (.seq (.ops [[.t 6 false]]) (.seq (.seq (.ops [[.n 7 0]]) (.block 0 (.loop A1s))) (.seq (.seq (.ops [[.m 42 6,.j 43 (.un .not (.t 42))]]) (.cond (.t 43) (.ops [[.m 44 5,.m 45 1,.j 46 (.mkisl 1 [(.t 45)]),.j 47 (.app 1180047 1 (.t 44) (.t 46)),.m 5 47]]) .skip)) (.seq (.ops [[.m 48 5,.m 4 48]]) .ret)))))
theorem A1t:B3 Tryz.prog 118=some (49,A1U,[.t 4]):=by kernel_rfl
@[go_sem] def A3i:AC:= .seq (.ops [[.j 4 (.box 1320004 13 (.c (.agg [(.str []),(.bool false),(.bool false),(.bool false),(.bool false),(.int .i64 0),(.int .i64 0),(.int .i64 0),(.int .i64 0),(.int .i64 0),(.int .i64 0),(.int .i64 0),(.int .i64 0)])))]]) (.seq (.ops [[.m 5 0,.j 6 (.build [(.bool false),(.bool false),(.bool false),(.bool false)] [(0,1,(.c (.bool true))),(1,1,(.c (.bool false))),(2,1,(.c (.bool false))),(3,1,(.c (.bool false)))]),.m 7 1,.j 8 (.build [(.int .i64 0),(.int .i64 0),(.int .i64 0),(.int .i64 0)] [(0,1,(.t 7)),(1,1,(.z 0)),(2,1,(.z 0)),(3,1,(.z 0))]),.j 9 (.build [(.str []),(.bool false),(.bool false),(.bool false),(.bool false),(.int .i64 0),(.int .i64 0),(.int .i64 0),(.int .i64 0),(.int .i64 0),(.int .i64 0),(.int .i64 0),(.int .i64 0)] [(0,1,(.t 5)),(1,4,(.t 6)),(9,4,(.t 8))]),.s 13 4 9]]) .ret)
theorem A8t:B3 Tryz.prog 132=some (10,A3i,[.c 4 13 true]):=by kernel_rfl
@[go_sem] def A1q:AC:= .seq (.ops [[.j 2 (.box 1330002 13 (.c (.agg [(.str []),(.bool false),(.bool false),(.bool false),(.bool false),(.int .i64 0),(.int .i64 0),(.int .i64 0),(.int .i64 0),(.int .i64 0),(.int .i64 0),(.int .i64 0),(.int .i64 0)])))]]) (.seq (.ops [[.m 3 0,.j 4 (.build [(.str []),(.bool false),(.bool false),(.bool false),(.bool false),(.int .i64 0),(.int .i64 0),(.int .i64 0),(.int .i64 0),(.int .i64 0),(.int .i64 0),(.int .i64 0),(.int .i64 0)] [(0,1,(.t 3))]),.s 13 2 4]]) .ret)
theorem A0H:B3 Tryz.prog 133=some (5,A1q,[.c 2 13 true]):=by kernel_rfl
def exT:List (FuncId×Nat×AC×List RV):= [
 (3,64,N9,[.t 2]),
 (4,10,A0w,[.t 2]),
 (5,18,A0x,[.t 0]),
 (6,13,A7W,[.t 2]),
 (7,23,A5k,[.t 2,.t 3,.t 4]),
 (8,66,Z3,[.t 2,.t 3,.t 4]),
 (9,51,A0v,[.t 2]),
 (10,16,A8G,[.c 2 1 false]),
 (11,42,A6T,[.t 4,.t 5,.t 6]),
 (12,25,A0L,[.t 2]),
 (13,29,A1d,[.t 2]),
 (14,20,A8I,[.t 2]),
 (15,4,B0q,[.t 2]),
 (16,74,A7L,[.t 2]),
 (17,21,A7Z,[.t 2]),
 (18,8,A1f,[.t 2]),
 (19,33,A0M,[.t 2]),
 (20,44,A1x,[.t 2]),
 (21,83,u7,[.t 2]),
 (22,114,A0f,[.t 2,.t 3]),
 (23,142,B9,[.t 6]),
 (24,7,A7B,[]),
 (25,23,B0t,[.t 4]),
 (26,42,A7C,[.c 2 11 true]),
 (27,53,A7J,[.t 2]),
 (28,118,B0s,[.t 2]),
 (29,60,A2t,[.t 4]),
 (30,56,A6U,[.t 4]),
 (31,30,A7X,[.t 2]),
 (32,109,A1h,[.t 6]),
 (33,74,u5,[.t 2]),
 (34,151,A1y,[.t 2]),
 (35,62,A0W,[.t 4]),
 (36,20,A1c,[.c 2 3 true]),
 (37,63,A1A,[.t 4]),
 (38,66,N1,[.c 8 3 true]),
 (39,16,A0C,[.t 2]),
 (40,66,A1e,[.t 4]),
 (41,38,A1a,[.t 4]),
 (42,8,J3,[.t 2]),
 (43,8,J4,[.t 2]),
 (44,8,Q2,[.t 2]),
 (45,8,N3,[.t 2]),
 (46,6,A4T,[.t 2]),
 (47,9,I8,[.t 4]),
 (48,8,A4U,[.t 3]),
 (49,9,I0,[.t 4]),
 (50,8,A4V,[.t 3]),
 (51,9,O1,[.t 4]),
 (52,5,A7F,[.t 2]),
 (53,6,A7G,[.t 2]),
 (54,74,A8P,[.t 2]),
 (55,85,A7s,[.t 2]),
 (56,88,A7u,[.t 2,.t 3]),
 (57,92,A6m,[.t 2,.t 3]),
 (58,17,A7N,[.t 6]),
 (59,14,A6l,[.t 2,.t 3]),
 (60,63,A7K,[.t 4]),
 (61,20,A7Y,[.c 2 3 true]),
 (62,67,A6Q,[.c 6 3 true]),
 (63,32,A8Q,[.t 4]),
 (64,65,B1E,[.t 4]),
 (65,16,A7t,[.t 2]),
 (66,71,A8c,[.t 6]),
 (67,8,A2v,[.t 3]),
 (68,26,A1g,[.t 4]),
 (69,88,A0A,[.t 2]),
 (70,73,A0B,[.t 2]),
 (71,90,A0D,[.t 2,.t 3]),
 (72,93,o9,[.t 2,.t 3]),
 (73,23,A0Q,[.t 6]),
 (74,14,o8,[.t 2,.t 3]),
 (75,61,u6,[.t 4]),
 (76,49,A1W,[.t 4]),
 (77,93,C0,[.c 4 3 true]),
 (78,19,L0,[.t 4]),
 (79,19,J6,[.t 4]),
 (80,19,T7,[.t 4]),
 (81,33,A5a,[.t 2]),
 (82,25,B1N,[.c 2 6 true,.t 3]),
 (83,24,A6n,[.c 4 4 true,.c 5 4 true]),
 (84,29,A4I,[.t 2,.t 3]),
 (85,53,A8E,[.t 4]),
 (86,7,A6o,[.t 2]),
 (87,23,A8F,[.t 4,.t 5]),
 (88,8,A4Z,[.t 3]),
 (89,22,A4P,[.t 2,.t 3]),
 (90,75,K9,[.c 4 3 true]),
 (91,11,A1D,[]),
 (92,61,f7,[.t 2]),
 (93,10,A5s,[.t 3]),
 (94,30,A0y,[.t 2]),
 (95,65,A1p,[.c 2 13 true]),
 (96,12,p4,[.c 2 4 true]),
 (97,46,A0G,[.t 2]),
 (98,19,A1V,[.t 2]),
 (99,16,A1r,[.t 6,.t 7]),
 (100,20,A1w,[.t 6]),
 (101,19,A1z,[.t 4]),
 (102,14,y6,[.c 2 3 true]),
 (103,18,A1b,[]),
 (104,12,A7O,[.t 4]),
 (105,106,A5j,[.t 2]),
 (106,75,A7w,[.c 2 6 true]),
 (107,8,f6,[.t 2]),
 (108,15,A8d,[]),
 (109,42,R6,[.t 4]),
 (110,8,A4d,[.t 3]),
 (113,12,A1S,[.t 4]),
 (114,8,A1R,[.t 2]),
 (115,17,A2u,[.c 8 13 true]),
 (116,23,A1T,[.c 8 13 true]),
 (117,70,A0F,[.c 2 13 true]),
 (118,49,A1U,[.t 4]),
 (132,10,A3i,[.c 4 13 true]),
 (133,5,A1q,[.c 2 13 true])]
theorem B5k:A8 Tryz.prog exT:= 
 (A8.cons N0 
 (A8.cons j9 
 (A8.cons k9 
 (A8.cons i5 
 (A8.cons A4c 
 (A8.cons K5 
 (A8.cons j8 
 (A8.cons A7A 
 (A8.cons A5w 
 (A8.cons p9 
 (A8.cons A0b 
 (A8.cons A7E 
 (A8.cons A8H 
 (A8.cons A6B 
 (A8.cons A6O 
 (A8.cons N4 
 (A8.cons q9 
 (A8.cons A0P 
 (A8.cons Z2 
 (A8.cons f0 
 (A8.cons T5 
 (A8.cons A6q 
 (A8.cons A8N 
 (A8.cons A6s 
 (A8.cons A6w 
 (A8.cons A8L 
 (A8.cons A1Q 
 (A8.cons A5z 
 (A8.cons A6K 
 (A8.cons i7 
 (A8.cons Y7 
 (A8.cons A0V 
 (A8.cons u4 
 (A8.cons y8 
 (A8.cons A0Y 
 (A8.cons a8 
 (A8.cons o6 
 (A8.cons A0e 
 (A8.cons w9 
 (A8.cons I6 
 (A8.cons I7 
 (A8.cons O0 
 (A8.cons L7 
 (A8.cons A3W 
 (A8.cons I2 
 (A8.cons A3X 
 (A8.cons H8 
 (A8.cons A3Y 
 (A8.cons N5 
 (A8.cons A6u 
 (A8.cons A6v 
 (A8.cons A7U 
 (A8.cons A6j 
 (A8.cons A2j 
 (A8.cons A4H 
 (A8.cons A6C 
 (A8.cons A4G 
 (A8.cons A6x 
 (A8.cons A6M 
 (A8.cons A5r 
 (A8.cons A8b 
 (A8.cons B0a 
 (A8.cons A6k 
 (A8.cons A2o 
 (A8.cons A2c 
 (A8.cons A0h 
 (A8.cons C8 
 (A8.cons n9 
 (A8.cons o7 
 (A8.cons X9 
 (A8.cons t6 
 (A8.cons X8 
 (A8.cons Y8 
 (A8.cons A1C 
 (A8.cons Z9 
 (A8.cons K3 
 (A8.cons J0 
 (A8.cons I5 
 (A8.cons A4a 
 (A8.cons B0k 
 (A8.cons A4J 
 (A8.cons B0j 
 (A8.cons A7v 
 (A8.cons A4K 
 (A8.cons A3d 
 (A8.cons A3Z 
 (A8.cons A3V 
 (A8.cons A5o 
 (A8.cons A5X 
 (A8.cons A3O 
 (A8.cons A4f 
 (A8.cons n6 
 (A8.cons A0E 
 (A8.cons Y0 
 (A8.cons p6 
 (A8.cons A1v 
 (A8.cons O8 
 (A8.cons O9 
 (A8.cons A0X 
 (A8.cons Z6 
 (A8.cons y5 
 (A8.cons A6E 
 (A8.cons B0K 
 (A8.cons B2f 
 (A8.cons W3 
 (A8.cons A6W 
 (A8.cons Q4 
 (A8.cons A3z 
 (A8.cons A1o 
 (A8.cons A1m 
 (A8.cons A7S 
 (A8.cons A7a 
 (A8.cons p5 
 (A8.cons A1t 
 (A8.cons A8t 
 (A8.cons A0H A8.nil))))))))))))))))))))))))))))))))))))))))))))))))))))))))))))))))))))))))))))))))))))))))))))))))))))))))))))))))))))
end Go.Proofs.YtnihmhbcjpcobaaGreatDoor
