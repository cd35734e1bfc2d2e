/-
 The code of the functions that this seat reaches, translated into abstract code (printed by a program, each proved to be the translation). No condition.
-/
import Derived.Test.YtcjgeliglgcflaaGreatDoorCodeA
import Derived.Test.YtcjgeliglgcflaaGreatDoorChecked
set_option maxRecDepth 1000000
namespace Go.Proofs.YtcjgeliglgcflaaGreatDoor
open Go.Abs
@[go_sem] def A3Q:AC:= .seq (.ops [[.b 29 .lss 28 4]]) (.seq (.cond (.t 29) .skip (.exit 0)) (.seq (.block 1 (.seq (.ops [[.m 30 28,.j 31 (.idxA 4 1 1 false (.t 27) (.t 28)),.m 7 30,.m 8 31]]) (.seq (.ops [[.m 32 8,.b 33 .eql 32 0,.m 34 33,.k 35 34 true (.mov (.t 7)),.k 36 34 true (.iaddrA 4 1 (.t 6) (.t 35)),.k 37 34 true (.load 1 false (.t 36)),.k 38 34 true (.bin .neq (.t 37) (.z 0)),.j 39 (.pick (.t 34) (.t 38) (.c (.bool false)))]]) (.cond (.t 39) (.seq (.ops [[.n 2 4]]) .ret) .skip)))) (.ops [[.b 40 .add 28 1,.m 28 40]])))
def A4Z:AC:=A3Q
theorem A2q:A4Z=A3Q:=rfl
@[go_sem] def A3R:AC:= .seq (.ops [[.b 43 .lss 42 4]]) (.seq (.cond (.t 43) .skip (.exit 2)) (.seq (.block 3 (.seq (.ops [[.m 44 42,.j 45 (.idxA 4 1 1 false (.t 41) (.t 42)),.m 9 44,.m 10 45]]) (.seq (.ops [[.m 47 10,.c 48 102 47,.m 46 48,.x 49 0 46,.x 50 1 46,.m 11 49,.m 12 50]]) (.seq (.ops [[.m 51 9,.j 52 (.iaddrA 4 1 (.t 6) (.t 51)),.l 53 52,.m 54 11,.h 55 .lss 53 54,.m 56 55,.k 57 56 false (.mov (.t 9)),.k 58 56 false (.iaddrA 4 1 (.t 6) (.t 57)),.k 59 56 false (.load 1 false (.t 58)),.k 60 56 false (.mov (.t 12)),.k 61 56 false (.bin .gtr (.t 59) (.t 60)),.j 62 (.pick (.t 56) (.c (.bool true)) (.t 61))]]) (.cond (.t 62) (.seq (.ops [[.n 2 6]]) .ret) .skip))))) (.ops [[.b 63 .add 42 1,.m 42 63]])))
def A5a:AC:=A3R
theorem A2r:A5a=A3R:=rfl
@[go_sem] def A6j:AC:= .seq (.ops [[.j 1 (.box 740001 5 (.t 0)),.n 2 0]]) (.seq (.ops [[.a 14 0 1,.l 15 14,.c 16 100 15,.m 13 16,.x 17 0 13,.x 18 1 13,.j 3 (.box 740003 6 (.c (.agg [(.str []),(.int .i64 0),(.int .i64 0),(.int .i64 0),(.int .i64 0),(.int .i64 0)]))),.s 6 3 17,.m 4 18]]) (.seq (.seq (.ops [[.m 19 4,.j 20 (.un .not (.t 19))]]) (.cond (.t 20) (.seq (.ops [[.n 2 4]]) .ret) .skip)) (.seq (.ops [[.w 22 6 3,.w 23 5 1,.j 24 (.call 101 [(.t 22),(.t 23)]),.m 21 24,.x 25 0 21,.x 26 1 21,.j 5 (.box 740005 4 (.c (.agg [(.int .i64 0),(.int .i64 0),(.int .i64 0),(.int .i64 0)]))),.j 6 (.box 740006 4 (.c (.agg [(.int .i64 0),(.int .i64 0),(.int .i64 0),(.int .i64 0)]))),.s 4 5 25,.s 4 6 26]]) (.seq (.seq (.ops [[.w 27 4 5,.n 28 0]]) (.block 0 (.loop A4Z))) (.seq (.seq (.ops [[.w 41 4 5,.n 42 0]]) (.block 2 (.loop A5a))) (.seq (.seq (.ops [[.a 64 1 3,.l 65 64,.b 66 .eql 65 1,.m 67 66,.k 68 67 true (.load 6 true (.t 3)),.k 69 67 true (.load 5 true (.t 1)),.k 70 67 true (.call 103 [(.t 68),(.t 69)]),.k 71 67 true (.bin .geq (.t 70) (.z 4096)),.j 72 (.pick (.t 67) (.t 71) (.c (.bool false))),.m 73 72,.k 74 73 false (.faddr 0 (.t 1)),.k 75 73 false (.load 1 false (.t 74)),.k 76 73 false (.bin .eql (.t 75) (.z 3)),.k 77 73 false (.mov (.t 76)),.k 78 77 true (.faddr 2 (.t 1)),.k 79 77 true (.load 1 false (.t 78)),.k 80 77 true (.faddr 1 (.t 1)),.k 81 77 true (.load 1 false (.t 80)),.k 82 77 true (.bin .lss (.t 79) (.t 81)),.k 83 73 false (.pick (.t 77) (.t 82) (.c (.bool false))),.j 84 (.pick (.t 73) (.c (.bool true)) (.t 83))]]) (.cond (.t 84) (.seq (.ops [[.n 2 6]]) .ret) .skip)) (.seq (.ops [[.n 2 0]]) .ret)))))))
theorem A5b:B3 Tryz.prog 74=some (85,A6j,[.t 2]):=by kernel_rfl
@[go_sem] def A6k:AC:= .seq (.ops [[.j 1 (.box 750001 5 (.t 0)),.j 2 (.mov (.c .nils)),.n 3 0]]) (.seq (.seq (.ops [[.w 6 5 1,.c 7 74 6,.b 8 .neq 7 0]]) (.cond (.t 8) (.seq (.ops [[.j 2 (.mov (.c .nils)),.n 3 (-1)]]) .ret) .skip)) (.seq (.seq (.ops [[.a 9 0 1,.l 10 9]]) (.block 0 (.seq (.seq (.ops [[.b 12 .eql 10 1,.m 11 12]]) (.cond (.t 11) .skip (.seq (.ops [[.b 13 .eql 10 6,.m 11 13]]) (.cond (.t 11) .skip (.seq (.ops [[.b 14 .eql 10 8,.m 11 14]]) (.cond (.t 11) .skip (.seq (.ops [[.b 15 .eql 10 11,.m 11 15]]) (.cond (.t 11) .skip (.ops [[.b 16 .eql 10 12,.m 11 16]]))))))))) (.cond (.t 11) (.seq (.ops [[.a 17 2 1,.l 18 17,.j 19 (.mkrow 750019 1 [(.t 18)]),.m 2 19,.n 3 (-1)]]) .ret) (.seq (.seq (.ops [[.b 21 .eql 10 9,.m 20 21]]) (.cond (.t 20) .skip (.ops [[.b 22 .eql 10 13,.m 20 22]]))) (.cond (.t 20) (.seq (.ops [[.a 23 2 1,.l 24 23,.a 25 3 1,.l 26 25,.j 27 (.mkrow 750027 1 [(.t 24),(.t 26)]),.c 28 104 27,.m 2 28,.n 3 (-1)]]) .ret) (.seq (.ops [[.b 30 .eql 10 10,.m 29 30]]) (.cond (.t 29) (.seq (.ops [[.a 31 1 1,.l 32 31,.a 33 2 1,.l 34 33,.a 35 3 1,.l 36 35,.j 37 (.mkrow 750037 1 [(.t 32),(.t 34),(.t 36)]),.c 38 104 37,.m 2 38,.n 3 (-1)]]) .ret) (.seq (.seq (.ops [[.b 40 .eql 10 15,.m 39 40]]) (.cond (.t 39) .skip (.ops [[.b 41 .eql 10 28,.m 39 41]]))) (.cond (.t 39) (.seq (.ops [[.a 42 1 1,.l 43 42,.j 44 (.mkrow 750044 1 [(.t 43)]),.m 2 44,.n 3 (-1)]]) .ret) (.seq (.seq (.ops [[.b 46 .eql 10 16,.m 45 46]]) (.cond (.t 45) .skip (.seq (.ops [[.b 47 .eql 10 17,.m 45 47]]) (.cond (.t 45) .skip (.ops [[.b 48 .eql 10 21,.m 45 48]]))))) (.cond (.t 45) (.seq (.ops [[.a 50 1 1,.l 51 50,.b 52 .add 51 1,.a 53 2 1,.l 54 53,.j 55 (.call 105 [(.t 52),(.t 54)]),.m 49 55,.x 56 0 49,.x 57 1 49,.m 4 56,.m 5 57]]) (.seq (.ops [[.a 58 1 1,.l 59 58,.j 60 (.mkrow 750060 1 [(.t 59)]),.m 61 4,.j 62 (.app 750062 1 (.t 60) (.t 61)),.m 63 5,.m 2 62,.m 3 63]]) .ret)) (.seq (.ops [[.b 65 .eql 10 18,.m 64 65]]) (.cond (.t 64) (.seq (.ops [[.a 66 1 1,.l 67 66,.a 68 2 1,.l 69 68,.j 70 (.call 105 [(.t 67),(.t 69)]),.x 71 0 70,.x 72 1 70,.m 2 71,.m 3 72]]) .ret) (.seq (.seq (.ops [[.b 74 .eql 10 23,.m 73 74]]) (.cond (.t 73) .skip (.seq (.ops [[.b 75 .eql 10 24,.m 73 75]]) (.cond (.t 73) .skip (.ops [[.b 76 .eql 10 25,.m 73 76]]))))) (.cond (.t 73) (.seq (.ops [[.a 77 1 1,.l 78 77,.j 79 (.call 105 [(.t 78),(.z 3)]),.x 80 0 79,.x 81 1 79,.m 2 80,.m 3 81]]) .ret) (.seq (.ops [[.b 83 .eql 10 26,.m 82 83]]) (.cond (.t 82) (.seq (.ops [[.a 84 1 1,.l 85 84,.b 86 .add 85 3,.j 87 (.mkrow 750087 1 [(.t 86)]),.m 2 87,.n 3 (-1)]]) .ret) .skip)))))))))))))))))) (.seq (.ops [[.j 2 (.mov (.c .nils)),.n 3 (-1)]]) .ret)))
theorem A5c:B3 Tryz.prog 75=some (88,A6k,[.t 2,.t 3]):=by kernel_rfl
@[go_sem] def A5f:AC:= .seq (.ops [[.j 1 (.box 760001 5 (.t 0)),.j 2 (.mov (.c .nils)),.n 3 0]]) (.seq (.seq (.ops [[.w 4 5 1,.c 5 74 4,.b 6 .neq 5 0]]) (.cond (.t 6) (.seq (.ops [[.j 2 (.mov (.c .nils)),.n 3 (-1)]]) .ret) .skip)) (.seq (.seq (.ops [[.a 7 0 1,.l 8 7]]) (.block 0 (.seq (.seq (.ops [[.b 10 .eql 8 1,.m 9 10]]) (.cond (.t 9) .skip (.seq (.ops [[.b 11 .eql 8 2,.m 9 11]]) (.cond (.t 9) .skip (.seq (.ops [[.b 12 .eql 8 4,.m 9 12]]) (.cond (.t 9) .skip (.seq (.ops [[.b 13 .eql 8 5,.m 9 13]]) (.cond (.t 9) .skip (.seq (.ops [[.b 14 .eql 8 7,.m 9 14]]) (.cond (.t 9) .skip (.seq (.ops [[.b 15 .eql 8 9,.m 9 15]]) (.cond (.t 9) .skip (.seq (.ops [[.b 16 .eql 8 12,.m 9 16]]) (.cond (.t 9) .skip (.seq (.ops [[.b 17 .eql 8 13,.m 9 17]]) (.cond (.t 9) .skip (.seq (.ops [[.b 18 .eql 8 20,.m 9 18]]) (.cond (.t 9) .skip (.ops [[.b 19 .eql 8 22,.m 9 19]]))))))))))))))))))) (.cond (.t 9) (.seq (.ops [[.a 20 1 1,.l 21 20,.j 22 (.mkrow 760022 1 [(.t 21)]),.m 2 22,.n 3 (-1)]]) .ret) (.seq (.ops [[.b 24 .eql 8 3,.m 23 24]]) (.cond (.t 23) (.seq (.ops [[.a 25 1 1,.l 26 25,.a 27 2 1,.l 28 27,.a 29 1 1,.l 30 29,.h 31 .sub 28 30,.b 32 .add 31 1,.j 33 (.call 105 [(.t 26),(.t 32)]),.x 34 0 33,.x 35 1 33,.m 2 34,.m 3 35]]) .ret) (.seq (.ops [[.b 37 .eql 8 11,.m 36 37]]) (.cond (.t 36) (.seq (.ops [[.a 38 1 1,.l 39 38,.a 40 1 1,.l 41 40,.b 42 .add 41 1,.j 43 (.mkrow 760043 1 [(.t 39),(.t 42)]),.m 2 43,.n 3 (-1)]]) .ret) (.seq (.ops [[.b 45 .eql 8 16,.m 44 45]]) (.cond (.t 44) (.seq (.ops [[.a 46 1 1,.l 47 46,.a 48 3 1,.l 49 48,.j 50 (.call 105 [(.t 47),(.t 49)]),.x 51 0 50,.x 52 1 50,.m 2 51,.m 3 52]]) .ret) (.seq (.ops [[.b 54 .eql 8 19,.m 53 54]]) (.cond (.t 53) (.seq (.ops [[.a 55 1 1,.l 56 55,.a 57 2 1,.l 58 57,.j 59 (.call 105 [(.t 56),(.t 58)]),.x 60 0 59,.x 61 1 59,.m 2 60,.m 3 61]]) .ret) (.seq (.ops [[.b 63 .eql 8 23,.m 62 63]]) (.cond (.t 62) (.seq (.ops [[.a 64 1 1,.l 65 64,.b 66 .add 65 3,.j 67 (.mkrow 760067 1 [(.t 66)]),.m 2 67,.n 3 (-1)]]) .ret) (.seq (.ops [[.b 69 .eql 8 24,.m 68 69]]) (.cond (.t 68) (.seq (.ops [[.a 70 1 1,.l 71 70,.a 72 1 1,.l 73 72,.b 74 .add 73 3,.j 75 (.mkrow 760075 1 [(.t 71),(.t 74)]),.m 2 75,.n 3 (-1)]]) .ret) (.seq (.ops [[.b 77 .eql 8 25,.m 76 77]]) (.cond (.t 76) (.seq (.ops [[.a 78 1 1,.l 79 78,.b 80 .add 79 3,.a 81 3 1,.l 82 81,.j 83 (.call 105 [(.t 80),(.t 82)]),.x 84 0 83,.x 85 1 83,.m 2 84,.m 3 85]]) .ret) (.seq (.ops [[.b 87 .eql 8 26,.m 86 87]]) (.cond (.t 86) (.seq (.ops [[.a 88 1 1,.l 89 88,.b 90 .add 89 2,.j 91 (.mkrow 760091 1 [(.t 90)]),.m 2 91,.n 3 (-1)]]) .ret) .skip)))))))))))))))))))) (.seq (.ops [[.j 2 (.mov (.c .nils)),.n 3 (-1)]]) .ret)))
theorem A3T:B3 Tryz.prog 76=some (92,A5f,[.t 2,.t 3]):=by kernel_rfl
@[go_sem] def A6G:AC:= .seq (.ops [[.j 3 (.box 770003 11 (.t 0)),.t 6 false]]) (.seq (.ops [[.m 7 2,.a 8 4 3,.l 9 8,.h 10 .leq 7 9,.m 11 10,.k 12 11 true (.mov (.t 1)),.k 13 11 true (.mkfn 106 [(.t 3)]),.k 14 11 true (.call 70 [(.t 12),(.t 13)]),.k 15 11 true (.un .not (.t 14)),.j 16 (.pick (.t 11) (.t 15) (.c (.bool false))),.m 6 16]]) .ret)
theorem A5v:B3 Tryz.prog 77=some (17,A6G,[.t 6]):=by kernel_rfl
@[go_sem] def A5d:AC:= .seq (.ops [[.j 1 (.box 780001 5 (.t 0)),.n 2 0,.t 3 false]]) (.seq (.seq (.ops [[.a 4 0 1,.l 5 4]]) (.block 0 (.seq (.seq (.ops [[.b 7 .eql 5 14,.m 6 7]]) (.cond (.t 6) .skip (.seq (.ops [[.b 8 .eql 5 15,.m 6 8]]) (.cond (.t 6) .skip (.seq (.ops [[.b 9 .eql 5 23,.m 6 9]]) (.cond (.t 6) .skip (.seq (.ops [[.b 10 .eql 5 24,.m 6 10]]) (.cond (.t 6) .skip (.ops [[.b 11 .eql 5 26,.m 6 11]]))))))))) (.cond (.t 6) (.seq (.ops [[.a 12 2 1,.l 13 12,.m 2 13,.t 3 true]]) .ret) .skip)))) (.seq (.ops [[.n 2 0,.t 3 false]]) .ret))
theorem A3S:B3 Tryz.prog 78=some (14,A5d,[.t 2,.t 3]):=by kernel_rfl
@[go_sem] def A6D:AC:= .seq (.ops [[.j 2 (.box 790002 11 (.t 0)),.j 3 (.box 790003 5 (.t 1)),.t 4 false]]) (.seq (.seq (.ops [[.w 8 5 3,.c 9 107 8,.m 7 9,.x 10 0 7,.x 11 1 7,.m 5 10,.m 6 11]]) (.seq (.ops [[.m 12 5,.a 13 7 2,.l 14 13,.r 15 0 14,.h 16 .geq 12 15,.m 17 16,.k 18 17 false (.mov (.t 5)),.k 19 17 false (.bin .geq (.t 18) (.z 0)),.k 20 17 false (.mov (.t 19)),.k 21 20 true (.mov (.t 6)),.k 22 17 false (.pick (.t 20) (.t 21) (.c (.bool false))),.k 23 17 false (.mov (.t 22)),.k 24 23 true (.faddr 7 (.t 2)),.k 25 23 true (.load 1 false (.t 24)),.k 26 23 true (.mov (.t 5)),.k 27 23 true (.iaddr 5 (.t 25) (.t 26)),.k 28 23 true (.faddr 0 (.t 27)),.k 29 23 true (.load 1 false (.t 28)),.k 30 23 true (.bin .neq (.t 29) (.z 3)),.k 31 17 false (.pick (.t 23) (.t 30) (.c (.bool false))),.j 32 (.pick (.t 17) (.c (.bool true)) (.t 31))]]) (.cond (.t 32) (.seq (.ops [[.t 4 false]]) .ret) .skip))) (.seq (.seq (.ops [[.a 33 0 3,.l 34 33]]) (.block 0 (.seq (.ops [[.b 36 .eql 34 5,.m 35 36]]) (.cond (.t 35) (.seq (.ops [[.a 37 2 3,.l 38 37,.a 39 9 2,.l 40 39,.r 41 0 40,.h 42 .lss 38 41,.m 4 42]]) .ret) (.seq (.ops [[.b 44 .eql 34 6,.m 43 44]]) (.cond (.t 43) (.seq (.ops [[.a 45 1 3,.l 46 45,.a 47 9 2,.l 48 47,.r 49 0 48,.h 50 .lss 46 49,.m 4 50]]) .ret) (.seq (.ops [[.b 52 .eql 34 22,.m 51 52]]) (.cond (.t 51) (.seq (.ops [[.a 53 2 3,.l 54 53,.a 55 8 2,.l 56 55,.r 57 0 56,.h 58 .lss 54 57,.m 4 58]]) .ret) (.seq (.ops [[.b 60 .eql 34 19,.m 59 60]]) (.cond (.t 59) (.seq (.ops [[.a 61 3 2,.l 62 61,.m 4 62]]) .ret) .skip)))))))))) (.seq (.ops [[.t 4 true]]) .ret)))
theorem A5q:B3 Tryz.prog 79=some (63,A6D,[.t 4]):=by kernel_rfl
@[go_sem] def A2W:AC:= .seq (.ops [[.j 2 (.mov (.c (.str [])))]]) (.seq (.ops [[.m 3 0,.m 4 0,.j 5 (.callp 83 [(.t 4)]),.j 6 (.callp 108 [(.t 3),(.t 5)]),.j 7 (.bst (.t 6)),.m 2 7]]) .ret)
theorem A1J:B3 Tryz.prog 80=some (8,A2W,[.t 2]):=by kernel_rfl
@[go_sem] def A0X:AC:= .seq (.ops [[.h 10 .lss 9 8]]) (.seq (.cond (.t 10) .skip (.exit 0)) (.seq (.block 1 (.seq (.ops [[.m 11 9,.i 12 1 7 9,.l 13 12,.m 4 11,.m 5 13]]) (.ops [[.m 14 3,.m 15 5,.j 16 (.conv .u64 (.t 15)),.m 17 4,.j 18 (.bin .mul (.z 8) (.t 17)),.j 19 (.sh true (.t 16) (.t 18)),.h 20 .or 14 19,.m 3 20]]))) (.ops [[.b 21 .add 9 1,.m 9 21]])))
def A1H:AC:=A0X
theorem A5C:A1H=A0X:=rfl
@[go_sem] def A2V:AC:= .seq (.ops [[.n 2 0]]) (.seq (.ops [[.j 3 (.mov (.c (.int .u64 0)))]]) (.seq (.seq (.ops [[.m 6 0,.j 7 (.callp 108 [(.t 6),(.z 8)]),.r 8 0 7,.n 9 0]]) (.block 0 (.loop A1H))) (.seq (.ops [[.m 22 3,.j 23 (.conv .i64 (.t 22)),.m 2 23]]) .ret)))
theorem A1I:B3 Tryz.prog 81=some (24,A2V,[.t 2]):=by kernel_rfl
@[go_sem] def A0Z:AC:= .seq (.ops [[.t 2 false]]) (.seq (.ops [[.m 4 0,.j 5 (.callp 108 [(.t 4),(.z 1)]),.j 6 (.iaddr 1 (.t 5) (.z 0)),.l 7 6,.m 3 7]]) (.seq (.seq (.ops [[.m 8 3,.j 9 (.bin .gtr (.t 8) (.c (.int .u8 1)))]]) (.cond (.t 9) (.ops [[.m 10 0,.j 11 (.callp 46 [(.t 10),(.z 4)])]]) .skip)) (.seq (.ops [[.m 12 3,.j 13 (.bin .eql (.t 12) (.c (.int .u8 1))),.m 2 13]]) .ret)))
theorem A0D:B3 Tryz.prog 82=some (14,A0Z,[.t 2]):=by kernel_rfl
@[go_sem] def A0C:AC:= .seq (.ops [[.n 2 0]]) (.seq (.ops [[.m 4 0,.j 5 (.callp 81 [(.t 4)]),.m 3 5]]) (.seq (.block 0 (.seq (.ops [[.m 7 3,.b 8 .lss 7 0,.m 6 8]]) (.cond (.t 6) (.ops [[.m 9 0,.j 10 (.callp 46 [(.t 9),(.z 4)])]]) (.seq (.ops [[.m 12 3,.m 13 0,.y 14 13,.a 15 0 14,.l 16 15,.r 17 0 16,.h 18 .gtr 12 17,.m 11 18]]) (.cond (.t 11) (.ops [[.m 19 0,.j 20 (.callp 46 [(.t 19),(.z 5)])]]) .skip))))) (.seq (.ops [[.m 21 3,.m 2 21]]) .ret)))
theorem A0a:B3 Tryz.prog 83=some (22,A0C,[.t 2]):=by kernel_rfl
@[go_sem] def A1a:AC:= .seq (.ops [[.j 2 (.box 840002 5 (.c (.agg [(.int .i64 0),(.int .i64 0),(.int .i64 0),(.str []),(.int .i64 0)])))]]) (.seq (.ops [[.m 4 0,.j 5 (.callp 108 [(.t 4),(.z 1)]),.j 6 (.iaddr 1 (.t 5) (.z 0)),.l 7 6,.j 8 (.conv .i64 (.t 7)),.j 9 (.build [(.int .i64 0),(.int .i64 0),(.int .i64 0),(.str []),(.int .i64 0)] [(0,1,(.t 8))]),.j 3 (.box 840003 5 (.c (.agg [(.int .i64 0),(.int .i64 0),(.int .i64 0),(.str []),(.int .i64 0)]))),.s 5 3 9]]) (.seq (.seq (.ops [[.a 10 0 3,.l 11 10]]) (.block 0 (.seq (.ops [[.b 15 .eql 11 0,.m 14 15]]) (.cond (.t 14) .skip (.seq (.ops [[.b 17 .eql 11 1,.m 16 17]]) (.cond (.t 16) (.seq (.ops [[.m 18 0,.j 19 (.callp 82 [(.t 18)])]]) (.cond (.t 19) (.ops [[.a 20 4 3,.e (.store 1 (.t 20) (.z 1))]]) .skip)) (.seq (.ops [[.b 22 .eql 11 2,.m 21 22]]) (.cond (.t 21) (.seq (.ops [[.m 23 0,.j 24 (.callp 81 [(.t 23)]),.a 25 1 3,.a 26 0 25,.s 1 26 24]]) (.ops [[.m 27 0,.j 28 (.callp 81 [(.t 27)]),.a 29 1 3,.a 30 1 29,.s 1 30 28]])) (.seq (.ops [[.b 32 .eql 11 3,.m 31 32]]) (.cond (.t 31) (.ops [[.m 33 0,.j 34 (.callp 80 [(.t 33)]),.a 35 3 3,.s 1 35 34]]) (.ops [[.m 12 0,.j 13 (.callp 46 [(.t 12),(.z 4)])]]))))))))))) (.seq (.ops [[.w 36 5 3,.s 5 2 36]]) .ret)))
theorem A0E:B3 Tryz.prog 84=some (37,A1a,[.c 2 5 true]):=by kernel_rfl
@[go_sem] def A4U:AC:= .seq (.seq (.ops [[.m 7 4,.m 8 0,.r 9 1 8,.h 10 .lss 7 9]]) (.cond (.t 10) .skip (.exit 0))) (.seq (.block 1 (.seq (.ops [[.m 13 0,.m 14 4,.j 15 (.idx (.t 13) (.t 14)),.m 5 15]]) (.block 2 (.seq (.ops [[.m 21 5,.j 22 (.bin .eql (.t 21) (.c (.int .u8 10))),.m 20 22]]) (.cond (.t 20) (.ops [[.m 23 3,.j 24 (.app 850024 1 (.t 23) (.c (.str [92,110]))),.m 3 24]]) (.seq (.ops [[.m 26 5,.j 27 (.bin .eql (.t 26) (.c (.int .u8 9))),.m 25 27]]) (.cond (.t 25) (.ops [[.m 28 3,.j 29 (.app 850029 1 (.t 28) (.c (.str [92,116]))),.m 3 29]]) (.seq (.ops [[.m 31 5,.j 32 (.bin .eql (.t 31) (.c (.int .u8 92))),.m 33 32,.k 34 33 false (.mov (.t 5)),.k 35 33 false (.bin .eql (.t 34) (.c (.int .u8 34))),.j 36 (.pick (.t 33) (.c (.bool true)) (.t 35)),.m 30 36]]) (.cond (.t 30) (.ops [[.m 37 3,.m 38 5,.j 39 (.mkisl 1 [(.c (.int .u8 92)),(.t 38)]),.j 40 (.app 850040 1 (.t 37) (.t 39)),.m 3 40]]) (.seq (.ops [[.m 42 5,.j 43 (.bin .lss (.t 42) (.c (.int .u8 32))),.m 44 43,.k 45 44 false (.mov (.t 5)),.k 46 44 false (.bin .gtr (.t 45) (.c (.int .u8 126))),.j 47 (.pick (.t 44) (.c (.bool true)) (.t 46)),.m 41 47]]) (.cond (.t 41) (.ops [[.m 48 3,.m 49 5,.j 50 (.bin .quo (.t 49) (.c (.int .u8 100))),.j 51 (.bin .add (.c (.int .u8 48)) (.t 50)),.m 52 5,.j 53 (.bin .quo (.t 52) (.c (.int .u8 10))),.j 54 (.bin .rem (.t 53) (.c (.int .u8 10))),.j 55 (.bin .add (.c (.int .u8 48)) (.t 54)),.m 56 5,.j 57 (.bin .rem (.t 56) (.c (.int .u8 10))),.j 58 (.bin .add (.c (.int .u8 48)) (.t 57)),.j 59 (.mkisl 1 [(.c (.int .u8 92)),(.t 51),(.t 55),(.t 58)]),.j 60 (.app 850060 1 (.t 48) (.t 59)),.m 3 60]]) (.ops [[.m 16 3,.m 17 5,.j 18 (.mkisl 1 [(.t 17)]),.j 19 (.app 850019 1 (.t 16) (.t 18)),.m 3 19]])))))))))))) (.ops [[.m 11 4,.b 12 .add 11 1,.m 4 12]]))
def A5Y:AC:=A4U
theorem A8O:A5Y=A4U:=rfl
@[go_sem] def A7u:AC:= .seq (.ops [[.j 2 (.mov (.c (.str [])))]]) (.seq (.ops [[.j 6 (.mkrow 850006 1 [(.c (.int .u8 34))]),.m 3 6]]) (.seq (.seq (.ops [[.n 4 0]]) (.block 0 (.loop A5Y))) (.seq (.ops [[.m 61 3,.j 62 (.mkisl 1 [(.c (.int .u8 34))]),.j 63 (.app 850063 1 (.t 61) (.t 62)),.j 64 (.bst (.t 63)),.m 2 64]]) .ret)))
theorem A5Z:B3 Tryz.prog 85=some (65,A7u,[.t 2]):=by kernel_rfl
@[go_sem] def A6i:AC:= .seq (.ops [[.j 1 (.boxi 2 (.t 0)),.j 2 (.mov (.c (.str [])))]]) (.seq (.seq (.ops [[.j 3 (.loadi 2 true (.t 1)),.c 4 99 3,.j 5 (.un .not (.t 4))]]) (.cond (.t 5) (.seq (.ops [[.j 2 (.mov (.c (.str [110,97,110])))]]) .ret) .skip)) (.seq (.seq (.ops [[.a 6 1 1,.j 7 (.loadi 1 false (.t 6)),.b 8 .eql 7 1]]) (.cond (.t 8) (.seq (.ops [[.a 9 0 1,.j 10 (.loadi 1 false (.t 9)),.c 11 50 10,.m 2 11]]) .ret) .skip)) (.seq (.ops [[.a 12 0 1,.j 13 (.loadi 1 false (.t 12)),.a 16 1 1,.j 17 (.loadi 1 false (.t 16)),.c 14 50 13,.j 15 (.bin .add (.t 14) (.c (.str [47]))),.c 18 50 17,.h 19 .add 15 18,.m 2 19]]) .ret)))
theorem A4Y:B3 Tryz.prog 89=some (20,A6i,[.t 2]):=by kernel_rfl
@[go_sem] def A5e:AC:= .seq (.ops [[.b 28 .lss 27 4]]) (.seq (.cond (.t 28) .skip (.exit 0)) (.seq (.block 1 (.seq (.ops [[.m 29 27,.j 30 (.idxA 4 1 1 false (.t 26) (.t 27)),.m 8 29,.m 9 30]]) (.seq (.ops [[.m 31 9,.b 32 .neq 31 0]]) (.cond (.t 32) (.ops [[.m 33 5,.m 34 8,.j 35 (.iaddrA 4 1 (.t 7) (.t 34)),.l 36 35,.c 37 50 36,.j 38 (.bin .add (.c (.str [32])) (.t 37)),.h 39 .add 33 38,.m 5 39]]) .skip)))) (.ops [[.b 40 .add 27 1,.m 27 40]])))
def A6l:AC:=A5e
theorem A8U:A6l=A5e:=rfl
@[go_sem] def A7x:AC:= .seq (.ops [[.j 1 (.box 900001 5 (.t 0)),.j 2 (.mov (.c (.str [])))]]) (.seq (.ops [[.a 11 0 1,.l 12 11,.c 13 100 12,.m 10 13,.x 14 0 10,.x 15 1 10,.j 3 (.box 900003 6 (.c (.agg [(.str []),(.int .i64 0),(.int .i64 0),(.int .i64 0),(.int .i64 0),(.int .i64 0)]))),.s 6 3 14,.m 4 15]]) (.seq (.seq (.ops [[.m 16 4,.j 17 (.un .not (.t 16))]]) (.cond (.t 17) (.seq (.ops [[.j 2 (.mov (.c (.str [])))]]) .ret) .skip)) (.seq (.ops [[.a 18 0 3,.l 19 18,.m 5 19]]) (.seq (.ops [[.w 21 6 3,.w 22 5 1,.j 23 (.call 101 [(.t 21),(.t 22)]),.m 20 23,.x 24 0 20,.x 25 1 20,.j 6 (.box 900006 4 (.c (.agg [(.int .i64 0),(.int .i64 0),(.int .i64 0),(.int .i64 0)]))),.j 7 (.box 900007 4 (.c (.agg [(.int .i64 0),(.int .i64 0),(.int .i64 0),(.int .i64 0)]))),.s 4 6 24,.s 4 7 25]]) (.seq (.seq (.ops [[.w 26 4 6,.n 27 0]]) (.block 0 (.loop A6l))) (.seq (.ops [[.m 41 5,.m 2 41]]) .ret))))))
theorem A6m:B3 Tryz.prog 90=some (42,A7x,[.t 2]):=by kernel_rfl
@[go_sem] def J5:AC:= .seq (.ops [[.h 9 .lss 8 7]]) (.seq (.cond (.t 9) .skip (.exit 0)) (.seq (.block 1 (.seq (.ops [[.m 10 8,.m 5 10]]) (.seq (.ops [[.m 11 1,.m 12 0,.m 13 5,.i 14 3 12 13,.w 15 3 14,.j 16 (.callv (.t 11) [(.t 15)])]]) (.cond (.t 16) (.seq (.ops [[.m 17 5,.m 4 17]]) .ret) .skip)))) (.ops [[.b 18 .add 8 1,.m 8 18]])))
def J9:AC:=J5
theorem U2:J9=J5:=rfl
@[go_sem] def K9:AC:= .seq (.ops [[.n 4 0]]) (.seq (.seq (.ops [[.m 6 0,.r 7 0 6,.n 8 0]]) (.block 0 (.loop J9))) (.seq (.ops [[.n 4 (-1)]]) .ret))
theorem K0:B3 Tryz.prog 96=some (19,K9,[.t 4]):=by kernel_rfl
@[go_sem] def H8:AC:= .seq (.ops [[.h 9 .lss 8 7]]) (.seq (.cond (.t 9) .skip (.exit 0)) (.seq (.block 1 (.seq (.ops [[.m 10 8,.m 5 10]]) (.seq (.ops [[.m 11 1,.m 12 0,.m 13 5,.i 14 5 12 13,.w 15 5 14,.j 16 (.callv (.t 11) [(.t 15)])]]) (.cond (.t 16) (.seq (.ops [[.m 17 5,.m 4 17]]) .ret) .skip)))) (.ops [[.b 18 .add 8 1,.m 8 18]])))
def I7:AC:=H8
theorem T4:I7=H8:=rfl
@[go_sem] def J6:AC:= .seq (.ops [[.n 4 0]]) (.seq (.seq (.ops [[.m 6 0,.r 7 0 6,.n 8 0]]) (.block 0 (.loop I7))) (.seq (.ops [[.n 4 (-1)]]) .ret))
theorem I8:B3 Tryz.prog 97=some (19,J6,[.t 4]):=by kernel_rfl
@[go_sem] def R0:AC:= .seq (.ops [[.h 9 .lss 8 7]]) (.seq (.cond (.t 9) .skip (.exit 0)) (.seq (.block 1 (.seq (.ops [[.m 10 8,.m 5 10]]) (.seq (.ops [[.m 11 1,.m 12 0,.m 13 5,.i 14 1 12 13,.l 15 14,.j 16 (.callv (.t 11) [(.t 15)])]]) (.cond (.t 16) (.seq (.ops [[.m 17 5,.m 4 17]]) .ret) .skip)))) (.ops [[.b 18 .add 8 1,.m 8 18]])))
def R5:AC:=R0
theorem A0t:R5=R0:=rfl
@[go_sem] def T6:AC:= .seq (.ops [[.n 4 0]]) (.seq (.seq (.ops [[.m 6 0,.r 7 0 6,.n 8 0]]) (.block 0 (.loop R5))) (.seq (.ops [[.n 4 (-1)]]) .ret))
theorem R6:B3 Tryz.prog 98=some (19,T6,[.t 4]):=by kernel_rfl
@[go_sem] def A4k:AC:= .seq (.ops [[.j 1 (.box 990001 2 (.t 0)),.t 2 false]]) (.seq (.ops [[.a 3 1 1,.l 4 3,.b 5 .geq 4 1,.m 6 5,.k 7 6 true (.faddr 1 (.t 1)),.k 8 6 true (.load 1 false (.t 7)),.k 9 6 true (.bin .leq (.t 8) (.z 2147483647)),.j 10 (.pick (.t 6) (.t 9) (.c (.bool false))),.m 11 10,.k 12 11 true (.faddr 0 (.t 1)),.k 13 11 true (.load 1 false (.t 12)),.k 14 11 true (.bin .geq (.t 13) (.z (-2147483647))),.j 15 (.pick (.t 11) (.t 14) (.c (.bool false))),.m 16 15,.k 17 16 true (.faddr 0 (.t 1)),.k 18 16 true (.load 1 false (.t 17)),.k 19 16 true (.bin .leq (.t 18) (.z 2147483647)),.j 20 (.pick (.t 16) (.t 19) (.c (.bool false))),.m 21 20,.k 22 21 true (.faddr 0 (.t 1)),.k 23 21 true (.load 1 false (.t 22)),.k 24 21 true (.faddr 0 (.t 1)),.k 25 21 true (.load 1 false (.t 24)),.k 26 21 true (.un .neg (.t 25)),.k 27 21 true (.mm true [(.t 23),(.t 26)]),.k 28 21 true (.faddr 1 (.t 1)),.k 29 21 true (.load 1 false (.t 28)),.k 30 21 true (.call 112 [(.t 27),(.t 29)]),.k 31 21 true (.bin .eql (.t 30) (.z 1)),.j 32 (.pick (.t 21) (.t 31) (.c (.bool false))),.m 2 32]]) .ret)
theorem A3n:B3 Tryz.prog 99=some (33,A4k,[.t 2]):=by kernel_rfl
@[go_sem] def B0A:AC:= .seq (.ops [[.j 2 (.box 1000002 6 (.c (.agg [(.str []),(.int .i64 0),(.int .i64 0),(.int .i64 0),(.int .i64 0),(.int .i64 0)]))),.t 3 false]]) (.seq (.ops [[.j 6 (.call 113 [(.c (.str [109,111,118,101,32,99,111,110,115,116,32,110,105,108,32,98,111,111,108,32,117,112,103,101,116,32,117,112,115,101,116,32,103,108,111,98,97,108,32,115,101,116,103,108,111,98,32,103,101,116,32,115,101,116,32,115,101,108,102,32,117,110,97,114,121,32,98,105,110,97,114,121,32,106,117,109,112,32,116,101,115,116,32,99,97,108,108,32,116,97,105,108,32,114,101,116,117,114,110,32,118,97,114,97,114,103,32,116,97,98,108,101,32,97,112,112,101,110,100,32,99,108,111,115,117,114,101,32,112,114,101,112,32,108,111,111,112,32,105,116,101,114,32,110,101,120,116,32,99,108,111,115,101,32,109,97,114,107,32,115,116,97,116]))]),.m 4 6]]) (.seq (.seq (.ops [[.m 7 0,.b 8 .lss 7 1,.m 9 8,.k 10 9 false (.mov (.t 0)),.k 11 9 false (.mov (.t 4)),.k 12 9 false (.len 0 (.t 11)),.k 13 9 false (.bin .gtr (.t 10) (.t 12)),.j 14 (.pick (.t 9) (.c (.bool true)) (.t 13))]]) (.cond (.t 14) (.seq (.ops [[.j 15 (.build [(.str []),(.int .i64 0),(.int .i64 0),(.int .i64 0),(.int .i64 0),(.int .i64 0)] []),.s 6 2 15,.t 3 false]]) .ret) .skip)) (.seq (.ops [[.m 16 0,.c 17 114 16,.j 5 (.box 1000005 6 (.c (.agg [(.str []),(.int .i64 0),(.int .i64 0),(.int .i64 0),(.int .i64 0),(.int .i64 0)]))),.s 6 5 17]]) (.seq (.ops [[.m 18 4,.m 19 0,.b 20 .sub 19 1,.i 21 1 18 20,.l 22 21,.a 23 0 5,.s 1 23 22]]) (.seq (.ops [[.w 24 6 5,.s 6 2 24,.t 3 true]]) .ret)))))
theorem A8W:B3 Tryz.prog 100=some (25,B0A,[.c 2 6 true,.t 3]):=by kernel_rfl
@[go_sem] def A5g:AC:= .seq (.ops [[.j 2 (.box 1010002 6 (.t 0)),.j 3 (.box 1010003 5 (.t 1)),.j 4 (.box 1010004 4 (.c (.agg [(.int .i64 0),(.int .i64 0),(.int .i64 0),(.int .i64 0)]))),.j 5 (.box 1010005 4 (.c (.agg [(.int .i64 0),(.int .i64 0),(.int .i64 0),(.int .i64 0)])))]]) (.seq (.ops [[.a 6 1 2,.l 7 6,.a 8 2 2,.l 9 8,.a 10 3 2,.l 11 10,.a 12 4 2,.l 13 12,.j 14 (.build [(.int .i64 0),(.int .i64 0),(.int .i64 0),(.int .i64 0)] [(0,1,(.t 7)),(1,1,(.t 9)),(2,1,(.t 11)),(3,1,(.t 13))]),.a 15 1 3,.l 16 15,.a 17 2 3,.l 18 17,.a 19 3 3,.l 20 19,.a 21 4 3,.l 22 21,.j 23 (.build [(.int .i64 0),(.int .i64 0),(.int .i64 0),(.int .i64 0)] [(0,1,(.t 16)),(1,1,(.t 18)),(2,1,(.t 20)),(3,1,(.t 22))]),.s 4 4 14,.s 4 5 23],[.a 6 1 2,.l 7 6,.a 8 2 2,.l 9 8,.a 10 3 2,.l 11 10,.a 12 4 2,.l 13 12,.j 14 (.build [(.int .i64 0),(.int .i64 0),(.int .i64 0),(.int .i64 0)] [(0,1,(.t 7)),(1,1,(.t 9)),(2,1,(.t 11)),(3,1,(.t 13))]),.a 15 1 3,.l 16 15,.a 17 2 3,.l 18 17,.a 19 3 3,.l 20 19,.a 21 4 3,.s 4 4 14,.l 22 21,.j 23 (.build [(.int .i64 0),(.int .i64 0),(.int .i64 0),(.int .i64 0)] [(0,1,(.t 16)),(1,1,(.t 18)),(2,1,(.t 20)),(3,1,(.t 22))]),.s 4 5 23],[.a 6 1 2,.l 7 6,.a 8 2 2,.l 9 8,.a 10 3 2,.l 11 10,.a 12 4 2,.l 13 12,.j 14 (.build [(.int .i64 0),(.int .i64 0),(.int .i64 0),(.int .i64 0)] [(0,1,(.t 7)),(1,1,(.t 9)),(2,1,(.t 11)),(3,1,(.t 13))]),.a 15 1 3,.l 16 15,.a 17 2 3,.l 18 17,.a 19 3 3,.a 21 4 3,.l 22 21,.s 4 4 14,.l 20 19,.j 23 (.build [(.int .i64 0),(.int .i64 0),(.int .i64 0),(.int .i64 0)] [(0,1,(.t 16)),(1,1,(.t 18)),(2,1,(.t 20)),(3,1,(.t 22))]),.s 4 5 23],[.a 6 1 2,.l 7 6,.a 8 2 2,.l 9 8,.a 10 3 2,.l 11 10,.a 12 4 2,.l 13 12,.j 14 (.build [(.int .i64 0),(.int .i64 0),(.int .i64 0),(.int .i64 0)] [(0,1,(.t 7)),(1,1,(.t 9)),(2,1,(.t 11)),(3,1,(.t 13))]),.a 15 1 3,.l 16 15,.a 17 2 3,.l 18 17,.a 19 3 3,.a 21 4 3,.s 4 4 14,.l 20 19,.l 22 21,.j 23 (.build [(.int .i64 0),(.int .i64 0),(.int .i64 0),(.int .i64 0)] [(0,1,(.t 16)),(1,1,(.t 18)),(2,1,(.t 20)),(3,1,(.t 22))]),.s 4 5 23],[.a 6 1 2,.l 7 6,.a 8 2 2,.l 9 8,.a 10 3 2,.l 11 10,.a 12 4 2,.l 13 12,.j 14 (.build [(.int .i64 0),(.int .i64 0),(.int .i64 0),(.int .i64 0)] [(0,1,(.t 7)),(1,1,(.t 9)),(2,1,(.t 11)),(3,1,(.t 13))]),.a 15 1 3,.l 16 15,.a 17 2 3,.a 19 3 3,.l 20 19,.a 21 4 3,.l 22 21,.s 4 4 14,.l 18 17,.j 23 (.build [(.int .i64 0),(.int .i64 0),(.int .i64 0),(.int .i64 0)] [(0,1,(.t 16)),(1,1,(.t 18)),(2,1,(.t 20)),(3,1,(.t 22))]),.s 4 5 23],[.a 6 1 2,.l 7 6,.a 8 2 2,.l 9 8,.a 10 3 2,.l 11 10,.a 12 4 2,.l 13 12,.j 14 (.build [(.int .i64 0),(.int .i64 0),(.int .i64 0),(.int .i64 0)] [(0,1,(.t 7)),(1,1,(.t 9)),(2,1,(.t 11)),(3,1,(.t 13))]),.a 15 1 3,.l 16 15,.a 17 2 3,.a 19 3 3,.l 20 19,.a 21 4 3,.s 4 4 14,.l 18 17,.l 22 21,.j 23 (.build [(.int .i64 0),(.int .i64 0),(.int .i64 0),(.int .i64 0)] [(0,1,(.t 16)),(1,1,(.t 18)),(2,1,(.t 20)),(3,1,(.t 22))]),.s 4 5 23],[.a 6 1 2,.l 7 6,.a 8 2 2,.l 9 8,.a 10 3 2,.l 11 10,.a 12 4 2,.l 13 12,.j 14 (.build [(.int .i64 0),(.int .i64 0),(.int .i64 0),(.int .i64 0)] [(0,1,(.t 7)),(1,1,(.t 9)),(2,1,(.t 11)),(3,1,(.t 13))]),.a 15 1 3,.l 16 15,.a 17 2 3,.a 19 3 3,.a 21 4 3,.l 22 21,.s 4 4 14,.l 18 17,.l 20 19,.j 23 (.build [(.int .i64 0),(.int .i64 0),(.int .i64 0),(.int .i64 0)] [(0,1,(.t 16)),(1,1,(.t 18)),(2,1,(.t 20)),(3,1,(.t 22))]),.s 4 5 23],[.a 6 1 2,.l 7 6,.a 8 2 2,.l 9 8,.a 10 3 2,.l 11 10,.a 12 4 2,.l 13 12,.j 14 (.build [(.int .i64 0),(.int .i64 0),(.int .i64 0),(.int .i64 0)] [(0,1,(.t 7)),(1,1,(.t 9)),(2,1,(.t 11)),(3,1,(.t 13))]),.a 15 1 3,.l 16 15,.a 17 2 3,.a 19 3 3,.a 21 4 3,.s 4 4 14,.l 18 17,.l 20 19,.l 22 21,.j 23 (.build [(.int .i64 0),(.int .i64 0),(.int .i64 0),(.int .i64 0)] [(0,1,(.t 16)),(1,1,(.t 18)),(2,1,(.t 20)),(3,1,(.t 22))]),.s 4 5 23],[.a 6 1 2,.l 7 6,.a 8 2 2,.l 9 8,.a 10 3 2,.l 11 10,.a 12 4 2,.l 13 12,.j 14 (.build [(.int .i64 0),(.int .i64 0),(.int .i64 0),(.int .i64 0)] [(0,1,(.t 7)),(1,1,(.t 9)),(2,1,(.t 11)),(3,1,(.t 13))]),.a 15 1 3,.a 17 2 3,.l 18 17,.a 19 3 3,.l 20 19,.a 21 4 3,.l 22 21,.s 4 4 14,.l 16 15,.j 23 (.build [(.int .i64 0),(.int .i64 0),(.int .i64 0),(.int .i64 0)] [(0,1,(.t 16)),(1,1,(.t 18)),(2,1,(.t 20)),(3,1,(.t 22))]),.s 4 5 23],[.a 6 1 2,.l 7 6,.a 8 2 2,.l 9 8,.a 10 3 2,.l 11 10,.a 12 4 2,.l 13 12,.j 14 (.build [(.int .i64 0),(.int .i64 0),(.int .i64 0),(.int .i64 0)] [(0,1,(.t 7)),(1,1,(.t 9)),(2,1,(.t 11)),(3,1,(.t 13))]),.a 15 1 3,.a 17 2 3,.l 18 17,.a 19 3 3,.l 20 19,.a 21 4 3,.s 4 4 14,.l 16 15,.l 22 21,.j 23 (.build [(.int .i64 0),(.int .i64 0),(.int .i64 0),(.int .i64 0)] [(0,1,(.t 16)),(1,1,(.t 18)),(2,1,(.t 20)),(3,1,(.t 22))]),.s 4 5 23],[.a 6 1 2,.l 7 6,.a 8 2 2,.l 9 8,.a 10 3 2,.l 11 10,.a 12 4 2,.l 13 12,.j 14 (.build [(.int .i64 0),(.int .i64 0),(.int .i64 0),(.int .i64 0)] [(0,1,(.t 7)),(1,1,(.t 9)),(2,1,(.t 11)),(3,1,(.t 13))]),.a 15 1 3,.a 17 2 3,.l 18 17,.a 19 3 3,.a 21 4 3,.l 22 21,.s 4 4 14,.l 16 15,.l 20 19,.j 23 (.build [(.int .i64 0),(.int .i64 0),(.int .i64 0),(.int .i64 0)] [(0,1,(.t 16)),(1,1,(.t 18)),(2,1,(.t 20)),(3,1,(.t 22))]),.s 4 5 23],[.a 6 1 2,.l 7 6,.a 8 2 2,.l 9 8,.a 10 3 2,.l 11 10,.a 12 4 2,.l 13 12,.j 14 (.build [(.int .i64 0),(.int .i64 0),(.int .i64 0),(.int .i64 0)] [(0,1,(.t 7)),(1,1,(.t 9)),(2,1,(.t 11)),(3,1,(.t 13))]),.a 15 1 3,.a 17 2 3,.l 18 17,.a 19 3 3,.a 21 4 3,.s 4 4 14,.l 16 15,.l 20 19,.l 22 21,.j 23 (.build [(.int .i64 0),(.int .i64 0),(.int .i64 0),(.int .i64 0)] [(0,1,(.t 16)),(1,1,(.t 18)),(2,1,(.t 20)),(3,1,(.t 22))]),.s 4 5 23],[.a 6 1 2,.l 7 6,.a 8 2 2,.l 9 8,.a 10 3 2,.l 11 10,.a 12 4 2,.l 13 12,.j 14 (.build [(.int .i64 0),(.int .i64 0),(.int .i64 0),(.int .i64 0)] [(0,1,(.t 7)),(1,1,(.t 9)),(2,1,(.t 11)),(3,1,(.t 13))]),.a 15 1 3,.a 17 2 3,.a 19 3 3,.l 20 19,.a 21 4 3,.l 22 21,.s 4 4 14,.l 16 15,.l 18 17,.j 23 (.build [(.int .i64 0),(.int .i64 0),(.int .i64 0),(.int .i64 0)] [(0,1,(.t 16)),(1,1,(.t 18)),(2,1,(.t 20)),(3,1,(.t 22))]),.s 4 5 23],[.a 6 1 2,.l 7 6,.a 8 2 2,.l 9 8,.a 10 3 2,.l 11 10,.a 12 4 2,.l 13 12,.j 14 (.build [(.int .i64 0),(.int .i64 0),(.int .i64 0),(.int .i64 0)] [(0,1,(.t 7)),(1,1,(.t 9)),(2,1,(.t 11)),(3,1,(.t 13))]),.a 15 1 3,.a 17 2 3,.a 19 3 3,.l 20 19,.a 21 4 3,.s 4 4 14,.l 16 15,.l 18 17,.l 22 21,.j 23 (.build [(.int .i64 0),(.int .i64 0),(.int .i64 0),(.int .i64 0)] [(0,1,(.t 16)),(1,1,(.t 18)),(2,1,(.t 20)),(3,1,(.t 22))]),.s 4 5 23],[.a 6 1 2,.l 7 6,.a 8 2 2,.l 9 8,.a 10 3 2,.l 11 10,.a 12 4 2,.l 13 12,.j 14 (.build [(.int .i64 0),(.int .i64 0),(.int .i64 0),(.int .i64 0)] [(0,1,(.t 7)),(1,1,(.t 9)),(2,1,(.t 11)),(3,1,(.t 13))]),.a 15 1 3,.a 17 2 3,.a 19 3 3,.a 21 4 3,.l 22 21,.s 4 4 14,.l 16 15,.l 18 17,.l 20 19,.j 23 (.build [(.int .i64 0),(.int .i64 0),(.int .i64 0),(.int .i64 0)] [(0,1,(.t 16)),(1,1,(.t 18)),(2,1,(.t 20)),(3,1,(.t 22))]),.s 4 5 23],[.a 6 1 2,.l 7 6,.a 8 2 2,.l 9 8,.a 10 3 2,.l 11 10,.a 12 4 2,.l 13 12,.j 14 (.build [(.int .i64 0),(.int .i64 0),(.int .i64 0),(.int .i64 0)] [(0,1,(.t 7)),(1,1,(.t 9)),(2,1,(.t 11)),(3,1,(.t 13))]),.a 15 1 3,.a 17 2 3,.a 19 3 3,.a 21 4 3,.s 4 4 14,.l 16 15,.l 18 17,.l 20 19,.l 22 21,.j 23 (.build [(.int .i64 0),(.int .i64 0),(.int .i64 0),(.int .i64 0)] [(0,1,(.t 16)),(1,1,(.t 18)),(2,1,(.t 20)),(3,1,(.t 22))]),.s 4 5 23]]) .ret)
theorem A3V:B3 Tryz.prog 101=some (24,A5g,[.c 4 4 true,.c 5 4 true]):=by kernel_rfl
@[go_sem] def A3U:AC:= .seq (.ops [[.n 2 0,.n 3 0]]) (.seq (.seq (.ops [[.m 4 0]]) (.block 0 (.seq (.ops [[.b 6 .eql 4 1,.m 5 6]]) (.cond (.t 5) (.seq (.ops [[.n 2 0,.n 3 4095]]) .ret) (.seq (.ops [[.b 8 .eql 4 2,.m 7 8]]) (.cond (.t 7) (.seq (.ops [[.n 2 0,.n 3 4095]]) .ret) (.seq (.ops [[.b 10 .eql 4 3,.m 9 10]]) (.cond (.t 9) (.seq (.ops [[.n 2 0,.n 3 59]]) .ret) (.seq (.ops [[.b 12 .eql 4 4,.m 11 12]]) (.cond (.t 11) (.seq (.ops [[.n 2 0,.n 3 1023]]) .ret) (.seq (.ops [[.b 14 .eql 4 5,.m 13 14]]) (.cond (.t 13) (.seq (.ops [[.n 2 0,.n 3 16383]]) .ret) (.seq (.ops [[.b 16 .eql 4 6,.m 15 16]]) (.cond (.t 15) (.seq (.ops [[.n 2 (-1),.n 3 200]]) .ret) (.seq (.ops [[.b 18 .eql 4 7,.m 17 18]]) (.cond (.t 17) (.seq (.ops [[.n 2 (-1),.n 3 4096]]) .ret) (.seq (.ops [[.b 20 .eql 4 8,.m 19 20]]) (.cond (.t 19) (.seq (.ops [[.n 2 0,.n 3 1]]) .ret) (.seq (.ops [[.b 22 .eql 4 9,.m 21 22]]) (.cond (.t 21) (.seq (.ops [[.n 2 20,.n 3 23]]) .ret) (.seq (.ops [[.b 24 .eql 4 10,.m 23 24]]) (.cond (.t 23) (.seq (.ops [[.n 2 1,.n 3 19]]) .ret) (.seq (.ops [[.b 26 .eql 4 11,.m 25 26]]) (.cond (.t 25) (.seq (.ops [[.n 2 1,.n 3 200]]) .ret) (.seq (.ops [[.b 28 .eql 4 12,.m 27 28]]) (.cond (.t 27) (.seq (.ops [[.n 2 1,.n 3 32767]]) .ret) .skip)))))))))))))))))))))))))) (.seq (.ops [[.n 2 0,.n 3 0]]) .ret))
theorem A8V:B3 Tryz.prog 102=some (29,A3U,[.t 2,.t 3]):=by kernel_rfl
@[go_sem] def A7y:AC:= .seq (.ops [[.j 2 (.box 1030002 6 (.t 0)),.j 3 (.box 1030003 5 (.t 1)),.n 4 0]]) (.seq (.ops [[.a 6 1 3,.l 7 6,.a 8 5 2,.l 9 8,.h 10 .add 7 9,.m 5 10]]) (.seq (.seq (.ops [[.a 11 0 3,.l 12 11]]) (.block 0 (.seq (.ops [[.b 14 .eql 12 16,.m 13 14]]) (.cond (.t 13) (.ops [[.a 15 1 3,.l 16 15,.a 17 2 3,.l 18 17,.h 19 .add 16 18,.a 20 1 3,.l 21 20,.a 22 3 3,.l 23 22,.h 24 .add 21 23,.b 25 .sub 24 1,.j 26 (.mm true [(.t 19),(.t 25)]),.m 5 26]]) (.seq (.seq (.ops [[.b 28 .eql 12 17,.m 27 28]]) (.cond (.t 27) .skip (.ops [[.b 29 .eql 12 21,.m 27 29]]))) (.cond (.t 27) (.ops [[.a 30 1 3,.l 31 30,.a 32 2 3,.l 33 32,.h 34 .add 31 33,.m 5 34]]) (.seq (.seq (.ops [[.b 36 .eql 12 18,.m 35 36]]) (.cond (.t 35) .skip (.ops [[.b 37 .eql 12 19,.m 35 37]]))) (.cond (.t 35) (.ops [[.a 38 1 3,.l 39 38,.a 40 2 3,.l 41 40,.h 42 .add 39 41,.b 43 .sub 42 1,.m 5 43]]) (.seq (.ops [[.b 45 .eql 12 25,.m 44 45]]) (.cond (.t 44) (.ops [[.a 46 1 3,.l 47 46,.b 48 .add 47 2,.a 49 3 3,.l 50 49,.h 51 .add 48 50,.m 5 51]]) .skip)))))))))) (.seq (.ops [[.m 52 5,.m 4 52]]) .ret)))
theorem A6n:B3 Tryz.prog 103=some (53,A7y,[.t 4]):=by kernel_rfl
@[go_sem] def A5h:AC:= .seq (.ops [[.j 2 (.mov (.c .nils))]]) (.seq (.ops [[.m 3 0,.c 4 115 3]]) (.seq (.ops [[.m 5 0,.c 6 116 5,.m 2 6]]) .ret))
theorem A3W:B3 Tryz.prog 104=some (7,A5h,[.t 2]):=by kernel_rfl
@[go_sem] def A5i:AC:= .seq (.ops [[.h 13 .lss 12 11]]) (.seq (.cond (.t 13) .skip (.exit 0)) (.seq (.block 1 (.seq (.ops [[.m 14 12,.m 7 14]]) (.ops [[.m 15 6,.m 16 0,.m 17 7,.h 18 .add 16 17,.j 19 (.mkisl 1 [(.t 18)]),.j 20 (.app 1050020 1 (.t 15) (.t 19)),.m 6 20]]))) (.ops [[.b 21 .add 12 1,.m 12 21]])))
def A6p:AC:=A5i
theorem A8X:A6p=A5i:=rfl
@[go_sem] def A7z:AC:= .seq (.ops [[.j 4 (.mov (.c .nils)),.n 5 0]]) (.seq (.seq (.ops [[.m 8 1,.b 9 .lss 8 0]]) (.cond (.t 9) (.seq (.ops [[.m 10 0,.j 4 (.mov (.c .nils)),.m 5 10]]) .ret) .skip)) (.seq (.ops [[.j 6 (.mov (.c .nils))]]) (.seq (.seq (.ops [[.m 11 1,.n 12 0]]) (.block 0 (.loop A6p))) (.seq (.ops [[.m 22 6,.m 4 22,.n 5 (-1)]]) .ret))))
theorem A6q:B3 Tryz.prog 105=some (23,A7z,[.t 4,.t 5]):=by kernel_rfl
@[go_sem] def A4j:AC:= .seq (.ops [[.t 3 false]]) (.seq (.ops [[.m 4 0,.a 5 4 1,.l 6 5,.h 7 .geq 4 6,.m 3 7]]) .ret)
theorem A3m:B3 Tryz.prog 106=some (8,A4j,[.t 3]):=by kernel_rfl
@[go_sem] def A3Z:AC:= .seq (.ops [[.j 1 (.box 1070001 5 (.t 0)),.n 2 0,.t 3 false]]) (.seq (.seq (.ops [[.a 4 0 1,.l 5 4]]) (.block 0 (.seq (.ops [[.b 7 .eql 5 2,.m 6 7]]) (.cond (.t 6) (.seq (.ops [[.a 8 2 1,.l 9 8,.m 2 9,.t 3 false]]) .ret) (.seq (.ops [[.b 11 .eql 5 7,.m 10 11]]) (.cond (.t 10) (.seq (.ops [[.a 12 2 1,.l 13 12,.m 2 13,.t 3 true]]) .ret) (.seq (.ops [[.b 15 .eql 5 8,.m 14 15]]) (.cond (.t 14) (.seq (.ops [[.a 16 1 1,.l 17 16,.m 2 17,.t 3 true]]) .ret) (.seq (.ops [[.b 19 .eql 5 11,.m 18 19]]) (.cond (.t 18) (.seq (.ops [[.a 20 3 1,.l 21 20,.m 2 21,.t 3 true]]) .ret) .skip)))))))))) (.seq (.ops [[.n 2 (-1),.t 3 false]]) .ret))
theorem A3i:B3 Tryz.prog 107=some (22,A3Z,[.t 2,.t 3]):=by kernel_rfl
@[go_sem] def A1K:AC:= .seq (.ops [[.j 4 (.mov (.c .nils))]]) (.seq (.seq (.ops [[.m 6 1,.m 7 0,.y 8 7,.a 9 0 8,.l 10 9,.r 11 0 10,.h 12 .gtr 6 11]]) (.cond (.t 12) (.ops [[.m 13 0,.j 14 (.callp 46 [(.t 13),(.z 5)])]]) .skip)) (.seq (.ops [[.m 15 0,.y 16 15,.a 17 0 16,.l 18 17,.m 19 1,.j 20 (.slc 1 (.t 18) none (some (.t 19))),.m 5 20]]) (.seq (.ops [[.m 21 0,.m 22 0,.y 23 22,.a 24 0 23,.l 25 24,.m 26 1,.j 27 (.slc 1 (.t 25) (some (.t 26)) none),.y 28 21,.a 29 0 28,.s 1 29 27]]) (.seq (.ops [[.m 30 5,.m 4 30]]) .ret))))
theorem A0Y:B3 Tryz.prog 108=some (31,A1K,[.t 4]):=by kernel_rfl
@[go_sem] def A4l:AC:= .seq (.seq (.ops [[.m 5 1,.b 6 .neq 5 0]]) (.cond (.t 6) .skip (.exit 0))) (.block 1 (.ops [[.m 7 1,.m 8 0,.m 9 1,.h 10 .rem 8 9,.m 0 7,.m 1 10]]))
def A5w:AC:=A4l
theorem A8h:A5w=A4l:=rfl
@[go_sem] def A6H:AC:= .seq (.ops [[.n 4 0]]) (.seq (.block 0 (.loop A5w)) (.seq (.ops [[.m 11 0,.m 4 11]]) .ret))
theorem A5x:B3 Tryz.prog 112=some (12,A6H,[.t 4]):=by kernel_rfl
@[go_sem] def A8l:AC:= .seq (.seq (.ops [[.m 13 6,.m 14 0,.r 15 1 14,.h 16 .lss 13 15]]) (.cond (.t 16) .skip (.exit 0))) (.seq (.block 1 (.seq (.ops [[.m 19 0,.m 20 6,.j 21 (.idx (.t 19) (.t 20)),.m 7 21]]) (.seq (.ops [[.m 22 5,.m 23 7,.h 24 .or 22 23,.m 5 24]]) (.seq (.ops [[.m 25 7,.j 26 (.iaddrA 256 1 (.g 1) (.t 25)),.l 27 26,.j 28 (.conv .i64 (.t 27)),.m 8 28]]) (.seq (.ops [[.m 29 3,.m 30 4,.m 31 8,.j 32 (.un .xor (.t 31)),.h 33 .and 30 32,.h 34 .add 29 33,.m 3 34]]) (.ops [[.m 35 8,.m 4 35]])))))) (.ops [[.m 17 6,.b 18 .add 17 1,.m 6 18]]))
def A9t:AC:=A8l
@[go_sem] def A8m:AC:= .seq (.seq (.ops [[.m 42 12,.m 43 0,.r 44 1 43,.h 45 .lss 42 44,.m 46 45,.k 47 46 true (.mov (.t 0)),.k 48 46 true (.mov (.t 12)),.k 49 46 true (.idx (.t 47) (.t 48)),.k 50 46 true (.iaddrA 256 1 (.g 1) (.t 49)),.k 51 46 true (.load 1 false (.t 50)),.k 52 46 true (.bin .neq (.t 51) (.c (.int .u8 0))),.j 53 (.pick (.t 46) (.t 52) (.c (.bool false)))]]) (.cond (.t 53) .skip (.exit 2))) (.block 3 (.ops [[.m 54 12,.b 55 .add 54 1,.m 12 55]]))
def A9u:AC:=A8m
@[go_sem] def A8o:AC:= .seq (.seq (.ops [[.m 80 12,.m 81 0,.r 82 1 81,.h 83 .lss 80 82,.m 84 83,.k 85 84 true (.mov (.t 0)),.k 86 84 true (.mov (.t 12)),.k 87 84 true (.idx (.t 85) (.t 86)),.k 88 84 true (.iaddrA 256 1 (.g 1) (.t 87)),.k 89 84 true (.load 1 false (.t 88)),.k 90 84 true (.bin .neq (.t 89) (.c (.int .u8 0))),.j 91 (.pick (.t 84) (.t 90) (.c (.bool false)))]]) (.cond (.t 91) .skip (.exit 6))) (.block 7 (.ops [[.m 92 12,.b 93 .add 92 1,.m 12 93]]))
def A9w:AC:=A8o
@[go_sem] def A8n:AC:= .seq (.seq (.ops [[.m 57 12,.m 58 0,.r 59 1 58,.h 60 .lss 57 59]]) (.cond (.t 60) .skip (.exit 4))) (.block 5 (.seq (.seq (.ops [[.m 61 0,.m 62 12,.j 63 (.idx (.t 61) (.t 62)),.j 64 (.iaddrA 256 1 (.g 1) (.t 63)),.l 65 64,.j 66 (.bin .eql (.t 65) (.c (.int .u8 0)))]]) (.cond (.t 66) (.seq (.ops [[.m 67 12,.b 68 .add 67 1,.m 12 68]]) (.exit 5)) .skip)) (.seq (.ops [[.m 69 9,.m 70 10,.m 71 0,.m 72 11,.m 73 12,.j 74 (.sls (.t 71) (some (.t 72)) (some (.t 73))),.i 75 1 69 70,.s 1 75 74]]) (.seq (.ops [[.m 76 10,.b 77 .add 76 1,.m 10 77]]) (.seq (.ops [[.m 78 12,.b 79 .add 78 1,.m 12 79]]) (.seq (.block 6 (.loop A9w)) (.ops [[.m 94 12,.m 11 94]])))))))
def A9v:AC:=A8n
@[go_sem] def A4s:AC:= .seq (.ops [[.j 2 (.mov (.c .nils))]]) (.seq (.ops [[.n 3 0]]) (.seq (.ops [[.n 4 1]]) (.seq (.ops [[.j 5 (.mov (.c (.int .u8 0)))]]) (.seq (.seq (.ops [[.n 6 0]]) (.block 0 (.loop A9t))) (.seq (.seq (.ops [[.m 36 5,.j 37 (.bin .geq (.t 36) (.c (.int .u8 128)))]]) (.cond (.t 37) (.seq (.ops [[.m 38 0,.j 39 (.call 121 [(.t 38),(.f 122)]),.m 2 39]]) .ret) .skip)) (.seq (.ops [[.m 40 3,.j 41 (.mksl 1130041 [(.str [])] (.t 40)),.m 9 41]]) (.seq (.ops [[.n 10 0]]) (.seq (.ops [[.n 11 0]]) (.seq (.ops [[.n 12 0]]) (.seq (.block 2 (.loop A9u)) (.seq (.ops [[.m 56 12,.m 11 56]]) (.seq (.block 4 (.loop A9v)) (.seq (.seq (.ops [[.m 95 11,.m 96 0,.r 97 1 96,.h 98 .lss 95 97]]) (.cond (.t 98) (.ops [[.m 99 9,.m 100 10,.m 101 0,.m 102 11,.j 103 (.sls (.t 101) (some (.t 102)) none),.i 104 1 99 100,.s 1 104 103]]) .skip)) (.seq (.ops [[.m 105 9,.m 2 105]]) .ret))))))))))))))
theorem A9x:B3 Tryz.prog 113=some (106,A4s,[.t 2]):=by kernel_rfl
@[go_sem] def A6o:AC:= .seq (.ops [[.j 2 (.box 1140002 6 (.c (.agg [(.str []),(.int .i64 0),(.int .i64 0),(.int .i64 0),(.int .i64 0),(.int .i64 0)])))]]) (.seq (.seq (.ops [[.m 3 0]]) (.block 0 (.seq (.ops [[.b 5 .eql 3 1,.m 4 5]]) (.cond (.t 4) (.seq (.ops [[.j 6 (.build [(.str []),(.int .i64 0),(.int .i64 0),(.int .i64 0),(.int .i64 0),(.int .i64 0)] [(1,1,(.z 1)),(2,1,(.z 1))]),.s 6 2 6]]) .ret) (.seq (.seq (.ops [[.b 8 .eql 3 2,.m 7 8]]) (.cond (.t 7) .skip (.ops [[.b 9 .eql 3 7,.m 7 9]]))) (.cond (.t 7) (.seq (.ops [[.j 10 (.build [(.str []),(.int .i64 0),(.int .i64 0),(.int .i64 0),(.int .i64 0),(.int .i64 0)] [(1,1,(.z 1)),(2,1,(.z 2))]),.s 6 2 10]]) .ret) (.seq (.ops [[.b 12 .eql 3 3,.m 11 12]]) (.cond (.t 11) (.seq (.ops [[.j 13 (.build [(.str []),(.int .i64 0),(.int .i64 0),(.int .i64 0),(.int .i64 0),(.int .i64 0)] [(1,1,(.z 1)),(2,1,(.z 1))]),.s 6 2 13]]) .ret) (.seq (.ops [[.b 15 .eql 3 4,.m 14 15]]) (.cond (.t 14) (.seq (.ops [[.j 16 (.build [(.str []),(.int .i64 0),(.int .i64 0),(.int .i64 0),(.int .i64 0),(.int .i64 0)] [(1,1,(.z 1)),(2,1,(.z 8))]),.s 6 2 16]]) .ret) (.seq (.ops [[.b 18 .eql 3 5,.m 17 18]]) (.cond (.t 17) (.seq (.ops [[.j 19 (.build [(.str []),(.int .i64 0),(.int .i64 0),(.int .i64 0),(.int .i64 0),(.int .i64 0)] [(1,1,(.z 1)),(2,1,(.z 3))]),.s 6 2 19]]) .ret) (.seq (.ops [[.b 21 .eql 3 6,.m 20 21]]) (.cond (.t 20) (.seq (.ops [[.j 22 (.build [(.str []),(.int .i64 0),(.int .i64 0),(.int .i64 0),(.int .i64 0),(.int .i64 0)] [(1,1,(.z 3)),(2,1,(.z 1))]),.s 6 2 22]]) .ret) (.seq (.ops [[.b 24 .eql 3 8,.m 23 24]]) (.cond (.t 23) (.seq (.ops [[.j 25 (.build [(.str []),(.int .i64 0),(.int .i64 0),(.int .i64 0),(.int .i64 0),(.int .i64 0)] [(1,1,(.z 2)),(2,1,(.z 1))]),.s 6 2 25]]) .ret) (.seq (.seq (.ops [[.b 27 .eql 3 9,.m 26 27]]) (.cond (.t 26) .skip (.ops [[.b 28 .eql 3 10,.m 26 28]]))) (.cond (.t 26) (.seq (.ops [[.j 29 (.build [(.str []),(.int .i64 0),(.int .i64 0),(.int .i64 0),(.int .i64 0),(.int .i64 0)] [(1,1,(.z 1)),(2,1,(.z 1)),(3,1,(.z 1))]),.s 6 2 29]]) .ret) (.seq (.ops [[.b 31 .eql 3 11,.m 30 31]]) (.cond (.t 30) (.seq (.ops [[.j 32 (.build [(.str []),(.int .i64 0),(.int .i64 0),(.int .i64 0),(.int .i64 0),(.int .i64 0)] [(1,1,(.z 1)),(2,1,(.z 1)),(3,1,(.z 2)),(5,1,(.z 1))]),.s 6 2 32]]) .ret) (.seq (.ops [[.b 34 .eql 3 12,.m 33 34]]) (.cond (.t 33) (.seq (.ops [[.j 35 (.build [(.str []),(.int .i64 0),(.int .i64 0),(.int .i64 0),(.int .i64 0),(.int .i64 0)] [(1,1,(.z 1)),(2,1,(.z 1)),(3,1,(.z 9))]),.s 6 2 35]]) .ret) (.seq (.ops [[.b 37 .eql 3 13,.m 36 37]]) (.cond (.t 36) (.seq (.ops [[.j 38 (.build [(.str []),(.int .i64 0),(.int .i64 0),(.int .i64 0),(.int .i64 0),(.int .i64 0)] [(1,1,(.z 1)),(2,1,(.z 1)),(3,1,(.z 1)),(4,1,(.z 10))]),.s 6 2 38]]) .ret) (.seq (.ops [[.b 40 .eql 3 14,.m 39 40]]) (.cond (.t 39) (.seq (.ops [[.j 41 (.build [(.str []),(.int .i64 0),(.int .i64 0),(.int .i64 0),(.int .i64 0),(.int .i64 0)] [(2,1,(.z 5))]),.s 6 2 41]]) .ret) (.seq (.ops [[.b 43 .eql 3 15,.m 42 43]]) (.cond (.t 42) (.seq (.ops [[.j 44 (.build [(.str []),(.int .i64 0),(.int .i64 0),(.int .i64 0),(.int .i64 0),(.int .i64 0)] [(1,1,(.z 1)),(2,1,(.z 5)),(3,1,(.z 8))]),.s 6 2 44]]) .ret) (.seq (.ops [[.b 46 .eql 3 16,.m 45 46]]) (.cond (.t 45) (.seq (.ops [[.j 47 (.build [(.str []),(.int .i64 0),(.int .i64 0),(.int .i64 0),(.int .i64 0),(.int .i64 0)] [(1,1,(.z 1)),(2,1,(.z 7)),(3,1,(.z 6))]),.s 6 2 47]]) .ret) (.seq (.seq (.ops [[.b 49 .eql 3 17,.m 48 49]]) (.cond (.t 48) .skip (.ops [[.b 50 .eql 3 18,.m 48 50]]))) (.cond (.t 48) (.seq (.ops [[.j 51 (.build [(.str []),(.int .i64 0),(.int .i64 0),(.int .i64 0),(.int .i64 0),(.int .i64 0)] [(1,1,(.z 1)),(2,1,(.z 7))]),.s 6 2 51]]) .ret) (.seq (.ops [[.b 53 .eql 3 19,.m 52 53]]) (.cond (.t 52) (.seq (.ops [[.j 54 (.build [(.str []),(.int .i64 0),(.int .i64 0),(.int .i64 0),(.int .i64 0),(.int .i64 0)] [(1,1,(.z 1)),(2,1,(.z 6))]),.s 6 2 54]]) .ret) (.seq (.ops [[.b 56 .eql 3 21,.m 55 56]]) (.cond (.t 55) (.seq (.ops [[.j 57 (.build [(.str []),(.int .i64 0),(.int .i64 0),(.int .i64 0),(.int .i64 0),(.int .i64 0)] [(1,1,(.z 1)),(2,1,(.z 7)),(3,1,(.z 12))]),.s 6 2 57]]) .ret) (.seq (.ops [[.b 59 .eql 3 22,.m 58 59]]) (.cond (.t 58) (.seq (.ops [[.j 60 (.build [(.str []),(.int .i64 0),(.int .i64 0),(.int .i64 0),(.int .i64 0),(.int .i64 0)] [(1,1,(.z 1)),(2,1,(.z 4))]),.s 6 2 60]]) .ret) (.seq (.seq (.ops [[.b 62 .eql 3 23,.m 61 62]]) (.cond (.t 61) .skip (.seq (.ops [[.b 63 .eql 3 24,.m 61 63]]) (.cond (.t 61) .skip (.ops [[.b 64 .eql 3 26,.m 61 64]]))))) (.cond (.t 61) (.seq (.ops [[.j 65 (.build [(.str []),(.int .i64 0),(.int .i64 0),(.int .i64 0),(.int .i64 0),(.int .i64 0)] [(1,1,(.z 1)),(2,1,(.z 5)),(5,1,(.z 3))]),.s 6 2 65]]) .ret) (.seq (.ops [[.b 67 .eql 3 25,.m 66 67]]) (.cond (.t 66) (.seq (.ops [[.j 68 (.build [(.str []),(.int .i64 0),(.int .i64 0),(.int .i64 0),(.int .i64 0),(.int .i64 0)] [(1,1,(.z 1)),(3,1,(.z 11)),(5,1,(.z 3))]),.s 6 2 68]]) .ret) (.seq (.seq (.ops [[.b 70 .eql 3 20,.m 69 70]]) (.cond (.t 69) .skip (.seq (.ops [[.b 71 .eql 3 27,.m 69 71]]) (.cond (.t 69) .skip (.ops [[.b 72 .eql 3 28,.m 69 72]]))))) (.cond (.t 69) (.seq (.ops [[.j 73 (.build [(.str []),(.int .i64 0),(.int .i64 0),(.int .i64 0),(.int .i64 0),(.int .i64 0)] [(1,1,(.z 1))]),.s 6 2 73]]) .ret) .skip)))))))))))))))))))))))))))))))))))))))))))) (.seq (.ops [[.j 74 (.build [(.str []),(.int .i64 0),(.int .i64 0),(.int .i64 0),(.int .i64 0),(.int .i64 0)] [(1,1,(.z 8))]),.s 6 2 74]]) .ret))
theorem B0N:B3 Tryz.prog 114=some (75,A6o,[.c 2 6 true]):=by kernel_rfl
@[go_sem] def A0n:AC:= .seq (.ops [[.m 3 0,.r 4 0 3,.m 2 4]]) (.ops [[.m 5 0,.m 6 2,.m 7 2,.j 8 (.conv .u64 (.t 7)),.c 9 124 8,.j 10 (.call 123 [(.t 5),(.z 0),(.t 6),(.t 9)])]])
theorem A4O:B3 Tryz.prog 115=some (11,A0n,[]):=by kernel_rfl
@[go_sem] def A2x:AC:= .seq (.seq (.ops [[.m 29 5,.m 30 4,.r 31 0 30,.h 32 .lss 29 31]]) (.cond (.t 32) .skip (.exit 2))) (.seq (.block 3 (.seq (.ops [[.m 35 4,.m 36 5,.i 37 1 35 36,.l 38 37,.m 39 4,.m 40 5,.b 41 .sub 40 1,.i 42 1 39 41,.l 43 42,.h 44 .neq 38 43]]) (.cond (.t 44) (.seq (.ops [[.m 45 0,.m 46 3,.m 47 4,.m 48 5,.i 49 1 47 48,.l 50 49,.i 51 1 45 46,.s 1 51 50]]) (.ops [[.m 52 3,.b 53 .add 52 1,.m 3 53]])) .skip))) (.ops [[.m 33 5,.b 34 .add 33 1,.m 5 34]]))
def A2O:AC:=A2x
@[go_sem] def A2w:AC:= .seq (.seq (.ops [[.m 10 3,.m 11 0,.r 12 0 11,.h 13 .lss 10 12]]) (.cond (.t 13) .skip (.exit 0))) (.seq (.block 1 (.seq (.ops [[.m 16 0,.m 17 3,.i 18 1 16 17,.l 19 18,.m 20 0,.m 21 3,.b 22 .sub 21 1,.i 23 1 20 22,.l 24 23,.h 25 .eql 19 24]]) (.cond (.t 25) (.seq (.ops [[.m 26 0,.m 27 3,.j 28 (.slc 1 (.t 26) (some (.t 27)) none),.m 4 28]]) (.seq (.seq (.ops [[.n 5 1]]) (.block 2 (.loop A2O))) (.seq (.ops [[.m 54 0,.m 55 3,.j 56 (.slc 1 (.t 54) (some (.t 55)) none),.e (.clr [(.int .i64 0)] (.t 56))]]) (.seq (.ops [[.m 57 0,.m 58 3,.j 59 (.slc 1 (.t 57) none (some (.t 58))),.m 2 59]]) .ret)))) .skip))) (.ops [[.m 14 3,.b 15 .add 14 1,.m 3 15]]))
def A2N:AC:=A2w
@[go_sem] def W0:AC:= .seq (.ops [[.j 2 (.mov (.c .nils))]]) (.seq (.seq (.ops [[.m 6 0,.r 7 0 6,.b 8 .lss 7 2]]) (.cond (.t 8) (.seq (.ops [[.m 9 0,.m 2 9]]) .ret) .skip)) (.seq (.seq (.ops [[.n 3 1]]) (.block 0 (.loop A2N))) (.seq (.ops [[.m 60 0,.m 2 60]]) .ret)))
theorem A2P:B3 Tryz.prog 116=some (61,W0,[.t 2]):=by kernel_rfl
def exT:List (FuncId×Nat×AC×List RV):= [
 (3,76,M0,[.t 2]),
 (4,11,j4,[.t 2]),
 (5,78,i7,[.t 0]),
 (6,41,B1E,[.t 2,.t 3]),
 (7,16,A7A,[.c 2 1 false]),
 (8,71,B1D,[.c 2 11 true,.t 3]),
 (9,24,A6a,[.t 2,.t 3]),
 (10,80,A9d,[.t 4]),
 (11,33,A0f,[.t 4]),
 (12,6,j6,[.t 2]),
 (13,23,A0g,[.t 2]),
 (14,5,j5,[.c 0 11 true]),
 (15,19,B1F,[.t 2]),
 (16,181,f7,[]),
 (17,20,A7D,[.t 2]),
 (18,4,A9c,[.t 2]),
 (19,74,A6E,[.t 2]),
 (20,20,A7t,[.c 2 11 true,.c 3 1 false]),
 (21,8,A4W,[.t 6]),
 (22,19,P3,[.t 4,.t 5]),
 (24,17,R7,[.t 4]),
 (25,14,W2,[.t 2]),
 (26,26,J3,[.t 4]),
 (27,26,u7,[.t 4]),
 (28,26,J4,[.t 4]),
 (29,26,Q9,[.t 4]),
 (30,26,O5,[.t 4]),
 (31,32,D9,[.t 6]),
 (32,44,A0e,[.t 2]),
 (33,185,A0N,[.t 4]),
 (34,17,A2Y,[]),
 (35,23,A2X,[]),
 (36,23,A1c,[]),
 (37,43,A1d,[]),
 (38,7,A6u,[]),
 (39,23,A9g,[.t 4]),
 (40,42,A6v,[.c 2 11 true]),
 (41,53,A6C,[.t 2]),
 (42,118,A9f,[.t 2]),
 (43,60,A1o,[.t 4]),
 (44,19,A4T,[]),
 (45,119,f6,[.c 4 11 true]),
 (46,7,A1G,[]),
 (47,117,A3d,[]),
 (48,26,A2e,[.t 4]),
 (49,5,A6b,[.t 2]),
 (51,21,A6c,[.t 2]),
 (52,19,A3O,[.t 4]),
 (53,33,A3f,[.t 4]),
 (54,27,A2d,[.t 4]),
 (55,20,R8,[]),
 (59,8,A0o,[.t 2]),
 (60,8,J1,[.t 2]),
 (61,8,t8,[.t 2]),
 (62,8,J2,[.t 2]),
 (63,8,Q8,[.t 2]),
 (64,8,O2,[.t 2]),
 (65,6,A4d,[.t 2]),
 (66,9,I2,[.t 4]),
 (67,8,A4e,[.t 3]),
 (68,9,H0,[.t 4]),
 (69,8,A4f,[.t 3]),
 (70,9,P0,[.t 4]),
 (71,5,A6y,[.t 2]),
 (72,6,A6z,[.t 2]),
 (73,74,A7M,[.t 2]),
 (74,85,A6j,[.t 2]),
 (75,88,A6k,[.t 2,.t 3]),
 (76,92,A5f,[.t 2,.t 3]),
 (77,17,A6G,[.t 6]),
 (78,14,A5d,[.t 2,.t 3]),
 (79,63,A6D,[.t 4]),
 (80,8,A2W,[.t 2]),
 (81,24,A2V,[.t 2]),
 (82,14,A0Z,[.t 2]),
 (83,22,A0C,[.t 2]),
 (84,37,A1a,[.c 2 5 true]),
 (85,65,A7u,[.t 2]),
 (89,20,A6i,[.t 2]),
 (90,42,A7x,[.t 2]),
 (96,19,K9,[.t 4]),
 (97,19,J6,[.t 4]),
 (98,19,T6,[.t 4]),
 (99,33,A4k,[.t 2]),
 (100,25,B0A,[.c 2 6 true,.t 3]),
 (101,24,A5g,[.c 4 4 true,.c 5 4 true]),
 (102,29,A3U,[.t 2,.t 3]),
 (103,53,A7y,[.t 4]),
 (104,7,A5h,[.t 2]),
 (105,23,A7z,[.t 4,.t 5]),
 (106,8,A4j,[.t 3]),
 (107,22,A3Z,[.t 2,.t 3]),
 (108,31,A1K,[.t 4]),
 (112,12,A6H,[.t 4]),
 (113,106,A4s,[.t 2]),
 (114,75,A6o,[.c 2 6 true]),
 (115,11,A0n,[]),
 (116,61,W0,[.t 2])]
theorem A4B:B4 Tryz.prog exT:= 
 (B4.cons E3 
 (B4.cons Z0 
 (B4.cons A4q 
 (B4.cons B0k 
 (B4.cons A6t 
 (B4.cons A5U 
 (B4.cons A0S 
 (B4.cons A7C 
 (B4.cons n7 
 (B4.cons Z1 
 (B4.cons o7 
 (B4.cons A4r 
 (B4.cons B0m 
 (B4.cons Y7 
 (B4.cons A6x 
 (B4.cons A7B 
 (B4.cons A5u 
 (B4.cons A5V 
 (B4.cons A3N 
 (B4.cons E6 
 (B4.cons E8 
 (B4.cons A2Q 
 (B4.cons I4 
 (B4.cons Z8 
 (B4.cons I6 
 (B4.cons P2 
 (B4.cons M9 
 (B4.cons D7 
 (B4.cons j9 
 (B4.cons A0m 
 (B4.cons A1V 
 (B4.cons A1U 
 (B4.cons A0F 
 (B4.cons A0G 
 (B4.cons A5j 
 (B4.cons A7I 
 (B4.cons A5l 
 (B4.cons A5p 
 (B4.cons A7G 
 (B4.cons A0L 
 (B4.cons A3F 
 (B4.cons O0 
 (B4.cons A0W 
 (B4.cons A2k 
 (B4.cons A1g 
 (B4.cons A4V 
 (B4.cons A4X 
 (B4.cons A3e 
 (B4.cons A2l 
 (B4.cons A1f 
 (B4.cons A0U 
 (B4.cons A4P 
 (B4.cons I0 
 (B4.cons Z6 
 (B4.cons I1 
 (B4.cons O9 
 (B4.cons M7 
 (B4.cons A3j 
 (B4.cons H5 
 (B4.cons A3k 
 (B4.cons G5 
 (B4.cons A3l 
 (B4.cons O3 
 (B4.cons A5n 
 (B4.cons A5o 
 (B4.cons A6P 
 (B4.cons A5b 
 (B4.cons A5c 
 (B4.cons A3T 
 (B4.cons A5v 
 (B4.cons A3S 
 (B4.cons A5q 
 (B4.cons A1J 
 (B4.cons A1I 
 (B4.cons A0D 
 (B4.cons A0a 
 (B4.cons A0E 
 (B4.cons A5Z 
 (B4.cons A4Y 
 (B4.cons A6m 
 (B4.cons K0 
 (B4.cons I8 
 (B4.cons R6 
 (B4.cons A3n 
 (B4.cons A8W 
 (B4.cons A3V 
 (B4.cons A8V 
 (B4.cons A6n 
 (B4.cons A3W 
 (B4.cons A6q 
 (B4.cons A3m 
 (B4.cons A3i 
 (B4.cons A0Y 
 (B4.cons A5x 
 (B4.cons A9x 
 (B4.cons B0N 
 (B4.cons A4O 
 (B4.cons A2P B4.nil))))))))))))))))))))))))))))))))))))))))))))))))))))))))))))))))))))))))))))))))))))))))))))))))))
end Go.Proofs.YtcjgeliglgcflaaGreatDoor
