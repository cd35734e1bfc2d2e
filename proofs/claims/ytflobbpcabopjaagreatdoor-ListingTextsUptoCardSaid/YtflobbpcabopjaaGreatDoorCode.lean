/-
 The code of the functions that this seat reaches, translated into abstract code (printed by a program, each proved to be the translation). No condition.
-/
import Derived.Test.YtflobbpcabopjaaGreatDoorCodeB
import Derived.Test.YtflobbpcabopjaaGreatDoorChecked
set_option maxRecDepth 1000000
namespace Go.Proofs.YtflobbpcabopjaaGreatDoor
open Go.Abs
@[go_sem] def A9M:AC:= .seq (.ops [[.j 4 (.mov (.c (.str [])))]]) (.seq (.seq (.ops [[.m 7 0,.j 8 (.bin .eql (.t 7) (.c (.str []))),.m 9 8,.k 10 9 false (.mov (.t 1)),.k 11 9 false (.bin .eql (.t 10) (.c (.str []))),.j 12 (.pick (.t 9) (.c (.bool true)) (.t 11))]]) (.cond (.t 12) (.seq (.ops [[.m 13 0,.m 4 13]]) .ret) .skip)) (.seq (.seq (.ops [[.m 14 1,.r 15 1 14,.b 16 .eql 15 1,.m 17 16,.k 18 17 true (.mov (.t 1)),.k 19 17 true (.idx (.t 18) (.z 0)),.k 20 17 true (.bin .lss (.t 19) (.c (.int .u8 128))),.j 21 (.pick (.t 17) (.t 20) (.c (.bool false)))]]) (.cond (.t 21) (.seq (.ops [[.m 22 0,.m 23 1,.j 24 (.idx (.t 23) (.z 0)),.m 26 1,.j 27 (.idx (.t 26) (.z 0)),.j 25 (.call 230 [(.t 22),(.t 24)]),.j 28 (.call 93 [(.t 25),(.t 27)]),.m 4 28]]) .ret) .skip)) (.seq (.seq (.ops [[.m 30 1,.c 31 94 30,.m 29 31,.x 32 0 29,.x 33 1 29,.j 5 (.box 2150005 256 (.c (.agg (List.replicate 256 (.bool false))))),.s 256 5 32,.m 6 33]]) (.seq (.ops [[.m 34 6]]) (.cond (.t 34) (.seq (.ops [[.m 35 0,.j 36 (.call 231 [(.t 35),(.t 5)]),.j 37 (.call 95 [(.t 36),(.t 5)]),.m 4 37]]) .ret) .skip))) (.seq (.ops [[.m 38 0,.m 39 1,.j 40 (.call 232 [(.t 38),(.t 39)]),.m 41 1,.j 42 (.call 96 [(.t 40),(.t 41)]),.m 4 42]]) .ret))))
theorem B4w:A6 Tryz.prog 215=some (43,A9M,[.t 4]):=by kernel_rfl
@[go_sem] def B4q:AC:= .seq (.seq (.ops [[.m 7 1,.m 8 0,.r 9 1 8,.h 10 .lss 7 9,.m 11 10,.k 12 11 true (.mov (.t 0)),.k 13 11 true (.mov (.t 1)),.k 14 11 true (.idx (.t 12) (.t 13)),.k 15 11 true (.call 233 [(.t 14)]),.k 16 11 true (.bin .geq (.t 15) (.z 0)),.j 17 (.pick (.t 11) (.t 16) (.c (.bool false))),.m 18 17,.k 19 18 true (.mov (.t 0)),.k 20 18 true (.mov (.t 1)),.k 21 18 true (.idx (.t 19) (.t 20)),.k 22 18 true (.call 233 [(.t 21)]),.k 23 18 true (.mov (.t 2)),.k 24 18 true (.bin .lss (.t 22) (.t 23)),.j 25 (.pick (.t 18) (.t 24) (.c (.bool false)))]]) (.cond (.t 25) .skip (.exit 0))) (.block 1 (.ops [[.m 26 1,.b 27 .add 26 1,.m 1 27]]))
def B5G:AC:=B4q
@[go_sem] def B0u:AC:= .seq (.ops [[.n 6 0]]) (.seq (.block 0 (.loop B5G)) (.seq (.ops [[.m 28 1,.m 6 28]]) .ret))
theorem B5H:A6 Tryz.prog 217=some (29,B0u,[.t 6]):=by kernel_rfl
@[go_sem] def B0n:AC:= .seq (.ops [[.h 12 .lss 11 10]]) (.seq (.cond (.t 12) .skip (.exit 0)) (.seq (.block 1 (.seq (.ops [[.m 13 11,.m 7 13]]) (.seq (.ops [[.m 14 0,.m 15 7,.j 16 (.idx (.t 14) (.t 15)),.c 17 233 16,.m 8 17]]) (.seq (.seq (.ops [[.m 18 6,.m 19 8,.j 20 (.bin .sub (.z 4611686018427387904) (.t 19)),.m 21 1,.h 22 .quo 20 21,.h 23 .gtr 18 22]]) (.cond (.t 23) (.seq (.ops [[.n 4 0,.t 5 false]]) .ret) .skip)) (.ops [[.m 24 6,.m 25 1,.h 26 .mul 24 25,.m 27 8,.h 28 .add 26 27,.m 6 28]]))))) (.ops [[.b 29 .add 11 1,.m 11 29]])))
def B1e:AC:=B0n
@[go_sem] def A3Z:AC:= .seq (.ops [[.n 4 0,.t 5 false]]) (.seq (.ops [[.n 6 0]]) (.seq (.seq (.ops [[.m 9 0,.r 10 1 9,.n 11 0]]) (.block 0 (.loop B1e))) (.seq (.ops [[.m 30 6,.m 4 30,.t 5 true]]) .ret)))
theorem B1f:A6 Tryz.prog 218=some (31,A3Z,[.t 4,.t 5]):=by kernel_rfl
@[go_sem] def A7K:AC:= .seq (.ops [[.j 4 (.box 2190004 2 (.c (.agg [(.int .i64 0),(.int .i64 0)]))),.n 5 0]]) (.seq (.seq (.ops [[.m 6 1,.b 7 .eql 6 0]]) (.cond (.t 7) (.seq (.ops [[.j 8 (.build [(.int .i64 0),(.int .i64 0)] []),.s 2 4 8,.n 5 7]]) .ret) .skip)) (.seq (.seq (.ops [[.m 9 0,.b 10 .lss 9 (-4611686018427387904),.m 11 10,.k 12 11 false (.mov (.t 0)),.k 13 11 false (.bin .gtr (.t 12) (.z 4611686018427387904)),.j 14 (.pick (.t 11) (.c (.bool true)) (.t 13)),.m 15 14,.k 16 15 false (.mov (.t 1)),.k 17 15 false (.bin .lss (.t 16) (.z (-4611686018427387904))),.j 18 (.pick (.t 15) (.c (.bool true)) (.t 17)),.m 19 18,.k 20 19 false (.mov (.t 1)),.k 21 19 false (.bin .gtr (.t 20) (.z 4611686018427387904)),.j 22 (.pick (.t 19) (.c (.bool true)) (.t 21))]]) (.cond (.t 22) (.seq (.ops [[.j 23 (.build [(.int .i64 0),(.int .i64 0)] []),.s 2 4 23,.n 5 6]]) .ret) .skip)) (.seq (.ops [[.m 24 0,.m 25 1,.j 26 (.call 234 [(.t 24),(.t 25)]),.x 27 0 26,.x 28 1 26,.s 2 4 27,.m 5 28]]) .ret)))
theorem B3A:A6 Tryz.prog 219=some (29,A7K,[.c 4 2 true,.t 5]):=by kernel_rfl
@[go_sem] def A0O:AC:= .seq (.ops [[.h 9 .lss 8 7]]) (.seq (.cond (.t 9) .skip (.exit 0)) (.seq (.block 1 (.seq (.ops [[.m 10 8,.m 5 10]]) (.seq (.ops [[.m 11 1,.m 12 0,.m 13 5,.i 14 1 12 13,.l 15 14,.h 16 .eql 11 15]]) (.cond (.t 16) (.seq (.ops [[.m 17 5,.m 4 17]]) .ret) .skip)))) (.ops [[.b 18 .add 8 1,.m 8 18]])))
def A1o:AC:=A0O
@[go_sem] def Q1:AC:= .seq (.ops [[.n 4 0]]) (.seq (.seq (.ops [[.m 6 0,.r 7 0 6,.n 8 0]]) (.block 0 (.loop A1o))) (.seq (.ops [[.n 4 (-1)]]) .ret))
theorem A1p:A6 Tryz.prog 221=some (19,Q1,[.t 4]):=by kernel_rfl
@[go_sem] def A3N:AC:= .seq (.seq (.ops [[.m 5 0,.r 6 1 5,.b 7 .gtr 6 0,.m 8 7,.k 9 8 true (.mov (.t 0)),.k 10 8 true (.mov (.t 0)),.k 11 8 true (.len 1 (.t 10)),.k 12 8 true (.bin .sub (.t 11) (.z 1)),.k 13 8 true (.idx (.t 9) (.t 12)),.k 14 8 true (.mov (.t 1)),.k 15 8 true (.bin .eql (.t 13) (.t 14)),.j 16 (.pick (.t 8) (.t 15) (.c (.bool false)))]]) (.cond (.t 16) .skip (.exit 0))) (.block 1 (.ops [[.m 17 0,.m 18 0,.r 19 1 18,.b 20 .sub 19 1,.j 21 (.sls (.t 17) none (some (.t 20))),.m 0 21]]))
def A4G:AC:=A3N
@[go_sem] def n7:AC:= .seq (.ops [[.j 4 (.mov (.c (.str [])))]]) (.seq (.block 0 (.loop A4G)) (.seq (.ops [[.m 22 0,.m 4 22]]) .ret))
theorem A4H:A6 Tryz.prog 230=some (23,n7,[.t 4]):=by kernel_rfl
@[go_sem] def A3g:AC:= .seq (.seq (.ops [[.m 5 0,.r 6 1 5,.b 7 .gtr 6 0]]) (.cond (.t 7) .skip (.exit 0))) (.block 1 (.seq (.seq (.ops [[.m 8 1,.m 9 0,.m 10 0,.r 11 1 10,.b 12 .sub 11 1,.j 13 (.idx (.t 9) (.t 12)),.j 14 (.call 148 [(.t 8),(.t 13)]),.j 15 (.un .not (.t 14))]]) (.cond (.t 15) (.exit 0) .skip)) (.ops [[.m 16 0,.m 17 0,.r 18 1 17,.b 19 .sub 18 1,.j 20 (.sls (.t 16) none (some (.t 19))),.m 0 20]])))
def A3L:AC:=A3g
@[go_sem] def Y0:AC:= .seq (.ops [[.j 4 (.mov (.c (.str [])))]]) (.seq (.block 0 (.loop A3L)) (.seq (.ops [[.m 21 0,.m 4 21]]) .ret))
theorem A3M:A6 Tryz.prog 231=some (22,Y0,[.t 4]):=by kernel_rfl
@[go_sem] def A1z:AC:= .seq (.seq (.ops [[.m 7 0,.r 8 1 7,.b 9 .gtr 8 0]]) (.cond (.t 9) .skip (.exit 0))) (.block 1 (.seq (.ops [[.m 10 0,.m 11 0,.r 12 1 11,.b 13 .sub 12 1,.j 14 (.idx (.t 10) (.t 13)),.j 15 (.conv .i32 (.t 14)),.m 5 15,.n 6 1]]) (.seq (.seq (.ops [[.m 16 5,.j 17 (.bin .geq (.t 16) (.c (.int .i32 128)))]]) (.cond (.t 17) (.ops [[.m 19 0,.c 20 252 19,.m 18 20,.x 21 0 18,.x 22 1 18,.m 5 21,.m 6 22]]) .skip)) (.seq (.seq (.ops [[.m 23 1,.m 24 5,.j 25 (.call 150 [(.t 23),(.t 24)]),.j 26 (.un .not (.t 25))]]) (.cond (.t 26) (.exit 0) .skip)) (.ops [[.m 27 0,.m 28 0,.r 29 1 28,.m 30 6,.h 31 .sub 29 30,.j 32 (.sls (.t 27) none (some (.t 31))),.m 0 32]])))))
def A2b:AC:=A1z
@[go_sem] def T8:AC:= .seq (.ops [[.j 4 (.mov (.c (.str [])))]]) (.seq (.block 0 (.loop A2b)) (.seq (.ops [[.m 33 0,.m 4 33]]) .ret))
theorem A2c:A6 Tryz.prog 232=some (34,T8,[.t 4]):=by kernel_rfl
@[go_sem] def A7m:AC:= .seq (.ops [[.n 2 0]]) (.seq (.block 0 (.seq (.ops [[.m 4 0,.j 5 (.bin .geq (.t 4) (.c (.int .u8 48))),.m 6 5,.k 7 6 true (.mov (.t 0)),.k 8 6 true (.bin .leq (.t 7) (.c (.int .u8 57))),.j 9 (.pick (.t 6) (.t 8) (.c (.bool false))),.m 3 9]]) (.cond (.t 3) (.seq (.ops [[.m 10 0,.j 11 (.bin .sub (.t 10) (.c (.int .u8 48))),.j 12 (.conv .i64 (.t 11)),.m 2 12]]) .ret) (.seq (.ops [[.m 14 0,.j 15 (.bin .geq (.t 14) (.c (.int .u8 97))),.m 16 15,.k 17 16 true (.mov (.t 0)),.k 18 16 true (.bin .leq (.t 17) (.c (.int .u8 122))),.j 19 (.pick (.t 16) (.t 18) (.c (.bool false))),.m 13 19]]) (.cond (.t 13) (.seq (.ops [[.m 20 0,.j 21 (.bin .sub (.t 20) (.c (.int .u8 97))),.j 22 (.conv .i64 (.t 21)),.b 23 .add 22 10,.m 2 23]]) .ret) (.seq (.ops [[.m 25 0,.j 26 (.bin .geq (.t 25) (.c (.int .u8 65))),.m 27 26,.k 28 27 true (.mov (.t 0)),.k 29 27 true (.bin .leq (.t 28) (.c (.int .u8 90))),.j 30 (.pick (.t 27) (.t 29) (.c (.bool false))),.m 24 30]]) (.cond (.t 24) (.seq (.ops [[.m 31 0,.j 32 (.bin .sub (.t 31) (.c (.int .u8 65))),.j 33 (.conv .i64 (.t 32)),.b 34 .add 33 10,.m 2 34]]) .ret) .skip))))))) (.seq (.ops [[.n 2 (-1)]]) .ret))
theorem B3t:A6 Tryz.prog 233=some (35,A7m,[.t 2]):=by kernel_rfl
@[go_sem] def A4h:AC:= .seq (.ops [[.j 4 (.box 2340004 2 (.c (.agg [(.int .i64 0),(.int .i64 0)]))),.n 5 0]]) (.seq (.seq (.ops [[.m 7 1,.b 8 .lss 7 0]]) (.cond (.t 8) (.ops [[.m 9 0,.j 10 (.un .neg (.t 9)),.m 11 1,.j 12 (.un .neg (.t 11)),.m 0 10,.m 1 12]]) .skip)) (.seq (.ops [[.m 13 0,.m 14 0,.j 15 (.un .neg (.t 14)),.j 16 (.mm true [(.t 13),(.t 15)]),.m 17 1,.j 18 (.call 170 [(.t 16),(.t 17)]),.m 6 18]]) (.seq (.ops [[.m 19 0,.m 20 6,.h 21 .quo 19 20,.m 22 1,.m 23 6,.h 24 .quo 22 23,.m 0 21,.m 1 24]]) (.seq (.seq (.ops [[.m 25 0,.b 26 .lss 25 (-2147483647),.m 27 26,.k 28 27 false (.mov (.t 0)),.k 29 27 false (.bin .gtr (.t 28) (.z 2147483647)),.j 30 (.pick (.t 27) (.c (.bool true)) (.t 29)),.m 31 30,.k 32 31 false (.mov (.t 1)),.k 33 31 false (.bin .gtr (.t 32) (.z 2147483647)),.j 34 (.pick (.t 31) (.c (.bool true)) (.t 33))]]) (.cond (.t 34) (.seq (.ops [[.j 35 (.build [(.int .i64 0),(.int .i64 0)] []),.s 2 4 35,.n 5 6]]) .ret) .skip)) (.seq (.ops [[.m 36 0,.m 37 1,.j 38 (.build [(.int .i64 0),(.int .i64 0)] [(0,1,(.t 36)),(1,1,(.t 37))]),.s 2 4 38,.n 5 0]]) .ret)))))
theorem B1n:A6 Tryz.prog 234=some (39,A4h,[.c 4 2 true,.t 5]):=by kernel_rfl
def exT:List (FuncId×Nat×AC×List RV):= [
 (3,31,O0,[.t 2]),
 (4,72,N9,[.t 2]),
 (5,49,N8,[.t 2]),
 (6,70,N1,[.t 4]),
 (7,54,K1,[.t 2]),
 (8,43,L4,[.t 4]),
 (9,11,t8,[.t 2]),
 (10,52,t7,[.t 0]),
 (11,24,A8M,[.t 2,.t 3]),
 (13,59,A7g,[.c 2 11 true,.t 3,.t 4]),
 (14,16,B0y,[.c 2 1 false]),
 (15,37,u2,[.t 2]),
 (16,33,A0G,[.t 4]),
 (17,80,B2r,[.t 4]),
 (18,6,y7,[.t 2]),
 (19,23,A0H,[.t 2]),
 (20,10,W2,[.c 0 11 true]),
 (21,8,A7i,[.t 6]),
 (22,19,O5,[.t 4,.t 5]),
 (24,17,R6,[.t 4]),
 (25,14,X9,[.t 2]),
 (29,54,A0v,[.t 4]),
 (30,50,A0w,[]),
 (31,20,B0B,[.t 2]),
 (32,4,B2q,[.t 2]),
 (33,74,A9y,[.t 2]),
 (34,44,A0F,[.t 2]),
 (35,185,A1h,[.t 4]),
 (36,26,K4,[.t 4]),
 (37,26,A0m,[.t 4]),
 (38,26,K5,[.t 4]),
 (39,26,P9,[.t 4]),
 (40,26,N6,[.t 4]),
 (41,32,C8,[.t 6]),
 (42,117,A3U,[]),
 (43,26,A2u,[.t 4]),
 (44,5,A8N,[.t 2]),
 (46,21,A8Q,[.t 2]),
 (47,19,A4X,[.t 4]),
 (48,33,A3X,[.t 4]),
 (49,27,A2t,[.t 4]),
 (50,20,R7,[]),
 (54,8,A0J,[.t 2]),
 (66,111,A0u,[.t 6]),
 (67,72,A1L,[.t 4]),
 (68,7,A9o,[]),
 (69,23,B2u,[.t 4]),
 (70,42,A9p,[.c 2 11 true]),
 (71,53,A9w,[.t 2]),
 (72,118,B2t,[.t 2]),
 (73,60,A1N,[.t 4]),
 (74,65,B0t,[.t 2]),
 (78,20,A8X,[.t 2]),
 (79,42,B0v,[.t 2]),
 (93,17,A0p,[.t 4]),
 (94,21,A0o,[.c 2 256 true,.t 3]),
 (95,16,n6,[.t 4]),
 (96,23,V1,[.t 4]),
 (97,17,V7,[]),
 (98,122,V9,[.t 2]),
 (99,31,A0y,[.t 2]),
 (100,14,A0x,[.t 2]),
 (101,32,p5,[.t 2]),
 (102,17,V8,[]),
 (103,76,Y7,[.c 2 5 true]),
 (104,52,A3V,[]),
 (105,67,A1d,[]),
 (106,102,A1M,[]),
 (107,8,K2,[.t 2]),
 (108,8,A0k,[.t 2]),
 (109,8,K3,[.t 2]),
 (110,8,P8,[.t 2]),
 (111,8,N3,[.t 2]),
 (112,6,A5n,[.t 2]),
 (113,9,J1,[.t 4]),
 (114,8,A5o,[.t 3]),
 (115,9,H8,[.t 4]),
 (116,8,A5p,[.t 3]),
 (117,9,O2,[.t 4]),
 (118,5,A9s,[.t 2]),
 (119,6,A9t,[.t 2]),
 (120,74,B0J,[.t 2]),
 (121,85,A9a,[.t 2]),
 (122,88,A9c,[.t 2,.t 3]),
 (123,92,A7t,[.t 2,.t 3]),
 (124,17,A9A,[.t 6]),
 (125,14,A7r,[.t 2,.t 3]),
 (126,63,A9x,[.t 4]),
 (129,33,A5u,[.t 2]),
 (130,25,B3Z,[.c 2 6 true,.t 3]),
 (131,24,A7u,[.c 4 4 true,.c 5 4 true]),
 (133,88,w4,[.t 2]),
 (148,10,R8,[.t 4]),
 (150,9,A0n,[.t 4]),
 (151,9,A4S,[.t 2]),
 (153,55,p4,[.t 4]),
 (155,52,A7k,[.c 2 2 true,.t 3]),
 (156,96,A9b,[.c 2 5 true,.t 3]),
 (157,19,L6,[.t 4]),
 (158,19,K7,[.t 4]),
 (159,19,T6,[.t 4]),
 (160,29,A5d,[.t 2,.t 3]),
 (161,53,B0w,[.t 4]),
 (162,7,A7v,[.t 2]),
 (163,23,B0x,[.t 4,.t 5]),
 (164,8,A5t,[.t 3]),
 (165,22,A5j,[.t 2,.t 3]),
 (170,12,A9B,[.t 4]),
 (171,106,A5V,[.t 2]),
 (172,75,A9g,[.c 2 6 true]),
 (188,5,A8Z,[.t 2]),
 (190,81,A8Y,[.c 4 4 true,.t 5]),
 (191,70,W0,[.c 4 2 true,.t 5]),
 (192,71,A2F,[.c 2 2 true,.t 3]),
 (194,12,B3Y,[.t 2,.t 3]),
 (195,11,A0I,[]),
 (196,61,X7,[.t 2]),
 (215,43,A9M,[.t 4]),
 (217,29,B0u,[.t 6]),
 (218,31,A3Z,[.t 4,.t 5]),
 (219,29,A7K,[.c 4 2 true,.t 5]),
 (221,19,Q1,[.t 4]),
 (230,23,n7,[.t 4]),
 (231,22,Y0,[.t 4]),
 (232,34,T8,[.t 4]),
 (233,35,A7m,[.t 2]),
 (234,39,A4h,[.c 4 2 true,.t 5])]
theorem B7M:A8 Tryz.prog exT:= 
 (A8.cons E2 
 (A8.cons A0L 
 (A8.cons E1 
 (A8.cons A0s 
 (A8.cons W1 
 (A8.cons B6 
 (A8.cons Y9 
 (A8.cons A5z 
 (A8.cons A1v 
 (A8.cons B3o 
 (A8.cons A9n 
 (A8.cons Z1 
 (A8.cons A6N 
 (A8.cons B0A 
 (A8.cons d6 
 (A8.cons A0d 
 (A8.cons A3q 
 (A8.cons A4T 
 (A8.cons E3 
 (A8.cons E9 
 (A8.cons A3J 
 (A8.cons A6s 
 (A8.cons A6t 
 (A8.cons A9r 
 (A8.cons B0z 
 (A8.cons A7I 
 (A8.cons A0b 
 (A8.cons A8o 
 (A8.cons J3 
 (A8.cons j8 
 (A8.cons J5 
 (A8.cons O4 
 (A8.cons M1 
 (A8.cons C6 
 (A8.cons A2A 
 (A8.cons A1D 
 (A8.cons A7h 
 (A8.cons A7j 
 (A8.cons A3W 
 (A8.cons A2C 
 (A8.cons A1C 
 (A8.cons A1x 
 (A8.cons A7a 
 (A8.cons A6r 
 (A8.cons A8O 
 (A8.cons A7x 
 (A8.cons B0G 
 (A8.cons A7z 
 (A8.cons A7D 
 (A8.cons B0E 
 (A8.cons A1e 
 (A8.cons A8J 
 (A8.cons A7l 
 (A8.cons A9e 
 (A8.cons A5Z 
 (A8.cons A5X 
 (A8.cons A4E 
 (A8.cons A3f 
 (A8.cons A3k 
 (A8.cons A3n 
 (A8.cons A6v 
 (A8.cons A6u 
 (A8.cons A4W 
 (A8.cons A3l 
 (A8.cons A4m 
 (A8.cons B1a 
 (A8.cons A7X 
 (A8.cons A8P 
 (A8.cons I9 
 (A8.cons j6 
 (A8.cons J0 
 (A8.cons O1 
 (A8.cons L9 
 (A8.cons A4c 
 (A8.cons I5 
 (A8.cons A4d 
 (A8.cons H4 
 (A8.cons A4e 
 (A8.cons N4 
 (A8.cons A7B 
 (A8.cons A7C 
 (A8.cons A9P 
 (A8.cons A7p 
 (A8.cons A7q 
 (A8.cons A5c 
 (A8.cons A7J 
 (A8.cons A5b 
 (A8.cons A7E 
 (A8.cons A4g 
 (A8.cons B2h 
 (A8.cons A5e 
 (A8.cons C2 
 (A8.cons A1y 
 (A8.cons A5U 
 (A8.cons B1W 
 (A8.cons A4V 
 (A8.cons B3s 
 (A8.cons B4t 
 (A8.cons L1 
 (A8.cons J7 
 (A8.cons R5 
 (A8.cons B2g 
 (A8.cons A9f 
 (A8.cons A5f 
 (A8.cons A9i 
 (A8.cons A4f 
 (A8.cons A4b 
 (A8.cons A7M 
 (A8.cons B2L 
 (A8.cons B4u 
 (A8.cons B4r 
 (A8.cons B4p 
 (A8.cons A3p 
 (A8.cons B0m 
 (A8.cons B7W 
 (A8.cons A6Y 
 (A8.cons A3I 
 (A8.cons B4w 
 (A8.cons B5H 
 (A8.cons B1f 
 (A8.cons B3A 
 (A8.cons A1p 
 (A8.cons A4H 
 (A8.cons A3M 
 (A8.cons A2c 
 (A8.cons B3t 
 (A8.cons B1n A8.nil)))))))))))))))))))))))))))))))))))))))))))))))))))))))))))))))))))))))))))))))))))))))))))))))))))))))))))))))))))))))))))))))
end Go.Proofs.YtflobbpcabopjaaGreatDoor
