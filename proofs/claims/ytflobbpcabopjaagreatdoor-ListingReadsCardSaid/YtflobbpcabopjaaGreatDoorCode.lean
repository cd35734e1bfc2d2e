/-
 The code of the functions that this seat reaches, translated into abstract code (printed by a program, each proved to be the translation). No condition.
-/
import Derived.Test.YtflobbpcabopjaaGreatDoorCodeB
import Derived.Test.YtflobbpcabopjaaGreatDoorChecked
set_option linter.unusedVariables false set_option maxRecDepth 1000000
namespace Go.Proofs.YtflobbpcabopjaaGreatDoor
open Go.Abs
@[go_sem] def A9p:AC:= .q [[.j 4 (.mov (.c (.str [])))]] (.seq (.q [[.m 7 0,.j 8 (.bin .eql (.t 7) (.c (.str []))),.m 9 8,.O 10 9 false 1,.k 11 9 false (.bin .eql (.t 10) (.c (.str []))),.v 12 9 11]] (.f 12 (.q [[.m 13 0,.m 4 13]] .ret) .skip)) (.seq (.q [[.m 14 1,.r 15 1 14,.b 16 .eql 15 1,.m 17 16,.O 18 17 true 1,.k 19 17 true (.idx (.t 18) (.z 0)),.k 20 17 true (.bin .lss (.t 19) (.c (.int .u8 128))),.u 21 17 20]] (.f 21 (.q [[.m 22 0,.m 23 1,.j 24 (.idx (.t 23) (.z 0)),.m 26 1,.j 27 (.idx (.t 26) (.z 0)),.j 25 (.call 230 [(.t 22),(.t 24)]),.j 28 (.call 93 [(.t 25),(.t 27)]),.m 4 28]] .ret) .skip)) (.seq (.q [[.m 30 1,.c 31 94 30,.m 29 31,.x 32 0 29,.x 33 1 29,.j 5 (.box 2150005 256 (.c (.agg (List.replicate 256 (.bool false))))),.s 256 5 32,.m 6 33]] (.q [[.m 34 6]] (.f 34 (.q [[.m 35 0,.j 36 (.call 231 [(.t 35),(.t 5)]),.j 37 (.call 95 [(.t 36),(.t 5)]),.m 4 37]] .ret) .skip))) (.q [[.m 38 0,.m 39 1,.j 40 (.call 232 [(.t 38),(.t 39)]),.m 41 1,.j 42 (.call 96 [(.t 40),(.t 41)]),.m 4 42]] .ret))))
theorem A7I:B8 Tryz.prog 215=some (43,A9p,[.t 4]):=by kernel_rfl
@[go_sem] def A6Z:AC:= .seq (.q [[.m 7 1,.m 8 0,.r 9 1 8,.h 10 .lss 7 9,.m 11 10,.O 12 11 true 0,.O 13 11 true 1,.k 14 11 true (.idx (.t 12) (.t 13)),.k 15 11 true (.call 233 [(.t 14)]),.G 16 11 true .geq 15 0,.u 17 11 16,.m 18 17,.O 19 18 true 0,.O 20 18 true 1,.k 21 18 true (.idx (.t 19) (.t 20)),.k 22 18 true (.call 233 [(.t 21)]),.O 23 18 true 2,.k 24 18 true (.bin .lss (.t 22) (.t 23)),.u 25 18 24]] (.f 25 .skip (.exit 0))) (.block 1 (.ops [[.m 26 1,.b 27 .add 26 1,.m 1 27]]))
def A8E:AC:=A6Z
theorem B2h:A8E=A6Z:=rfl
@[go_sem] def B0c:AC:= .q [[.n 6 0]] (.seq (.block 0 (.loop A8E)) (.q [[.m 28 1,.m 6 28]] .ret))
theorem A8F:B8 Tryz.prog 217=some (29,B0c,[.t 6]):=by kernel_rfl
@[go_sem] def A2B:AC:= .q [[.h 12 .lss 11 10]] (.seq (.f 12 .skip (.exit 0)) (.seq (.block 1 (.q [[.m 13 11,.m 7 13]] (.q [[.m 14 0,.m 15 7,.j 16 (.idx (.t 14) (.t 15)),.c 17 233 16,.m 8 17]] (.seq (.q [[.m 18 6,.m 19 8,.j 20 (.bin .sub (.z 4611686018427387904) (.t 19)),.m 21 1,.h 22 .quo 20 21,.h 23 .gtr 18 22]] (.f 23 (.q [[.n 4 0,.t 5 false]] .ret) .skip)) (.ops [[.m 24 6,.m 25 1,.h 26 .mul 24 25,.m 27 8,.h 28 .add 26 27,.m 6 28]]))))) (.ops [[.b 29 .add 11 1,.m 11 29]])))
def A3t:AC:=A2B
theorem A7S:A3t=A2B:=rfl
@[go_sem] def A4t:AC:= .q [[.n 4 0,.t 5 false]] (.q [[.n 6 0]] (.seq (.q [[.m 9 0,.r 10 1 9,.n 11 0]] (.block 0 (.loop A3t))) (.q [[.m 30 6,.m 4 30,.t 5 true]] .ret)))
theorem A3u:B8 Tryz.prog 218=some (31,A4t,[.t 4,.t 5]):=by kernel_rfl
@[go_sem] def A7A:AC:= .q [[.j 4 (.box 2190004 2 (.c (.agg [(.int .i64 0),(.int .i64 0)]))),.n 5 0]] (.seq (.q [[.m 6 1,.b 7 .eql 6 0]] (.f 7 (.q [[.j 8 (.build [(.int .i64 0),(.int .i64 0)] []),.s 2 4 8,.n 5 7]] .ret) .skip)) (.seq (.q [[.m 9 0,.b 10 .lss 9 (-4611686018427387904),.m 11 10,.O 12 11 false 0,.G 13 11 false .gtr 12 4611686018427387904,.v 14 11 13,.m 15 14,.O 16 15 false 1,.G 17 15 false .lss 16 (-4611686018427387904),.v 18 15 17,.m 19 18,.O 20 19 false 1,.G 21 19 false .gtr 20 4611686018427387904,.v 22 19 21]] (.f 22 (.q [[.j 23 (.build [(.int .i64 0),(.int .i64 0)] []),.s 2 4 23,.n 5 6]] .ret) .skip)) (.q [[.m 24 0,.m 25 1,.j 26 (.call 234 [(.t 24),(.t 25)]),.x 27 0 26,.x 28 1 26,.s 2 4 27,.m 5 28]] .ret)))
theorem A5U:B8 Tryz.prog 219=some (29,A7A,[.c 4 2 true,.t 5]):=by kernel_rfl
@[go_sem] def Q4:AC:= .q [[.h 9 .lss 8 7]] (.seq (.f 9 .skip (.exit 0)) (.seq (.block 1 (.q [[.m 10 8,.m 5 10]] (.q [[.m 11 1,.m 12 0,.m 13 5,.i 14 1 12 13,.l 15 14,.h 16 .eql 11 15]] (.f 16 (.q [[.m 17 5,.m 4 17]] .ret) .skip)))) (.ops [[.b 18 .add 8 1,.m 8 18]])))
def R5:AC:=Q4
theorem A0Z:R5=Q4:=rfl
@[go_sem] def T9:AC:= .q [[.n 4 0]] (.seq (.q [[.m 6 0,.r 7 0 6,.n 8 0]] (.block 0 (.loop R5))) (.q [[.n 4 (-1)]] .ret))
theorem R6:B8 Tryz.prog 221=some (19,T9,[.t 4]):=by kernel_rfl
@[go_sem] def A3Z:AC:= .seq (.q [[.m 5 0,.r 6 1 5,.b 7 .gtr 6 0,.m 8 7,.O 9 8 true 0,.O 10 8 true 0,.k 11 8 true (.len 1 (.t 10)),.G 12 8 true .sub 11 1,.k 13 8 true (.idx (.t 9) (.t 12)),.O 14 8 true 1,.k 15 8 true (.bin .eql (.t 13) (.t 14)),.u 16 8 15]] (.f 16 .skip (.exit 0))) (.block 1 (.ops [[.m 17 0,.m 18 0,.r 19 1 18,.b 20 .sub 19 1,.j 21 (.sls (.t 17) none (some (.t 20))),.m 0 21]]))
def A4W:AC:=A3Z
@[go_sem] def A0f:AC:= .q [[.j 4 (.mov (.c (.str [])))]] (.seq (.block 0 (.loop A4W)) (.q [[.m 22 0,.m 4 22]] .ret))
theorem A4X:B8 Tryz.prog 230=some (23,A0f,[.t 4]):=by kernel_rfl
@[go_sem] def W7:AC:= .seq (.q [[.m 5 0,.r 6 1 5,.b 7 .gtr 6 0]] (.f 7 .skip (.exit 0))) (.block 1 (.seq (.q [[.m 8 1,.m 9 0,.m 10 0,.r 11 1 10,.b 12 .sub 11 1,.j 13 (.idx (.t 9) (.t 12)),.j 14 (.call 148 [(.t 8),(.t 13)]),.j 15 (.un .not (.t 14))]] (.f 15 (.exit 0) .skip)) (.ops [[.m 16 0,.m 17 0,.r 18 1 17,.b 19 .sub 18 1,.j 20 (.sls (.t 16) none (some (.t 19))),.m 0 20]])))
def Y0:AC:=W7
theorem A2k:Y0=W7:=rfl
@[go_sem] def d6:AC:= .q [[.j 4 (.mov (.c (.str [])))]] (.seq (.block 0 (.loop Y0)) (.q [[.m 21 0,.m 4 21]] .ret))
theorem Y1:B8 Tryz.prog 231=some (22,d6,[.t 4]):=by kernel_rfl
@[go_sem] def A2l:AC:= .seq (.q [[.m 7 0,.r 8 1 7,.b 9 .gtr 8 0]] (.f 9 .skip (.exit 0))) (.block 1 (.q [[.m 10 0,.m 11 0,.r 12 1 11,.b 13 .sub 12 1,.j 14 (.idx (.t 10) (.t 13)),.j 15 (.conv .i32 (.t 14)),.m 5 15,.n 6 1]] (.seq (.q [[.m 16 5,.j 17 (.bin .geq (.t 16) (.c (.int .i32 128)))]] (.f 17 (.ops [[.m 19 0,.c 20 252 19,.m 18 20,.x 21 0 18,.x 22 1 18,.m 5 21,.m 6 22]]) .skip)) (.seq (.q [[.m 23 1,.m 24 5,.j 25 (.call 150 [(.t 23),(.t 24)]),.j 26 (.un .not (.t 25))]] (.f 26 (.exit 0) .skip)) (.ops [[.m 27 0,.m 28 0,.r 29 1 28,.m 30 6,.h 31 .sub 29 30,.j 32 (.sls (.t 27) none (some (.t 31))),.m 0 32]])))))
def A2L:AC:=A2l
@[go_sem] def W8:AC:= .q [[.j 4 (.mov (.c (.str [])))]] (.seq (.block 0 (.loop A2L)) (.q [[.m 33 0,.m 4 33]] .ret))
theorem A2M:B8 Tryz.prog 232=some (34,W8,[.t 4]):=by kernel_rfl
@[go_sem] def A6X:AC:= .q [[.n 2 0]] (.seq (.block 0 (.q [[.m 4 0,.j 5 (.bin .geq (.t 4) (.c (.int .u8 48))),.m 6 5,.O 7 6 true 0,.k 8 6 true (.bin .leq (.t 7) (.c (.int .u8 57))),.u 9 6 8,.m 3 9]] (.f 3 (.q [[.m 10 0,.j 11 (.bin .sub (.t 10) (.c (.int .u8 48))),.j 12 (.conv .i64 (.t 11)),.m 2 12]] .ret) (.q [[.m 14 0,.j 15 (.bin .geq (.t 14) (.c (.int .u8 97))),.m 16 15,.O 17 16 true 0,.k 18 16 true (.bin .leq (.t 17) (.c (.int .u8 122))),.u 19 16 18,.m 13 19]] (.f 13 (.q [[.m 20 0,.j 21 (.bin .sub (.t 20) (.c (.int .u8 97))),.j 22 (.conv .i64 (.t 21)),.b 23 .add 22 10,.m 2 23]] .ret) (.q [[.m 25 0,.j 26 (.bin .geq (.t 25) (.c (.int .u8 65))),.m 27 26,.O 28 27 true 0,.k 29 27 true (.bin .leq (.t 28) (.c (.int .u8 90))),.u 30 27 29,.m 24 30]] (.f 24 (.q [[.m 31 0,.j 32 (.bin .sub (.t 31) (.c (.int .u8 65))),.j 33 (.conv .i64 (.t 32)),.b 34 .add 33 10,.m 2 34]] .ret) .skip))))))) (.q [[.n 2 (-1)]] .ret))
theorem A5w:B8 Tryz.prog 233=some (35,A6X,[.t 2]):=by kernel_rfl
@[go_sem] def A4C:AC:= .q [[.j 4 (.box 2340004 2 (.c (.agg [(.int .i64 0),(.int .i64 0)]))),.n 5 0]] (.seq (.q [[.m 7 1,.b 8 .lss 7 0]] (.f 8 (.ops [[.m 9 0,.j 10 (.un .neg (.t 9)),.m 11 1,.j 12 (.un .neg (.t 11)),.m 0 10,.m 1 12]]) .skip)) (.q [[.m 13 0,.m 14 0,.j 15 (.un .neg (.t 14)),.j 16 (.mm true [(.t 13),(.t 15)]),.m 17 1,.j 18 (.call 170 [(.t 16),(.t 17)]),.m 6 18]] (.q [[.m 19 0,.m 20 6,.h 21 .quo 19 20,.m 22 1,.m 23 6,.h 24 .quo 22 23,.m 0 21,.m 1 24]] (.seq (.q [[.m 25 0,.b 26 .lss 25 (-2147483647),.m 27 26,.O 28 27 false 0,.G 29 27 false .gtr 28 2147483647,.v 30 27 29,.m 31 30,.O 32 31 false 1,.G 33 31 false .gtr 32 2147483647,.v 34 31 33]] (.f 34 (.q [[.j 35 (.build [(.int .i64 0),(.int .i64 0)] []),.s 2 4 35,.n 5 6]] .ret) .skip)) (.q [[.m 36 0,.m 37 1,.j 38 (.build [(.int .i64 0),(.int .i64 0)] [(0,1,(.t 36)),(1,1,(.t 37))]),.s 2 4 38,.n 5 0]] .ret)))))
theorem A3z:B8 Tryz.prog 234=some (39,A4C,[.c 4 2 true,.t 5]):=by kernel_rfl
def exT:List (FuncId×Nat×AC×List RV):= [
 (3,31,R0,[.t 2]),
 (4,72,Q9,[.t 2]),
 (5,49,Q8,[.t 2]),
 (6,70,P8,[.t 4]),
 (7,54,L4,[.t 2]),
 (8,43,N7,[.t 4]),
 (9,11,A0F,[.t 2]),
 (10,52,A0E,[.t 0]),
 (11,24,A8s,[.t 2,.t 3]),
 (13,59,A2e,[.c 2 11 true,.t 3,.t 4]),
 (14,16,B0g,[.c 2 1 false]),
 (15,37,A0G,[.t 2]),
 (16,33,A1o,[.t 4]),
 (17,80,B2t,[.t 4]),
 (18,6,A0I,[.t 2]),
 (19,23,A1p,[.t 2]),
 (20,10,Z5,[.c 0 11 true]),
 (21,8,A6T,[.t 6]),
 (22,19,R7,[.t 4,.t 5]),
 (24,17,U9,[.t 4]),
 (25,14,Z8,[.t 2]),
 (29,54,A1j,[.t 4]),
 (30,50,A1k,[]),
 (31,20,B0j,[.t 2]),
 (32,4,B2s,[.t 2]),
 (33,74,A9f,[.t 2]),
 (34,44,A1n,[.t 2]),
 (35,185,A1Y,[.t 4]),
 (36,26,L7,[.t 4]),
 (37,26,A0Y,[.t 4]),
 (38,26,L8,[.t 4]),
 (39,26,T7,[.t 4]),
 (40,26,Q3,[.t 4]),
 (41,32,E7,[.t 6]),
 (42,117,A4k,[]),
 (43,26,A3g,[.t 4]),
 (44,5,A8t,[.t 2]),
 (46,21,A8u,[.t 2]),
 (47,19,A5r,[.t 4]),
 (48,33,A4n,[.t 4]),
 (49,27,A3f,[.t 4]),
 (50,20,V0,[]),
 (54,8,A1x,[.t 2]),
 (66,111,U3,[.t 6]),
 (67,72,A2x,[.t 4]),
 (68,7,A8V,[]),
 (69,23,B2w,[.t 4]),
 (70,42,A8W,[.c 2 11 true]),
 (71,53,A9d,[.t 2]),
 (72,118,B2v,[.t 2]),
 (73,60,A2C,[.t 4]),
 (74,65,B0a,[.t 2]),
 (78,20,A8C,[.t 2]),
 (79,42,B0d,[.t 2]),
 (93,17,A1d,[.t 4]),
 (94,21,A1c,[.c 2 256 true,.t 3]),
 (95,16,A0e,[.t 4]),
 (96,23,X9,[.t 4]),
 (97,17,Y9,[]),
 (98,122,Z1,[.t 2]),
 (99,31,A1m,[.t 2]),
 (100,14,A1l,[.t 2]),
 (101,32,A0u,[.t 2]),
 (102,17,Z0,[]),
 (103,76,p8,[.c 2 5 true]),
 (104,52,A4l,[]),
 (105,67,A1V,[]),
 (106,102,Y5,[]),
 (107,8,L5,[.t 2]),
 (108,8,A0W,[.t 2]),
 (109,8,L6,[.t 2]),
 (110,8,T6,[.t 2]),
 (111,8,P9,[.t 2]),
 (112,6,A5M,[.t 2]),
 (113,9,K5,[.t 4]),
 (114,8,A5N,[.t 3]),
 (115,9,J2,[.t 4]),
 (116,8,A5O,[.t 3]),
 (117,9,R2,[.t 4]),
 (118,5,A8Z,[.t 2]),
 (119,6,A9a,[.t 2]),
 (120,74,B0t,[.t 2]),
 (121,85,A8I,[.t 2]),
 (122,88,A8K,[.t 2,.t 3]),
 (123,92,A7j,[.t 2,.t 3]),
 (124,17,A9h,[.t 6]),
 (125,14,A7h,[.t 2,.t 3]),
 (126,63,A9e,[.t 4]),
 (129,33,A5V,[.t 2]),
 (130,25,B3L,[.c 2 6 true,.t 3]),
 (131,24,A7k,[.c 4 4 true,.c 5 4 true]),
 (133,88,A0H,[.t 2]),
 (148,10,V1,[.t 4]),
 (150,9,A1b,[.t 4]),
 (151,9,A5p,[.t 2]),
 (153,55,S1,[.t 4]),
 (155,52,A6V,[.c 2 2 true,.t 3]),
 (156,96,A8J,[.c 2 5 true,.t 3]),
 (157,19,O0,[.t 4]),
 (158,19,M0,[.t 4]),
 (159,19,W6,[.t 4]),
 (160,29,A5C,[.t 2,.t 3]),
 (161,53,B0e,[.t 4]),
 (162,7,A7l,[.t 2]),
 (163,23,B0f,[.t 4,.t 5]),
 (164,8,A5S,[.t 3]),
 (165,22,A5I,[.t 2,.t 3]),
 (170,12,A9j,[.t 4]),
 (171,106,A6g,[.t 2]),
 (172,75,A8O,[.c 2 6 true]),
 (188,5,A8G,[.t 2]),
 (190,81,A8D,[.c 4 4 true,.t 5]),
 (191,70,Z4,[.c 4 2 true,.t 5]),
 (192,71,A3s,[.c 2 2 true,.t 3]),
 (194,12,B3K,[.t 2,.t 3]),
 (195,11,A1w,[]),
 (196,61,Z6,[.t 2]),
 (215,43,A9p,[.t 4]),
 (217,29,B0c,[.t 6]),
 (218,31,A4t,[.t 4,.t 5]),
 (219,29,A7A,[.c 4 2 true,.t 5]),
 (221,19,T9,[.t 4]),
 (230,23,A0f,[.t 4]),
 (231,22,d6,[.t 4]),
 (232,34,W8,[.t 4]),
 (233,35,A6X,[.t 2]),
 (234,39,A4C,[.c 4 2 true,.t 5])]
theorem B4X:B3 Tryz.prog exT:= 
 (B3.cons A1F 
 (B3.cons D6 
 (B3.cons A1E 
 (B3.cons E2 
 (B3.cons F0 
 (B3.cons A0k 
 (B3.cons t6 
 (B3.cons A6a 
 (B3.cons A2f 
 (B3.cons A5m 
 (B3.cons A8U 
 (B3.cons A6c 
 (B3.cons A0N 
 (B3.cons B0i 
 (B3.cons t7 
 (B3.cons A0P 
 (B3.cons A3Q 
 (B3.cons A5q 
 (B3.cons F9 
 (B3.cons G4 
 (B3.cons A3Y 
 (B3.cons A0q 
 (B3.cons A0r 
 (B3.cons A8Y 
 (B3.cons B0h 
 (B3.cons A7y 
 (B3.cons A0L 
 (B3.cons A1v 
 (B3.cons K7 
 (B3.cons A0b 
 (B3.cons K9 
 (B3.cons R4 
 (B3.cons O7 
 (B3.cons E5 
 (B3.cons A3m 
 (B3.cons A2p 
 (B3.cons A6S 
 (B3.cons A6U 
 (B3.cons A4m 
 (B3.cons A3o 
 (B3.cons A2o 
 (B3.cons A2j 
 (B3.cons A6L 
 (B3.cons A0p 
 (B3.cons G6 
 (B3.cons A7n 
 (B3.cons B0o 
 (B3.cons A7p 
 (B3.cons A7t 
 (B3.cons B0m 
 (B3.cons A1X 
 (B3.cons A8p 
 (B3.cons A6W 
 (B3.cons A8M 
 (B3.cons A6k 
 (B3.cons A6i 
 (B3.cons d5 
 (B3.cons A3K 
 (B3.cons X2 
 (B3.cons X5 
 (B3.cons A0t 
 (B3.cons A0s 
 (B3.cons p9 
 (B3.cons X3 
 (B3.cons Z2 
 (B3.cons A3n 
 (B3.cons A1i 
 (B3.cons A1U 
 (B3.cons K3 
 (B3.cons w8 
 (B3.cons K4 
 (B3.cons R1 
 (B3.cons O5 
 (B3.cons A4v 
 (B3.cons J5 
 (B3.cons A4w 
 (B3.cons J0 
 (B3.cons A4x 
 (B3.cons Q0 
 (B3.cons A7r 
 (B3.cons A7s 
 (B3.cons A9s 
 (B3.cons A7d 
 (B3.cons A7g 
 (B3.cons A5B 
 (B3.cons A7z 
 (B3.cons A5A 
 (B3.cons A7u 
 (B3.cons A4B 
 (B3.cons B2m 
 (B3.cons A5D 
 (B3.cons A6d 
 (B3.cons U0 
 (B3.cons A6f 
 (B3.cons A4j 
 (B3.cons p7 
 (B3.cons A5v 
 (B3.cons A7f 
 (B3.cons M9 
 (B3.cons L1 
 (B3.cons U8 
 (B3.cons B2l 
 (B3.cons A8N 
 (B3.cons A5E 
 (B3.cons A8Q 
 (B3.cons A4y 
 (B3.cons A4u 
 (B3.cons A7C 
 (B3.cons B2P 
 (B3.cons B4a 
 (B3.cons A7a 
 (B3.cons A6Y 
 (B3.cons X7 
 (B3.cons A2A 
 (B3.cons B2j 
 (B3.cons A6J 
 (B3.cons A3X 
 (B3.cons A7I 
 (B3.cons A8F 
 (B3.cons A3u 
 (B3.cons A5U 
 (B3.cons R6 
 (B3.cons A4X 
 (B3.cons Y1 
 (B3.cons A2M 
 (B3.cons A5w 
 (B3.cons A3z B3.nil)))))))))))))))))))))))))))))))))))))))))))))))))))))))))))))))))))))))))))))))))))))))))))))))))))))))))))))))))))))))))))))))
end Go.Proofs.YtflobbpcabopjaaGreatDoor
