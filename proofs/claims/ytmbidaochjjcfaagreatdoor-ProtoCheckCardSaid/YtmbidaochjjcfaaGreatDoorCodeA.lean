/-
  The code of the functions that this seat reaches, translated into abstract code (printed by a program, each proved to be the translation). No condition.
-/
import Derived.Test.YtmbidaochjjcfaaGreatDoorExe
import Derived.Test.YtmbidaochjjcfaaGreatDoorChecked
set_option maxRecDepth 1000000
namespace Go.Proofs.YtmbidaochjjcfaaGreatDoor
open Go.Abs

@[go_sem] def scriptinglaw33_ProtoCheck_r0 : List AI := [
  ⟨(some 1), none, .box 30001 11 (.t 0)⟩,
  ⟨(some 2), none, .mov (.c (.bool false))⟩]
@[go_sem] def scriptinglaw33_ProtoCheck_r1 : List AI := [
  ⟨(some 3), none, .load 11 true (.t 1)⟩,
  ⟨(some 4), none, .call 4 [(.t 3)]⟩]
@[go_sem] def scriptinglaw33_ProtoCheck_r2 : List AI := [
  ⟨(some 5), none, .call 5 []⟩,
  ⟨(some 2), none, .mov (.t 5)⟩]
@[go_sem] def scriptinglaw33_ProtoCheck_r3_0 : List AI := [
  ⟨(some 6), none, .load 11 true (.t 1)⟩,
  ⟨(some 8), none, .load 11 true (.t 1)⟩,
  ⟨(some 7), none, .call 6 [(.t 6)]⟩,
  ⟨(some 9), none, .call 7 [(.t 8)]⟩,
  ⟨(some 10), none, .bin .eql (.t 7) (.t 9)⟩,
  ⟨(some 11), none, .mov (.t 10)⟩,
  ⟨(some 12), (some (11, true)), .call 5 []⟩,
  ⟨(some 13), none, .pick (.t 11) (.t 12) (.c (.bool false))⟩,
  ⟨(some 2), none, .mov (.t 13)⟩]
@[go_sem] def scriptinglaw33_ProtoCheck_r3_1 : List AI := [
  ⟨(some 6), none, .load 11 true (.t 1)⟩,
  ⟨(some 7), none, .call 6 [(.t 6)]⟩,
  ⟨(some 8), none, .load 11 true (.t 1)⟩,
  ⟨(some 9), none, .call 7 [(.t 8)]⟩,
  ⟨(some 10), none, .bin .eql (.t 7) (.t 9)⟩,
  ⟨(some 11), none, .mov (.t 10)⟩,
  ⟨(some 12), (some (11, true)), .call 5 []⟩,
  ⟨(some 13), none, .pick (.t 11) (.t 12) (.c (.bool false))⟩,
  ⟨(some 2), none, .mov (.t 13)⟩]
@[go_sem] def scriptinglaw33_ProtoCheck_c : AC := .seq (.ops [scriptinglaw33_ProtoCheck_r0]) (.seq (.seq (.ops [scriptinglaw33_ProtoCheck_r1]) (.cond (.t 4) (.seq (.ops [scriptinglaw33_ProtoCheck_r2]) (.ret)) (.skip))) (.seq (.ops [scriptinglaw33_ProtoCheck_r3_0, scriptinglaw33_ProtoCheck_r3_1]) (.ret)))
theorem scriptinglaw33_ProtoCheck_ok : compF Tryz.prog 3 = some (14, scriptinglaw33_ProtoCheck_c, [.t 2]) := by kernel_rfl

@[go_sem] def scriptinglaw33_Large_r0 : List AI := [
  ⟨(some 1), none, .box 40001 11 (.t 0)⟩,
  ⟨(some 2), none, .mov (.c (.bool false))⟩]
@[go_sem] def scriptinglaw33_Large_r1 : List AI := [
  ⟨(some 6), none, .load 11 true (.t 1)⟩,
  ⟨(some 7), none, .mkrow 40007 11 [(.t 6)]⟩,
  ⟨(some 3), none, .mov (.t 7)⟩]
@[go_sem] def scriptinglaw33_Large_r2 : List AI := [
  ⟨(some 4), none, .mov (.c (.int .i64 0))⟩]
@[go_sem] def scriptinglaw33_Large_r3 : List AI := [
  ⟨(some 8), none, .mov (.t 4)⟩,
  ⟨(some 9), none, .mov (.t 3)⟩,
  ⟨(some 10), none, .len 0 (.t 9)⟩,
  ⟨(some 11), none, .bin .lss (.t 8) (.t 10)⟩]
@[go_sem] def scriptinglaw33_Large_r4 : List AI := [
  ⟨(some 14), none, .mov (.t 3)⟩,
  ⟨(some 15), none, .mov (.t 4)⟩,
  ⟨(some 16), none, .iaddr 11 (.t 14) (.t 15)⟩,
  ⟨(some 17), none, .load 11 true (.t 16)⟩,
  ⟨(some 5), none, .box 40005 11 (.c (.agg [(.str []), (.int .i64 0), (.int .i64 0), (.bool false), (.int .i64 0), .nils, .nils, .nils, .nils, .nils, .nils]))⟩,
  ⟨none, none, .store 11 (.t 5) (.t 17)⟩]
@[go_sem] def scriptinglaw33_Large_r5 : List AI := [
  ⟨(some 18), none, .faddr 5 (.t 5)⟩,
  ⟨(some 19), none, .load 1 false (.t 18)⟩,
  ⟨(some 20), none, .len 0 (.t 19)⟩,
  ⟨(some 21), none, .faddr 6 (.t 5)⟩,
  ⟨(some 22), none, .load 1 false (.t 21)⟩,
  ⟨(some 23), none, .len 0 (.t 22)⟩,
  ⟨(some 24), none, .bin .add (.t 20) (.t 23)⟩,
  ⟨(some 25), none, .faddr 7 (.t 5)⟩,
  ⟨(some 26), none, .load 1 false (.t 25)⟩,
  ⟨(some 27), none, .len 0 (.t 26)⟩,
  ⟨(some 28), none, .bin .add (.t 24) (.t 27)⟩,
  ⟨(some 29), none, .faddr 9 (.t 5)⟩,
  ⟨(some 30), none, .load 1 false (.t 29)⟩,
  ⟨(some 31), none, .len 0 (.t 30)⟩,
  ⟨(some 32), none, .bin .add (.t 28) (.t 31)⟩,
  ⟨(some 33), none, .faddr 10 (.t 5)⟩,
  ⟨(some 34), none, .load 1 false (.t 33)⟩,
  ⟨(some 35), none, .len 0 (.t 34)⟩,
  ⟨(some 36), none, .bin .add (.t 32) (.t 35)⟩,
  ⟨(some 37), none, .bin .gtr (.t 36) (.c (.int .i64 400))⟩,
  ⟨(some 38), none, .mov (.t 37)⟩,
  ⟨(some 39), (some (38, false)), .faddr 8 (.t 5)⟩,
  ⟨(some 40), (some (38, false)), .load 1 false (.t 39)⟩,
  ⟨(some 41), (some (38, false)), .len 0 (.t 40)⟩,
  ⟨(some 42), (some (38, false)), .bin .gtr (.t 41) (.c (.int .i64 40))⟩,
  ⟨(some 43), none, .pick (.t 38) (.c (.bool true)) (.t 42)⟩]
@[go_sem] def scriptinglaw33_Large_r6 : List AI := [
  ⟨(some 2), none, .mov (.c (.bool true))⟩]
@[go_sem] def scriptinglaw33_Large_r7 : List AI := [
  ⟨(some 44), none, .mov (.t 3)⟩,
  ⟨(some 45), none, .faddr 8 (.t 5)⟩,
  ⟨(some 46), none, .load 1 false (.t 45)⟩,
  ⟨(some 47), none, .app 40047 11 (.t 44) (.t 46)⟩,
  ⟨(some 3), none, .mov (.t 47)⟩]
@[go_sem] def scriptinglaw33_Large_r8 : List AI := [
  ⟨(some 48), none, .mov (.t 3)⟩,
  ⟨(some 49), none, .len 0 (.t 48)⟩,
  ⟨(some 50), none, .bin .gtr (.t 49) (.c (.int .i64 40))⟩]
@[go_sem] def scriptinglaw33_Large_r9 : List AI := [
  ⟨(some 2), none, .mov (.c (.bool true))⟩]
@[go_sem] def scriptinglaw33_Large_r10 : List AI := [
  ⟨(some 12), none, .mov (.t 4)⟩,
  ⟨(some 13), none, .bin .add (.t 12) (.c (.int .i64 1))⟩,
  ⟨(some 4), none, .mov (.t 13)⟩]
def scriptinglaw33_Large_l0 : AC := .seq (.seq (.ops [scriptinglaw33_Large_r3]) (.cond (.t 11) (.skip) (.exit 0))) (.seq (.block 1 (.seq (.ops [scriptinglaw33_Large_r4]) (.seq (.seq (.ops [scriptinglaw33_Large_r5]) (.cond (.t 43) (.seq (.ops [scriptinglaw33_Large_r6]) (.ret)) (.skip))) (.seq (.ops [scriptinglaw33_Large_r7]) (.seq (.ops [scriptinglaw33_Large_r8]) (.cond (.t 50) (.seq (.ops [scriptinglaw33_Large_r9]) (.ret)) (.skip))))))) (.ops [scriptinglaw33_Large_r10]))
theorem scriptinglaw33_Large_l0_eq : scriptinglaw33_Large_l0 = .seq (.seq (.ops [scriptinglaw33_Large_r3]) (.cond (.t 11) (.skip) (.exit 0))) (.seq (.block 1 (.seq (.ops [scriptinglaw33_Large_r4]) (.seq (.seq (.ops [scriptinglaw33_Large_r5]) (.cond (.t 43) (.seq (.ops [scriptinglaw33_Large_r6]) (.ret)) (.skip))) (.seq (.ops [scriptinglaw33_Large_r7]) (.seq (.ops [scriptinglaw33_Large_r8]) (.cond (.t 50) (.seq (.ops [scriptinglaw33_Large_r9]) (.ret)) (.skip))))))) (.ops [scriptinglaw33_Large_r10])) := rfl
@[go_sem] def scriptinglaw33_Large_r11 : List AI := [
  ⟨(some 2), none, .mov (.c (.bool false))⟩]
@[go_sem] def scriptinglaw33_Large_c : AC := .seq (.ops [scriptinglaw33_Large_r0]) (.seq (.ops [scriptinglaw33_Large_r1]) (.seq (.seq (.ops [scriptinglaw33_Large_r2]) (.block 0 (.loop scriptinglaw33_Large_l0))) (.seq (.ops [scriptinglaw33_Large_r11]) (.ret))))
theorem scriptinglaw33_Large_ok : compF Tryz.prog 4 = some (51, scriptinglaw33_Large_c, [.t 2]) := by kernel_rfl

@[go_sem] def scriptinglaw33_lives_r0 : List AI := [
  ⟨(some 0), none, .mov (.c (.bool false))⟩]
@[go_sem] def scriptinglaw33_lives_r1 : List AI := [
  ⟨(some 3), none, .build [(.int .i64 0), (.int .i64 0), (.int .i64 0), (.int .i64 0), (.int .i64 0)] [(0, 1, (.c (.int .i64 18)))]⟩,
  ⟨(some 4), none, .mkrow 50004 5 [(.t 3)]⟩,
  ⟨(some 5), none, .build [(.str []), (.int .i64 0), (.int .i64 0), (.bool false), (.int .i64 0), .nils, .nils, .nils, .nils, .nils, .nils] [(5, 1, (.t 4))]⟩,
  ⟨(some 1), none, .box 50001 11 (.c (.agg [(.str []), (.int .i64 0), (.int .i64 0), (.bool false), (.int .i64 0), .nils, .nils, .nils, .nils, .nils, .nils]))⟩,
  ⟨none, none, .store 11 (.t 1) (.t 5)⟩]
@[go_sem] def scriptinglaw33_lives_r2 : List AI := [
  ⟨(some 6), none, .build [(.int .i64 0), (.int .i64 0), (.int .i64 0), (.int .i64 0), (.int .i64 0)] [(0, 1, (.c (.int .i64 18)))]⟩,
  ⟨(some 7), none, .mkrow 50007 5 [(.t 6)]⟩,
  ⟨(some 8), none, .load 11 true (.t 1)⟩,
  ⟨(some 9), none, .load 11 true (.t 1)⟩,
  ⟨(some 10), none, .mkrow 50010 11 [(.t 8), (.t 9)]⟩,
  ⟨(some 11), none, .build [(.str []), (.int .i64 0), (.int .i64 0), (.bool false), (.int .i64 0), .nils, .nils, .nils, .nils, .nils, .nils] [(5, 1, (.t 7)), (8, 1, (.t 10))]⟩,
  ⟨(some 2), none, .box 50002 11 (.c (.agg [(.str []), (.int .i64 0), (.int .i64 0), (.bool false), (.int .i64 0), .nils, .nils, .nils, .nils, .nils, .nils]))⟩,
  ⟨none, none, .store 11 (.t 2) (.t 11)⟩]
@[go_sem] def scriptinglaw33_lives_r3 : List AI := [
  ⟨(some 12), none, .load 11 true (.t 2)⟩,
  ⟨(some 13), none, .call 6 [(.t 12)]⟩,
  ⟨(some 14), none, .bin .eql (.t 13) (.c (.int .i64 0))⟩,
  ⟨(some 15), none, .mov (.t 14)⟩,
  ⟨(some 16), (some (15, true)), .load 11 true (.t 2)⟩,
  ⟨(some 17), (some (15, true)), .call 8 [(.t 16)]⟩,
  ⟨(some 18), (some (15, true)), .bin .eql (.t 17) (.c (.int .i64 3))⟩,
  ⟨(some 19), none, .pick (.t 15) (.t 18) (.c (.bool false))⟩,
  ⟨(some 20), none, .mov (.t 19)⟩,
  ⟨(some 21), (some (20, true)), .load 11 true (.t 2)⟩,
  ⟨(some 22), (some (20, true)), .call 9 [(.t 21)]⟩,
  ⟨(some 23), (some (20, true)), .bin .eql (.t 22) (.c (.int .i64 3))⟩,
  ⟨(some 24), none, .pick (.t 20) (.t 23) (.c (.bool false))⟩,
  ⟨(some 0), none, .mov (.t 24)⟩]
@[go_sem] def scriptinglaw33_lives_c : AC := .seq (.ops [scriptinglaw33_lives_r0]) (.seq (.ops [scriptinglaw33_lives_r1]) (.seq (.ops [scriptinglaw33_lives_r2]) (.seq (.ops [scriptinglaw33_lives_r3]) (.ret))))
theorem scriptinglaw33_lives_ok : compF Tryz.prog 5 = some (25, scriptinglaw33_lives_c, [.t 0]) := by kernel_rfl

@[go_sem] def proto_Check_r0 : List AI := [
  ⟨(some 1), none, .box 60001 11 (.t 0)⟩,
  ⟨(some 2), none, .box 60002 1 (.c (.int .i64 0))⟩]
@[go_sem] def proto_Check_r1 : List AI := [
  ⟨(some 5), none, .load 11 true (.t 1)⟩,
  ⟨(some 6), none, .call 10 [(.t 5)]⟩,
  ⟨(some 7), none, .bin .gtr (.t 6) (.c (.int .i64 64))⟩]
@[go_sem] def proto_Check_r2 : List AI := [
  ⟨none, none, .store 1 (.t 2) (.c (.int .i64 3))⟩]
@[go_sem] def proto_Check_r3 : List AI := [
  ⟨(some 8), none, .load 11 true (.t 1)⟩,
  ⟨(some 9), none, .call 11 [(.t 8)]⟩]
@[go_sem] def proto_Check_r4 : List AI := [
  ⟨(some 3), none, .box 60003 11 (.c (.agg [(.str []), (.int .i64 0), (.int .i64 0), (.bool false), (.int .i64 0), .nils, .nils, .nils, .nils, .nils, .nils]))⟩,
  ⟨none, none, .store 11 (.t 3) (.t 10)⟩]
@[go_sem] def proto_Check_r5 : List AI := [
  ⟨(some 11), none, .load 11 true (.t 3)⟩,
  ⟨(some 12), none, .call 12 [(.t 11)]⟩,
  ⟨(some 4), none, .mov (.t 12)⟩]
@[go_sem] def proto_Check_r6 : List AI := [
  ⟨(some 13), none, .mov (.t 4)⟩,
  ⟨(some 14), none, .bin .neq (.t 13) (.c (.int .i64 0))⟩]
@[go_sem] def proto_Check_r7 : List AI := [
  ⟨(some 15), none, .mov (.t 4)⟩,
  ⟨none, none, .store 1 (.t 2) (.t 15)⟩]
def proto_Check_g0a : AC := .ops [proto_Check_r4]
theorem proto_Check_g0a_eq : proto_Check_g0a = .ops [proto_Check_r4] := rfl
def proto_Check_g0b : AC := .block 1 (.seq (.ops [proto_Check_r5]) (.seq (.ops [proto_Check_r6]) (.cond (.t 14) (.seq (.ops [proto_Check_r7]) (.ret)) (.skip))))
theorem proto_Check_g0b_eq : proto_Check_g0b = .block 1 (.seq (.ops [proto_Check_r5]) (.seq (.ops [proto_Check_r6]) (.cond (.t 14) (.seq (.ops [proto_Check_r7]) (.ret)) (.skip)))) := rfl
@[go_sem] def proto_Check_r8 : List AI := [
  ⟨none, none, .store 1 (.t 2) (.c (.int .i64 0))⟩]
@[go_sem] def proto_Check_c : AC := .seq (.ops [proto_Check_r0]) (.seq (.seq (.ops [proto_Check_r1]) (.cond (.t 7) (.seq (.ops [proto_Check_r2]) (.ret)) (.skip))) (.seq (.seq (.ops [proto_Check_r3]) (.block 0 (.rng 69010 (.t 9) [10] proto_Check_g0a proto_Check_g0b))) (.seq (.ops [proto_Check_r8]) (.ret))))
theorem proto_Check_ok : compF Tryz.prog 6 = some (16, proto_Check_c, [.c 2 1 false]) := by kernel_rfl

@[go_sem] def scriptingref33_Check_r0 : List AI := [
  ⟨(some 1), none, .box 70001 11 (.t 0)⟩,
  ⟨(some 2), none, .mov (.c (.int .i64 0))⟩]
@[go_sem] def scriptingref33_Check_r1 : List AI := [
  ⟨(some 6), none, .load 11 true (.t 1)⟩,
  ⟨(some 7), none, .call 13 [(.t 6)]⟩,
  ⟨(some 8), none, .bin .gtr (.t 7) (.c (.int .i64 64))⟩]
@[go_sem] def scriptingref33_Check_r2 : List AI := [
  ⟨(some 2), none, .mov (.c (.int .i64 3))⟩]
@[go_sem] def scriptingref33_Check_r3 : List AI := [
  ⟨(some 9), none, .load 11 true (.t 1)⟩,
  ⟨(some 10), none, .call 14 [(.t 9)]⟩,
  ⟨(some 3), none, .mov (.t 10)⟩]
@[go_sem] def scriptingref33_Check_r4 : List AI := [
  ⟨(some 4), none, .mov (.c (.int .i64 0))⟩]
@[go_sem] def scriptingref33_Check_r5 : List AI := [
  ⟨(some 11), none, .mov (.t 4)⟩,
  ⟨(some 12), none, .mov (.t 3)⟩,
  ⟨(some 13), none, .len 0 (.t 12)⟩,
  ⟨(some 14), none, .bin .lss (.t 11) (.t 13)⟩]
@[go_sem] def scriptingref33_Check_r6 : List AI := [
  ⟨(some 17), none, .mov (.t 3)⟩,
  ⟨(some 18), none, .mov (.t 4)⟩,
  ⟨(some 19), none, .iaddr 11 (.t 17) (.t 18)⟩,
  ⟨(some 20), none, .load 11 true (.t 19)⟩,
  ⟨(some 21), none, .call 15 [(.t 20)]⟩,
  ⟨(some 5), none, .mov (.t 21)⟩]
@[go_sem] def scriptingref33_Check_r7 : List AI := [
  ⟨(some 22), none, .mov (.t 5)⟩,
  ⟨(some 23), none, .bin .neq (.t 22) (.c (.int .i64 0))⟩]
@[go_sem] def scriptingref33_Check_r8 : List AI := [
  ⟨(some 24), none, .mov (.t 5)⟩,
  ⟨(some 2), none, .mov (.t 24)⟩]
@[go_sem] def scriptingref33_Check_r9 : List AI := [
  ⟨(some 15), none, .mov (.t 4)⟩,
  ⟨(some 16), none, .bin .add (.t 15) (.c (.int .i64 1))⟩,
  ⟨(some 4), none, .mov (.t 16)⟩]
def scriptingref33_Check_l0 : AC := .seq (.seq (.ops [scriptingref33_Check_r5]) (.cond (.t 14) (.skip) (.exit 0))) (.seq (.block 1 (.seq (.ops [scriptingref33_Check_r6]) (.seq (.ops [scriptingref33_Check_r7]) (.cond (.t 23) (.seq (.ops [scriptingref33_Check_r8]) (.ret)) (.skip))))) (.ops [scriptingref33_Check_r9]))
theorem scriptingref33_Check_l0_eq : scriptingref33_Check_l0 = .seq (.seq (.ops [scriptingref33_Check_r5]) (.cond (.t 14) (.skip) (.exit 0))) (.seq (.block 1 (.seq (.ops [scriptingref33_Check_r6]) (.seq (.ops [scriptingref33_Check_r7]) (.cond (.t 23) (.seq (.ops [scriptingref33_Check_r8]) (.ret)) (.skip))))) (.ops [scriptingref33_Check_r9])) := rfl
@[go_sem] def scriptingref33_Check_r10 : List AI := [
  ⟨(some 2), none, .mov (.c (.int .i64 0))⟩]
@[go_sem] def scriptingref33_Check_c : AC := .seq (.ops [scriptingref33_Check_r0]) (.seq (.seq (.ops [scriptingref33_Check_r1]) (.cond (.t 8) (.seq (.ops [scriptingref33_Check_r2]) (.ret)) (.skip))) (.seq (.ops [scriptingref33_Check_r3]) (.seq (.seq (.ops [scriptingref33_Check_r4]) (.block 0 (.loop scriptingref33_Check_l0))) (.seq (.ops [scriptingref33_Check_r10]) (.ret)))))
theorem scriptingref33_Check_ok : compF Tryz.prog 7 = some (25, scriptingref33_Check_c, [.t 2]) := by kernel_rfl

@[go_sem] def proto_Count_r0 : List AI := [
  ⟨(some 1), none, .box 80001 11 (.t 0)⟩,
  ⟨(some 2), none, .mov (.c (.int .i64 0))⟩]
@[go_sem] def proto_Count_r1 : List AI := [
  ⟨(some 3), none, .box 80003 1 (.c (.int .i64 0))⟩,
  ⟨none, none, .store 1 (.t 3) (.c (.int .i64 0))⟩]
@[go_sem] def proto_Count_r2 : List AI := [
  ⟨(some 4), none, .load 11 true (.t 1)⟩,
  ⟨(some 5), none, .call 11 [(.t 4)]⟩]
@[go_sem] def proto_Count_r3 : List AI := [
  ⟨(some 7), none, .load 1 false (.t 3)⟩,
  ⟨(some 8), none, .bin .add (.t 7) (.c (.int .i64 1))⟩,
  ⟨none, none, .store 1 (.t 3) (.t 8)⟩]
def proto_Count_g0a : AC := .skip
theorem proto_Count_g0a_eq : proto_Count_g0a = .skip := rfl
def proto_Count_g0b : AC := .block 1 (.ops [proto_Count_r3])
theorem proto_Count_g0b_eq : proto_Count_g0b = .block 1 (.ops [proto_Count_r3]) := rfl
@[go_sem] def proto_Count_r4 : List AI := [
  ⟨(some 9), none, .load 1 false (.t 3)⟩,
  ⟨(some 2), none, .mov (.t 9)⟩]
@[go_sem] def proto_Count_c : AC := .seq (.ops [proto_Count_r0]) (.seq (.ops [proto_Count_r1]) (.seq (.seq (.ops [proto_Count_r2]) (.block 0 (.rng 89006 (.t 5) [6] proto_Count_g0a proto_Count_g0b))) (.seq (.ops [proto_Count_r4]) (.ret))))
theorem proto_Count_ok : compF Tryz.prog 8 = some (10, proto_Count_c, [.t 2]) := by kernel_rfl

@[go_sem] def proto_Size_r0 : List AI := [
  ⟨(some 1), none, .box 90001 11 (.t 0)⟩,
  ⟨(some 2), none, .mov (.c (.int .i64 0))⟩]
@[go_sem] def proto_Size_r1 : List AI := [
  ⟨(some 3), none, .box 90003 1 (.c (.int .i64 0))⟩,
  ⟨none, none, .store 1 (.t 3) (.c (.int .i64 0))⟩]
@[go_sem] def proto_Size_r2 : List AI := [
  ⟨(some 5), none, .load 11 true (.t 1)⟩,
  ⟨(some 6), none, .call 11 [(.t 5)]⟩]
@[go_sem] def proto_Size_r3 : List AI := [
  ⟨(some 4), none, .box 90004 11 (.c (.agg [(.str []), (.int .i64 0), (.int .i64 0), (.bool false), (.int .i64 0), .nils, .nils, .nils, .nils, .nils, .nils]))⟩,
  ⟨none, none, .store 11 (.t 4) (.t 7)⟩]
@[go_sem] def proto_Size_r4 : List AI := [
  ⟨(some 8), none, .load 1 false (.t 3)⟩,
  ⟨(some 9), none, .faddr 5 (.t 4)⟩,
  ⟨(some 10), none, .load 1 false (.t 9)⟩,
  ⟨(some 11), none, .len 0 (.t 10)⟩,
  ⟨(some 12), none, .bin .add (.t 8) (.t 11)⟩,
  ⟨none, none, .store 1 (.t 3) (.t 12)⟩]
def proto_Size_g0a : AC := .ops [proto_Size_r3]
theorem proto_Size_g0a_eq : proto_Size_g0a = .ops [proto_Size_r3] := rfl
def proto_Size_g0b : AC := .block 1 (.ops [proto_Size_r4])
theorem proto_Size_g0b_eq : proto_Size_g0b = .block 1 (.ops [proto_Size_r4]) := rfl
@[go_sem] def proto_Size_r5 : List AI := [
  ⟨(some 13), none, .load 1 false (.t 3)⟩,
  ⟨(some 2), none, .mov (.t 13)⟩]
@[go_sem] def proto_Size_c : AC := .seq (.ops [proto_Size_r0]) (.seq (.ops [proto_Size_r1]) (.seq (.seq (.ops [proto_Size_r2]) (.block 0 (.rng 99007 (.t 6) [7] proto_Size_g0a proto_Size_g0b))) (.seq (.ops [proto_Size_r5]) (.ret))))
theorem proto_Size_ok : compF Tryz.prog 9 = some (14, proto_Size_c, [.t 2]) := by kernel_rfl

@[go_sem] def proto_depth_r0 : List AI := [
  ⟨(some 1), none, .box 100001 11 (.t 0)⟩,
  ⟨(some 2), none, .mov (.c (.int .i64 0))⟩]
@[go_sem] def proto_depth_r1 : List AI := [
  ⟨(some 3), none, .mov (.c (.int .i64 0))⟩]
@[go_sem] def proto_depth_r2 : List AI := [
  ⟨(some 6), none, .faddr 8 (.t 1)⟩,
  ⟨(some 7), none, .load 1 false (.t 6)⟩,
  ⟨(some 8), none, .len 0 (.t 7)⟩,
  ⟨(some 9), none, .mov (.c (.int .i64 0))⟩]
@[go_sem] def proto_depth_r3 : List AI := [
  ⟨(some 10), none, .bin .lss (.t 9) (.t 8)⟩]
@[go_sem] def proto_depth_r4 : List AI := [
  ⟨(some 11), none, .iaddr 11 (.t 7) (.t 9)⟩,
  ⟨(some 12), none, .load 11 true (.t 11)⟩,
  ⟨(some 5), none, .box 100005 11 (.c (.agg [(.str []), (.int .i64 0), (.int .i64 0), (.bool false), (.int .i64 0), .nils, .nils, .nils, .nils, .nils, .nils]))⟩,
  ⟨none, none, .store 11 (.t 5) (.t 12)⟩]
@[go_sem] def proto_depth_r5 : List AI := [
  ⟨(some 13), none, .mov (.t 3)⟩,
  ⟨(some 14), none, .load 11 true (.t 5)⟩,
  ⟨(some 15), none, .call 10 [(.t 14)]⟩,
  ⟨(some 16), none, .mm true [(.t 13), (.t 15)]⟩,
  ⟨(some 3), none, .mov (.t 16)⟩]
@[go_sem] def proto_depth_r6 : List AI := [
  ⟨(some 17), none, .bin .add (.t 9) (.c (.int .i64 1))⟩,
  ⟨(some 9), none, .mov (.t 17)⟩]
def proto_depth_l0 : AC := .seq (.ops [proto_depth_r3]) (.seq (.cond (.t 10) (.skip) (.exit 0)) (.seq (.block 1 (.seq (.ops [proto_depth_r4]) (.ops [proto_depth_r5]))) (.ops [proto_depth_r6])))
theorem proto_depth_l0_eq : proto_depth_l0 = .seq (.ops [proto_depth_r3]) (.seq (.cond (.t 10) (.skip) (.exit 0)) (.seq (.block 1 (.seq (.ops [proto_depth_r4]) (.ops [proto_depth_r5]))) (.ops [proto_depth_r6]))) := rfl
@[go_sem] def proto_depth_r7 : List AI := [
  ⟨(some 18), none, .mov (.t 3)⟩,
  ⟨(some 19), none, .bin .add (.t 18) (.c (.int .i64 1))⟩,
  ⟨(some 2), none, .mov (.t 19)⟩]
@[go_sem] def proto_depth_c : AC := .seq (.ops [proto_depth_r0]) (.seq (.ops [proto_depth_r1]) (.seq (.seq (.ops [proto_depth_r2]) (.block 0 (.loop proto_depth_l0))) (.seq (.ops [proto_depth_r7]) (.ret))))
theorem proto_depth_ok : compF Tryz.prog 10 = some (20, proto_depth_c, [.t 2]) := by kernel_rfl

@[go_sem] def proto_Each_r0 : List AI := [
  ⟨(some 1), none, .box 110001 11 (.t 0)⟩,
  ⟨(some 2), none, .mov (.c (.cst .nilFunc))⟩]
@[go_sem] def proto_Each_r1 : List AI := [
  ⟨(some 3), none, .mkfn 16 [(.t 1)]⟩,
  ⟨(some 2), none, .mov (.t 3)⟩]
@[go_sem] def proto_Each_c : AC := .seq (.ops [proto_Each_r0]) (.seq (.ops [proto_Each_r1]) (.ret))
theorem proto_Each_ok : compF Tryz.prog 11 = some (4, proto_Each_c, [.t 2]) := by kernel_rfl

@[go_sem] def proto_single_r0 : List AI := [
  ⟨(some 1), none, .box 120001 11 (.t 0)⟩,
  ⟨(some 2), none, .mov (.c (.int .i64 0))⟩]
@[go_sem] def proto_single_r1 : List AI := [
  ⟨(some 12), none, .load 11 true (.t 1)⟩,
  ⟨(some 13), none, .call 19 [(.t 12)]⟩,
  ⟨(some 3), none, .mov (.t 13)⟩]
@[go_sem] def proto_single_r2 : List AI := [
  ⟨(some 14), none, .mov (.t 3)⟩,
  ⟨(some 15), none, .bin .neq (.t 14) (.c (.int .i64 0))⟩]
@[go_sem] def proto_single_r3 : List AI := [
  ⟨(some 16), none, .mov (.t 3)⟩,
  ⟨(some 2), none, .mov (.t 16)⟩]
@[go_sem] def proto_single_r4 : List AI := [
  ⟨(some 17), none, .load 11 true (.t 1)⟩,
  ⟨(some 18), none, .call 20 [(.t 17)]⟩,
  ⟨(some 4), none, .mov (.t 18)⟩]
@[go_sem] def proto_single_r5 : List AI := [
  ⟨(some 19), none, .mov (.t 4)⟩,
  ⟨(some 20), none, .bin .neq (.t 19) (.c (.int .i64 0))⟩]
@[go_sem] def proto_single_r6 : List AI := [
  ⟨(some 21), none, .mov (.t 4)⟩,
  ⟨(some 2), none, .mov (.t 21)⟩]
@[go_sem] def proto_single_r7 : List AI := [
  ⟨(some 22), none, .faddr 5 (.t 1)⟩,
  ⟨(some 23), none, .load 1 false (.t 22)⟩,
  ⟨(some 24), none, .len 0 (.t 23)⟩,
  ⟨(some 25), none, .mov (.c (.int .i64 0))⟩]
@[go_sem] def proto_single_r8 : List AI := [
  ⟨(some 26), none, .bin .lss (.t 25) (.t 24)⟩]
@[go_sem] def proto_single_r9 : List AI := [
  ⟨(some 27), none, .iaddr 5 (.t 23) (.t 25)⟩,
  ⟨(some 28), none, .load 5 true (.t 27)⟩,
  ⟨(some 6), none, .box 120006 5 (.c (.agg [(.int .i64 0), (.int .i64 0), (.int .i64 0), (.int .i64 0), (.int .i64 0)]))⟩,
  ⟨none, none, .store 5 (.t 6) (.t 28)⟩]
@[go_sem] def proto_single_r10 : List AI := [
  ⟨(some 29), none, .load 11 true (.t 1)⟩,
  ⟨(some 30), none, .load 5 true (.t 6)⟩,
  ⟨(some 31), none, .call 21 [(.t 29), (.t 30)]⟩,
  ⟨(some 7), none, .mov (.t 31)⟩]
@[go_sem] def proto_single_r11 : List AI := [
  ⟨(some 32), none, .mov (.t 7)⟩,
  ⟨(some 33), none, .bin .neq (.t 32) (.c (.int .i64 0))⟩]
@[go_sem] def proto_single_r12 : List AI := [
  ⟨(some 34), none, .mov (.t 7)⟩,
  ⟨(some 2), none, .mov (.t 34)⟩]
@[go_sem] def proto_single_r13 : List AI := [
  ⟨(some 35), none, .bin .add (.t 25) (.c (.int .i64 1))⟩,
  ⟨(some 25), none, .mov (.t 35)⟩]
def proto_single_l0 : AC := .seq (.ops [proto_single_r8]) (.seq (.cond (.t 26) (.skip) (.exit 0)) (.seq (.block 1 (.seq (.ops [proto_single_r9]) (.seq (.ops [proto_single_r10]) (.seq (.ops [proto_single_r11]) (.cond (.t 33) (.seq (.ops [proto_single_r12]) (.ret)) (.skip)))))) (.ops [proto_single_r13])))
theorem proto_single_l0_eq : proto_single_l0 = .seq (.ops [proto_single_r8]) (.seq (.cond (.t 26) (.skip) (.exit 0)) (.seq (.block 1 (.seq (.ops [proto_single_r9]) (.seq (.ops [proto_single_r10]) (.seq (.ops [proto_single_r11]) (.cond (.t 33) (.seq (.ops [proto_single_r12]) (.ret)) (.skip)))))) (.ops [proto_single_r13]))) := rfl
@[go_sem] def proto_single_r14 : List AI := [
  ⟨(some 36), none, .faddr 8 (.t 1)⟩,
  ⟨(some 37), none, .load 1 false (.t 36)⟩,
  ⟨(some 38), none, .len 0 (.t 37)⟩,
  ⟨(some 39), none, .mov (.c (.int .i64 0))⟩]
@[go_sem] def proto_single_r15 : List AI := [
  ⟨(some 40), none, .bin .lss (.t 39) (.t 38)⟩]
@[go_sem] def proto_single_r16 : List AI := [
  ⟨(some 41), none, .iaddr 11 (.t 37) (.t 39)⟩,
  ⟨(some 42), none, .load 11 true (.t 41)⟩,
  ⟨(some 9), none, .box 120009 11 (.c (.agg [(.str []), (.int .i64 0), (.int .i64 0), (.bool false), (.int .i64 0), .nils, .nils, .nils, .nils, .nils, .nils]))⟩,
  ⟨none, none, .store 11 (.t 9) (.t 42)⟩]
@[go_sem] def proto_single_r17 : List AI := [
  ⟨(some 43), none, .faddr 9 (.t 9)⟩,
  ⟨(some 44), none, .load 1 false (.t 43)⟩,
  ⟨(some 45), none, .len 0 (.t 44)⟩,
  ⟨(some 46), none, .mov (.c (.int .i64 0))⟩]
@[go_sem] def proto_single_r18 : List AI := [
  ⟨(some 47), none, .bin .lss (.t 46) (.t 45)⟩]
@[go_sem] def proto_single_r19 : List AI := [
  ⟨(some 48), none, .iaddr 3 (.t 44) (.t 46)⟩,
  ⟨(some 49), none, .load 3 true (.t 48)⟩,
  ⟨(some 11), none, .box 120011 3 (.c (.agg [(.str []), (.bool false), (.int .i64 0)]))⟩,
  ⟨none, none, .store 3 (.t 11) (.t 49)⟩]
@[go_sem] def proto_single_r20 : List AI := [
  ⟨(some 50), none, .faddr 1 (.t 11)⟩,
  ⟨(some 51), none, .load 1 false (.t 50)⟩,
  ⟨(some 52), none, .mov (.t 51)⟩,
  ⟨(some 53), (some (52, true)), .faddr 2 (.t 11)⟩,
  ⟨(some 54), (some (52, true)), .load 1 false (.t 53)⟩,
  ⟨(some 55), (some (52, true)), .faddr 4 (.t 1)⟩,
  ⟨(some 56), (some (52, true)), .load 1 false (.t 55)⟩,
  ⟨(some 57), (some (52, true)), .bin .geq (.t 54) (.t 56)⟩,
  ⟨(some 58), none, .pick (.t 52) (.t 57) (.c (.bool false))⟩,
  ⟨(some 59), none, .mov (.t 58)⟩,
  ⟨(some 60), (some (59, false)), .faddr 1 (.t 11)⟩,
  ⟨(some 61), (some (59, false)), .load 1 false (.t 60)⟩,
  ⟨(some 62), (some (59, false)), .un .not (.t 61)⟩,
  ⟨(some 63), (some (59, false)), .mov (.t 62)⟩,
  ⟨(some 64), (some (63, true)), .faddr 2 (.t 11)⟩,
  ⟨(some 65), (some (63, true)), .load 1 false (.t 64)⟩,
  ⟨(some 66), (some (63, true)), .faddr 9 (.t 1)⟩,
  ⟨(some 67), (some (63, true)), .load 1 false (.t 66)⟩,
  ⟨(some 68), (some (63, true)), .len 0 (.t 67)⟩,
  ⟨(some 69), (some (63, true)), .bin .geq (.t 65) (.t 68)⟩,
  ⟨(some 70), (some (59, false)), .pick (.t 63) (.t 69) (.c (.bool false))⟩,
  ⟨(some 71), none, .pick (.t 59) (.c (.bool true)) (.t 70)⟩]
@[go_sem] def proto_single_r21 : List AI := [
  ⟨(some 2), none, .mov (.c (.int .i64 4))⟩]
@[go_sem] def proto_single_r22 : List AI := [
  ⟨(some 72), none, .bin .add (.t 46) (.c (.int .i64 1))⟩,
  ⟨(some 46), none, .mov (.t 72)⟩]
def proto_single_l2 : AC := .seq (.ops [proto_single_r18]) (.seq (.cond (.t 47) (.skip) (.exit 4)) (.seq (.block 5 (.seq (.ops [proto_single_r19]) (.seq (.ops [proto_single_r20]) (.cond (.t 71) (.seq (.ops [proto_single_r21]) (.ret)) (.skip))))) (.ops [proto_single_r22])))
theorem proto_single_l2_eq : proto_single_l2 = .seq (.ops [proto_single_r18]) (.seq (.cond (.t 47) (.skip) (.exit 4)) (.seq (.block 5 (.seq (.ops [proto_single_r19]) (.seq (.ops [proto_single_r20]) (.cond (.t 71) (.seq (.ops [proto_single_r21]) (.ret)) (.skip))))) (.ops [proto_single_r22]))) := rfl
@[go_sem] def proto_single_r23 : List AI := [
  ⟨(some 73), none, .bin .add (.t 39) (.c (.int .i64 1))⟩,
  ⟨(some 39), none, .mov (.t 73)⟩]
def proto_single_l1 : AC := .seq (.ops [proto_single_r15]) (.seq (.cond (.t 40) (.skip) (.exit 2)) (.seq (.block 3 (.seq (.ops [proto_single_r16]) (.seq (.ops [proto_single_r17]) (.block 4 (.loop proto_single_l2))))) (.ops [proto_single_r23])))
theorem proto_single_l1_eq : proto_single_l1 = .seq (.ops [proto_single_r15]) (.seq (.cond (.t 40) (.skip) (.exit 2)) (.seq (.block 3 (.seq (.ops [proto_single_r16]) (.seq (.ops [proto_single_r17]) (.block 4 (.loop proto_single_l2))))) (.ops [proto_single_r23]))) := rfl
@[go_sem] def proto_single_r24 : List AI := [
  ⟨(some 2), none, .mov (.c (.int .i64 0))⟩]
@[go_sem] def proto_single_c : AC := .seq (.ops [proto_single_r0]) (.seq (.seq (.ops [proto_single_r1]) (.seq (.ops [proto_single_r2]) (.cond (.t 15) (.seq (.ops [proto_single_r3]) (.ret)) (.skip)))) (.seq (.seq (.ops [proto_single_r4]) (.seq (.ops [proto_single_r5]) (.cond (.t 20) (.seq (.ops [proto_single_r6]) (.ret)) (.skip)))) (.seq (.seq (.ops [proto_single_r7]) (.block 0 (.loop proto_single_l0))) (.seq (.seq (.ops [proto_single_r14]) (.block 2 (.loop proto_single_l1))) (.seq (.ops [proto_single_r24]) (.ret))))))
theorem proto_single_ok : compF Tryz.prog 12 = some (74, proto_single_c, [.t 2]) := by kernel_rfl

@[go_sem] def scriptingref33_Depth_r0 : List AI := [
  ⟨(some 1), none, .box 130001 11 (.t 0)⟩,
  ⟨(some 2), none, .mov (.c (.int .i64 0))⟩]
@[go_sem] def scriptingref33_Depth_r1 : List AI := [
  ⟨(some 7), none, .load 11 true (.t 1)⟩,
  ⟨(some 8), none, .mkrow 130008 11 [(.t 7)]⟩,
  ⟨(some 3), none, .mov (.t 8)⟩]
@[go_sem] def scriptingref33_Depth_r2 : List AI := [
  ⟨(some 4), none, .mov (.c (.int .i64 0))⟩]
@[go_sem] def scriptingref33_Depth_r3 : List AI := [
  ⟨(some 9), none, .mov (.t 3)⟩,
  ⟨(some 10), none, .len 0 (.t 9)⟩,
  ⟨(some 11), none, .bin .gtr (.t 10) (.c (.int .i64 0))⟩,
  ⟨(some 12), none, .mov (.t 11)⟩,
  ⟨(some 13), (some (12, true)), .mov (.t 4)⟩,
  ⟨(some 14), (some (12, true)), .bin .leq (.t 13) (.c (.int .i64 64))⟩,
  ⟨(some 15), none, .pick (.t 12) (.t 14) (.c (.bool false))⟩]
@[go_sem] def scriptingref33_Depth_r4 : List AI := [
  ⟨(some 5), none, .mov (.c .nils)⟩]
@[go_sem] def scriptingref33_Depth_r5 : List AI := [
  ⟨(some 6), none, .mov (.c (.int .i64 0))⟩]
@[go_sem] def scriptingref33_Depth_r6 : List AI := [
  ⟨(some 16), none, .mov (.t 6)⟩,
  ⟨(some 17), none, .mov (.t 3)⟩,
  ⟨(some 18), none, .len 0 (.t 17)⟩,
  ⟨(some 19), none, .bin .lss (.t 16) (.t 18)⟩]
@[go_sem] def scriptingref33_Depth_r7 : List AI := [
  ⟨(some 22), none, .mov (.t 5)⟩,
  ⟨(some 23), none, .mov (.t 3)⟩,
  ⟨(some 24), none, .mov (.t 6)⟩,
  ⟨(some 25), none, .iaddr 11 (.t 23) (.t 24)⟩,
  ⟨(some 26), none, .faddr 8 (.t 25)⟩,
  ⟨(some 27), none, .load 1 false (.t 26)⟩,
  ⟨(some 28), none, .app 130028 11 (.t 22) (.t 27)⟩,
  ⟨(some 5), none, .mov (.t 28)⟩]
@[go_sem] def scriptingref33_Depth_r8 : List AI := [
  ⟨(some 20), none, .mov (.t 6)⟩,
  ⟨(some 21), none, .bin .add (.t 20) (.c (.int .i64 1))⟩,
  ⟨(some 6), none, .mov (.t 21)⟩]
def scriptingref33_Depth_l1 : AC := .seq (.seq (.ops [scriptingref33_Depth_r6]) (.cond (.t 19) (.skip) (.exit 2))) (.seq (.block 3 (.ops [scriptingref33_Depth_r7])) (.ops [scriptingref33_Depth_r8]))
theorem scriptingref33_Depth_l1_eq : scriptingref33_Depth_l1 = .seq (.seq (.ops [scriptingref33_Depth_r6]) (.cond (.t 19) (.skip) (.exit 2))) (.seq (.block 3 (.ops [scriptingref33_Depth_r7])) (.ops [scriptingref33_Depth_r8])) := rfl
@[go_sem] def scriptingref33_Depth_r9 : List AI := [
  ⟨(some 29), none, .mov (.t 5)⟩,
  ⟨(some 3), none, .mov (.t 29)⟩]
@[go_sem] def scriptingref33_Depth_r10 : List AI := [
  ⟨(some 30), none, .mov (.t 4)⟩,
  ⟨(some 31), none, .bin .add (.t 30) (.c (.int .i64 1))⟩,
  ⟨(some 4), none, .mov (.t 31)⟩]
def scriptingref33_Depth_l0 : AC := .seq (.seq (.ops [scriptingref33_Depth_r3]) (.cond (.t 15) (.skip) (.exit 0))) (.block 1 (.seq (.ops [scriptingref33_Depth_r4]) (.seq (.seq (.ops [scriptingref33_Depth_r5]) (.block 2 (.loop scriptingref33_Depth_l1))) (.seq (.ops [scriptingref33_Depth_r9]) (.ops [scriptingref33_Depth_r10])))))
theorem scriptingref33_Depth_l0_eq : scriptingref33_Depth_l0 = .seq (.seq (.ops [scriptingref33_Depth_r3]) (.cond (.t 15) (.skip) (.exit 0))) (.block 1 (.seq (.ops [scriptingref33_Depth_r4]) (.seq (.seq (.ops [scriptingref33_Depth_r5]) (.block 2 (.loop scriptingref33_Depth_l1))) (.seq (.ops [scriptingref33_Depth_r9]) (.ops [scriptingref33_Depth_r10]))))) := rfl
@[go_sem] def scriptingref33_Depth_r11 : List AI := [
  ⟨(some 32), none, .mov (.t 4)⟩,
  ⟨(some 2), none, .mov (.t 32)⟩]
@[go_sem] def scriptingref33_Depth_c : AC := .seq (.ops [scriptingref33_Depth_r0]) (.seq (.ops [scriptingref33_Depth_r1]) (.seq (.ops [scriptingref33_Depth_r2]) (.seq (.block 0 (.loop scriptingref33_Depth_l0)) (.seq (.ops [scriptingref33_Depth_r11]) (.ret)))))
theorem scriptingref33_Depth_ok : compF Tryz.prog 13 = some (33, scriptingref33_Depth_c, [.t 2]) := by kernel_rfl

@[go_sem] def scriptingref33_Each_r0 : List AI := [
  ⟨(some 1), none, .box 140001 11 (.t 0)⟩,
  ⟨(some 2), none, .mov (.c .nils)⟩]
@[go_sem] def scriptingref33_Each_r1 : List AI := [
  ⟨(some 3), none, .mov (.c .nils)⟩]
@[go_sem] def scriptingref33_Each_r2 : List AI := [
  ⟨(some 8), none, .load 11 true (.t 1)⟩,
  ⟨(some 9), none, .mkrow 140009 11 [(.t 8)]⟩,
  ⟨(some 4), none, .mov (.t 9)⟩]
@[go_sem] def scriptingref33_Each_r3 : List AI := [
  ⟨(some 10), none, .mov (.t 4)⟩,
  ⟨(some 11), none, .len 0 (.t 10)⟩,
  ⟨(some 12), none, .bin .gtr (.t 11) (.c (.int .i64 0))⟩]
@[go_sem] def scriptingref33_Each_r4 : List AI := [
  ⟨(some 13), none, .mov (.t 4)⟩,
  ⟨(some 14), none, .len 0 (.t 13)⟩,
  ⟨(some 15), none, .bin .sub (.t 14) (.c (.int .i64 1))⟩,
  ⟨(some 5), none, .mov (.t 15)⟩]
@[go_sem] def scriptingref33_Each_r5 : List AI := [
  ⟨(some 16), none, .mov (.t 4)⟩,
  ⟨(some 17), none, .mov (.t 5)⟩,
  ⟨(some 18), none, .iaddr 11 (.t 16) (.t 17)⟩,
  ⟨(some 19), none, .load 11 true (.t 18)⟩,
  ⟨(some 6), none, .box 140006 11 (.c (.agg [(.str []), (.int .i64 0), (.int .i64 0), (.bool false), (.int .i64 0), .nils, .nils, .nils, .nils, .nils, .nils]))⟩,
  ⟨none, none, .store 11 (.t 6) (.t 19)⟩]
@[go_sem] def scriptingref33_Each_r6 : List AI := [
  ⟨(some 20), none, .mov (.t 4)⟩,
  ⟨(some 21), none, .mov (.t 5)⟩,
  ⟨(some 22), none, .slc 11 (.t 20) none (some (.t 21))⟩,
  ⟨(some 4), none, .mov (.t 22)⟩]
@[go_sem] def scriptingref33_Each_r7 : List AI := [
  ⟨(some 23), none, .mov (.t 3)⟩,
  ⟨(some 24), none, .load 11 true (.t 6)⟩,
  ⟨(some 25), none, .mkisl 11 [(.t 24)]⟩,
  ⟨(some 26), none, .app 140026 11 (.t 23) (.t 25)⟩,
  ⟨(some 3), none, .mov (.t 26)⟩]
@[go_sem] def scriptingref33_Each_r8 : List AI := [
  ⟨(some 27), none, .faddr 8 (.t 6)⟩,
  ⟨(some 28), none, .load 1 false (.t 27)⟩,
  ⟨(some 29), none, .len 0 (.t 28)⟩,
  ⟨(some 30), none, .bin .sub (.t 29) (.c (.int .i64 1))⟩,
  ⟨(some 7), none, .mov (.t 30)⟩]
@[go_sem] def scriptingref33_Each_r9 : List AI := [
  ⟨(some 31), none, .mov (.t 7)⟩,
  ⟨(some 32), none, .bin .geq (.t 31) (.c (.int .i64 0))⟩]
@[go_sem] def scriptingref33_Each_r10 : List AI := [
  ⟨(some 35), none, .mov (.t 4)⟩,
  ⟨(some 36), none, .faddr 8 (.t 6)⟩,
  ⟨(some 37), none, .load 1 false (.t 36)⟩,
  ⟨(some 38), none, .mov (.t 7)⟩,
  ⟨(some 39), none, .iaddr 11 (.t 37) (.t 38)⟩,
  ⟨(some 40), none, .load 11 true (.t 39)⟩,
  ⟨(some 41), none, .mkisl 11 [(.t 40)]⟩,
  ⟨(some 42), none, .app 140042 11 (.t 35) (.t 41)⟩,
  ⟨(some 4), none, .mov (.t 42)⟩]
@[go_sem] def scriptingref33_Each_r11 : List AI := [
  ⟨(some 33), none, .mov (.t 7)⟩,
  ⟨(some 34), none, .bin .sub (.t 33) (.c (.int .i64 1))⟩,
  ⟨(some 7), none, .mov (.t 34)⟩]
def scriptingref33_Each_l1 : AC := .seq (.seq (.ops [scriptingref33_Each_r9]) (.cond (.t 32) (.skip) (.exit 2))) (.seq (.block 3 (.ops [scriptingref33_Each_r10])) (.ops [scriptingref33_Each_r11]))
theorem scriptingref33_Each_l1_eq : scriptingref33_Each_l1 = .seq (.seq (.ops [scriptingref33_Each_r9]) (.cond (.t 32) (.skip) (.exit 2))) (.seq (.block 3 (.ops [scriptingref33_Each_r10])) (.ops [scriptingref33_Each_r11])) := rfl
def scriptingref33_Each_l0 : AC := .seq (.seq (.ops [scriptingref33_Each_r3]) (.cond (.t 12) (.skip) (.exit 0))) (.block 1 (.seq (.ops [scriptingref33_Each_r4]) (.seq (.ops [scriptingref33_Each_r5]) (.seq (.ops [scriptingref33_Each_r6]) (.seq (.ops [scriptingref33_Each_r7]) (.seq (.ops [scriptingref33_Each_r8]) (.block 2 (.loop scriptingref33_Each_l1))))))))
theorem scriptingref33_Each_l0_eq : scriptingref33_Each_l0 = .seq (.seq (.ops [scriptingref33_Each_r3]) (.cond (.t 12) (.skip) (.exit 0))) (.block 1 (.seq (.ops [scriptingref33_Each_r4]) (.seq (.ops [scriptingref33_Each_r5]) (.seq (.ops [scriptingref33_Each_r6]) (.seq (.ops [scriptingref33_Each_r7]) (.seq (.ops [scriptingref33_Each_r8]) (.block 2 (.loop scriptingref33_Each_l1)))))))) := rfl
@[go_sem] def scriptingref33_Each_r12 : List AI := [
  ⟨(some 43), none, .mov (.t 3)⟩,
  ⟨(some 2), none, .mov (.t 43)⟩]
@[go_sem] def scriptingref33_Each_c : AC := .seq (.ops [scriptingref33_Each_r0]) (.seq (.ops [scriptingref33_Each_r1]) (.seq (.ops [scriptingref33_Each_r2]) (.seq (.block 0 (.loop scriptingref33_Each_l0)) (.seq (.ops [scriptingref33_Each_r12]) (.ret)))))
theorem scriptingref33_Each_ok : compF Tryz.prog 14 = some (44, scriptingref33_Each_c, [.t 2]) := by kernel_rfl

@[go_sem] def scriptingref33_single_r0 : List AI := [
  ⟨(some 1), none, .box 150001 11 (.t 0)⟩,
  ⟨(some 2), none, .mov (.c (.int .i64 0))⟩]
@[go_sem] def scriptingref33_single_r1 : List AI := [
  ⟨(some 8), none, .load 11 true (.t 1)⟩,
  ⟨(some 9), none, .call 22 [(.t 8)]⟩]
@[go_sem] def scriptingref33_single_r2 : List AI := [
  ⟨(some 2), none, .mov (.c (.int .i64 3))⟩]
@[go_sem] def scriptingref33_single_r3 : List AI := [
  ⟨(some 10), none, .load 11 true (.t 1)⟩,
  ⟨(some 11), none, .call 23 [(.t 10)]⟩,
  ⟨(some 12), none, .un .not (.t 11)⟩]
@[go_sem] def scriptingref33_single_r4 : List AI := [
  ⟨(some 2), none, .mov (.c (.int .i64 4))⟩]
@[go_sem] def scriptingref33_single_r5 : List AI := [
  ⟨(some 3), none, .mov (.c (.int .i64 0))⟩]
@[go_sem] def scriptingref33_single_r6 : List AI := [
  ⟨(some 13), none, .mov (.t 3)⟩,
  ⟨(some 14), none, .faddr 5 (.t 1)⟩,
  ⟨(some 15), none, .load 1 false (.t 14)⟩,
  ⟨(some 16), none, .len 0 (.t 15)⟩,
  ⟨(some 17), none, .bin .lss (.t 13) (.t 16)⟩]
@[go_sem] def scriptingref33_single_r7 : List AI := [
  ⟨(some 20), none, .load 11 true (.t 1)⟩,
  ⟨(some 21), none, .faddr 5 (.t 1)⟩,
  ⟨(some 22), none, .load 1 false (.t 21)⟩,
  ⟨(some 23), none, .mov (.t 3)⟩,
  ⟨(some 24), none, .iaddr 5 (.t 22) (.t 23)⟩,
  ⟨(some 25), none, .load 5 true (.t 24)⟩,
  ⟨(some 26), none, .call 24 [(.t 20), (.t 25)]⟩,
  ⟨(some 4), none, .mov (.t 26)⟩]
@[go_sem] def scriptingref33_single_r8 : List AI := [
  ⟨(some 27), none, .mov (.t 4)⟩,
  ⟨(some 28), none, .bin .neq (.t 27) (.c (.int .i64 0))⟩]
@[go_sem] def scriptingref33_single_r9 : List AI := [
  ⟨(some 29), none, .mov (.t 4)⟩,
  ⟨(some 2), none, .mov (.t 29)⟩]
@[go_sem] def scriptingref33_single_r10 : List AI := [
  ⟨(some 18), none, .mov (.t 3)⟩,
  ⟨(some 19), none, .bin .add (.t 18) (.c (.int .i64 1))⟩,
  ⟨(some 3), none, .mov (.t 19)⟩]
def scriptingref33_single_l0 : AC := .seq (.seq (.ops [scriptingref33_single_r6]) (.cond (.t 17) (.skip) (.exit 0))) (.seq (.block 1 (.seq (.ops [scriptingref33_single_r7]) (.seq (.ops [scriptingref33_single_r8]) (.cond (.t 28) (.seq (.ops [scriptingref33_single_r9]) (.ret)) (.skip))))) (.ops [scriptingref33_single_r10]))
theorem scriptingref33_single_l0_eq : scriptingref33_single_l0 = .seq (.seq (.ops [scriptingref33_single_r6]) (.cond (.t 17) (.skip) (.exit 0))) (.seq (.block 1 (.seq (.ops [scriptingref33_single_r7]) (.seq (.ops [scriptingref33_single_r8]) (.cond (.t 28) (.seq (.ops [scriptingref33_single_r9]) (.ret)) (.skip))))) (.ops [scriptingref33_single_r10])) := rfl
@[go_sem] def scriptingref33_single_r11 : List AI := [
  ⟨(some 5), none, .mov (.c (.int .i64 0))⟩]
@[go_sem] def scriptingref33_single_r12 : List AI := [
  ⟨(some 30), none, .mov (.t 5)⟩,
  ⟨(some 31), none, .faddr 8 (.t 1)⟩,
  ⟨(some 32), none, .load 1 false (.t 31)⟩,
  ⟨(some 33), none, .len 0 (.t 32)⟩,
  ⟨(some 34), none, .bin .lss (.t 30) (.t 33)⟩]
@[go_sem] def scriptingref33_single_r13 : List AI := [
  ⟨(some 37), none, .faddr 8 (.t 1)⟩,
  ⟨(some 38), none, .load 1 false (.t 37)⟩,
  ⟨(some 39), none, .mov (.t 5)⟩,
  ⟨(some 40), none, .iaddr 11 (.t 38) (.t 39)⟩,
  ⟨(some 41), none, .faddr 9 (.t 40)⟩,
  ⟨(some 42), none, .load 1 false (.t 41)⟩,
  ⟨(some 6), none, .mov (.t 42)⟩]
@[go_sem] def scriptingref33_single_r14 : List AI := [
  ⟨(some 7), none, .mov (.c (.int .i64 0))⟩]
@[go_sem] def scriptingref33_single_r15 : List AI := [
  ⟨(some 43), none, .mov (.t 7)⟩,
  ⟨(some 44), none, .mov (.t 6)⟩,
  ⟨(some 45), none, .len 0 (.t 44)⟩,
  ⟨(some 46), none, .bin .lss (.t 43) (.t 45)⟩]
@[go_sem] def scriptingref33_single_r16 : List AI := [
  ⟨(some 49), none, .mov (.t 6)⟩,
  ⟨(some 50), none, .mov (.t 7)⟩,
  ⟨(some 51), none, .iaddr 3 (.t 49) (.t 50)⟩,
  ⟨(some 52), none, .faddr 1 (.t 51)⟩,
  ⟨(some 53), none, .load 1 false (.t 52)⟩,
  ⟨(some 54), none, .mov (.t 53)⟩,
  ⟨(some 55), (some (54, true)), .mov (.t 6)⟩,
  ⟨(some 56), (some (54, true)), .mov (.t 7)⟩,
  ⟨(some 57), (some (54, true)), .iaddr 3 (.t 55) (.t 56)⟩,
  ⟨(some 58), (some (54, true)), .faddr 2 (.t 57)⟩,
  ⟨(some 59), (some (54, true)), .load 1 false (.t 58)⟩,
  ⟨(some 60), (some (54, true)), .faddr 4 (.t 1)⟩,
  ⟨(some 61), (some (54, true)), .load 1 false (.t 60)⟩,
  ⟨(some 62), (some (54, true)), .bin .geq (.t 59) (.t 61)⟩,
  ⟨(some 63), none, .pick (.t 54) (.t 62) (.c (.bool false))⟩,
  ⟨(some 64), none, .mov (.t 63)⟩,
  ⟨(some 65), (some (64, false)), .mov (.t 6)⟩,
  ⟨(some 66), (some (64, false)), .mov (.t 7)⟩,
  ⟨(some 67), (some (64, false)), .iaddr 3 (.t 65) (.t 66)⟩,
  ⟨(some 68), (some (64, false)), .faddr 1 (.t 67)⟩,
  ⟨(some 69), (some (64, false)), .load 1 false (.t 68)⟩,
  ⟨(some 70), (some (64, false)), .un .not (.t 69)⟩,
  ⟨(some 71), (some (64, false)), .mov (.t 70)⟩,
  ⟨(some 72), (some (71, true)), .mov (.t 6)⟩,
  ⟨(some 73), (some (71, true)), .mov (.t 7)⟩,
  ⟨(some 74), (some (71, true)), .iaddr 3 (.t 72) (.t 73)⟩,
  ⟨(some 75), (some (71, true)), .faddr 2 (.t 74)⟩,
  ⟨(some 76), (some (71, true)), .load 1 false (.t 75)⟩,
  ⟨(some 77), (some (71, true)), .faddr 9 (.t 1)⟩,
  ⟨(some 78), (some (71, true)), .load 1 false (.t 77)⟩,
  ⟨(some 79), (some (71, true)), .len 0 (.t 78)⟩,
  ⟨(some 80), (some (71, true)), .bin .geq (.t 76) (.t 79)⟩,
  ⟨(some 81), (some (64, false)), .pick (.t 71) (.t 80) (.c (.bool false))⟩,
  ⟨(some 82), none, .pick (.t 64) (.c (.bool true)) (.t 81)⟩]
@[go_sem] def scriptingref33_single_r17 : List AI := [
  ⟨(some 2), none, .mov (.c (.int .i64 4))⟩]
@[go_sem] def scriptingref33_single_r18 : List AI := [
  ⟨(some 47), none, .mov (.t 7)⟩,
  ⟨(some 48), none, .bin .add (.t 47) (.c (.int .i64 1))⟩,
  ⟨(some 7), none, .mov (.t 48)⟩]
def scriptingref33_single_l2 : AC := .seq (.seq (.ops [scriptingref33_single_r15]) (.cond (.t 46) (.skip) (.exit 4))) (.seq (.block 5 (.seq (.ops [scriptingref33_single_r16]) (.cond (.t 82) (.seq (.ops [scriptingref33_single_r17]) (.ret)) (.skip)))) (.ops [scriptingref33_single_r18]))
theorem scriptingref33_single_l2_eq : scriptingref33_single_l2 = .seq (.seq (.ops [scriptingref33_single_r15]) (.cond (.t 46) (.skip) (.exit 4))) (.seq (.block 5 (.seq (.ops [scriptingref33_single_r16]) (.cond (.t 82) (.seq (.ops [scriptingref33_single_r17]) (.ret)) (.skip)))) (.ops [scriptingref33_single_r18])) := rfl
@[go_sem] def scriptingref33_single_r19 : List AI := [
  ⟨(some 35), none, .mov (.t 5)⟩,
  ⟨(some 36), none, .bin .add (.t 35) (.c (.int .i64 1))⟩,
  ⟨(some 5), none, .mov (.t 36)⟩]
def scriptingref33_single_l1 : AC := .seq (.seq (.ops [scriptingref33_single_r12]) (.cond (.t 34) (.skip) (.exit 2))) (.seq (.block 3 (.seq (.ops [scriptingref33_single_r13]) (.seq (.ops [scriptingref33_single_r14]) (.block 4 (.loop scriptingref33_single_l2))))) (.ops [scriptingref33_single_r19]))
theorem scriptingref33_single_l1_eq : scriptingref33_single_l1 = .seq (.seq (.ops [scriptingref33_single_r12]) (.cond (.t 34) (.skip) (.exit 2))) (.seq (.block 3 (.seq (.ops [scriptingref33_single_r13]) (.seq (.ops [scriptingref33_single_r14]) (.block 4 (.loop scriptingref33_single_l2))))) (.ops [scriptingref33_single_r19])) := rfl
@[go_sem] def scriptingref33_single_r20 : List AI := [
  ⟨(some 2), none, .mov (.c (.int .i64 0))⟩]
@[go_sem] def scriptingref33_single_c : AC := .seq (.ops [scriptingref33_single_r0]) (.seq (.seq (.ops [scriptingref33_single_r1]) (.cond (.t 9) (.seq (.ops [scriptingref33_single_r2]) (.ret)) (.skip))) (.seq (.seq (.ops [scriptingref33_single_r3]) (.cond (.t 12) (.seq (.ops [scriptingref33_single_r4]) (.ret)) (.skip))) (.seq (.seq (.ops [scriptingref33_single_r5]) (.block 0 (.loop scriptingref33_single_l0))) (.seq (.seq (.ops [scriptingref33_single_r11]) (.block 2 (.loop scriptingref33_single_l1))) (.seq (.ops [scriptingref33_single_r20]) (.ret))))))
theorem scriptingref33_single_ok : compF Tryz.prog 15 = some (83, scriptingref33_single_c, [.t 2]) := by kernel_rfl

@[go_sem] def proto_Each_1_r0 : List AI := [
  ⟨(some 3), none, .load 11 true (.t 1)⟩,
  ⟨(some 4), none, .call 18 [(.t 3)]⟩,
  ⟨(some 5), none, .mov (.t 0)⟩,
  ⟨(some 6), none, .call 17 [(.t 4), (.t 5)]⟩]
@[go_sem] def proto_Each_1_c : AC := .ops [proto_Each_1_r0]
theorem proto_Each_1_ok : compF Tryz.prog 16 = some (7, proto_Each_1_c, []) := by kernel_rfl

@[go_sem] def proto_walk_r0 : List AI := [
  ⟨(some 2), none, .box 170002 11 (.t 0)⟩,
  ⟨(some 4), none, .mov (.c (.bool false))⟩]
@[go_sem] def proto_walk_r1 : List AI := [
  ⟨(some 7), none, .mov (.t 1)⟩,
  ⟨(some 8), none, .load 11 true (.t 2)⟩,
  ⟨(some 9), none, .callv (.t 7) [(.t 8)]⟩,
  ⟨(some 10), none, .un .not (.t 9)⟩]
@[go_sem] def proto_walk_r2 : List AI := [
  ⟨(some 4), none, .mov (.c (.bool false))⟩]
@[go_sem] def proto_walk_r3 : List AI := [
  ⟨(some 11), none, .faddr 8 (.t 2)⟩,
  ⟨(some 12), none, .load 1 false (.t 11)⟩,
  ⟨(some 13), none, .len 0 (.t 12)⟩,
  ⟨(some 14), none, .mov (.c (.int .i64 0))⟩]
@[go_sem] def proto_walk_r4 : List AI := [
  ⟨(some 15), none, .bin .lss (.t 14) (.t 13)⟩]
@[go_sem] def proto_walk_r5 : List AI := [
  ⟨(some 16), none, .iaddr 11 (.t 12) (.t 14)⟩,
  ⟨(some 17), none, .load 11 true (.t 16)⟩,
  ⟨(some 6), none, .box 170006 11 (.c (.agg [(.str []), (.int .i64 0), (.int .i64 0), (.bool false), (.int .i64 0), .nils, .nils, .nils, .nils, .nils, .nils]))⟩,
  ⟨none, none, .store 11 (.t 6) (.t 17)⟩]
@[go_sem] def proto_walk_r6 : List AI := [
  ⟨(some 18), none, .load 11 true (.t 6)⟩,
  ⟨(some 19), none, .mov (.t 1)⟩,
  ⟨(some 20), none, .call 17 [(.t 18), (.t 19)]⟩,
  ⟨(some 21), none, .un .not (.t 20)⟩]
@[go_sem] def proto_walk_r7 : List AI := [
  ⟨(some 4), none, .mov (.c (.bool false))⟩]
@[go_sem] def proto_walk_r8 : List AI := [
  ⟨(some 22), none, .bin .add (.t 14) (.c (.int .i64 1))⟩,
  ⟨(some 14), none, .mov (.t 22)⟩]
def proto_walk_l0 : AC := .seq (.ops [proto_walk_r4]) (.seq (.cond (.t 15) (.skip) (.exit 0)) (.seq (.block 1 (.seq (.ops [proto_walk_r5]) (.seq (.ops [proto_walk_r6]) (.cond (.t 21) (.seq (.ops [proto_walk_r7]) (.ret)) (.skip))))) (.ops [proto_walk_r8])))
theorem proto_walk_l0_eq : proto_walk_l0 = .seq (.ops [proto_walk_r4]) (.seq (.cond (.t 15) (.skip) (.exit 0)) (.seq (.block 1 (.seq (.ops [proto_walk_r5]) (.seq (.ops [proto_walk_r6]) (.cond (.t 21) (.seq (.ops [proto_walk_r7]) (.ret)) (.skip))))) (.ops [proto_walk_r8]))) := rfl
@[go_sem] def proto_walk_r9 : List AI := [
  ⟨(some 4), none, .mov (.c (.bool true))⟩]
@[go_sem] def proto_walk_c : AC := .seq (.ops [proto_walk_r0]) (.seq (.seq (.ops [proto_walk_r1]) (.cond (.t 10) (.seq (.ops [proto_walk_r2]) (.ret)) (.skip))) (.seq (.seq (.ops [proto_walk_r3]) (.block 0 (.loop proto_walk_l0))) (.seq (.ops [proto_walk_r9]) (.ret))))
theorem proto_walk_ok : compF Tryz.prog 17 = some (23, proto_walk_c, [.t 4]) := by kernel_rfl

@[go_sem] def proto_copied_r0 : List AI := [
  ⟨(some 1), none, .box 180001 11 (.t 0)⟩,
  ⟨(some 2), none, .box 180002 11 (.c (.agg [(.str []), (.int .i64 0), (.int .i64 0), (.bool false), (.int .i64 0), .nils, .nils, .nils, .nils, .nils, .nils]))⟩]
@[go_sem] def proto_copied_r1 : List AI := [
  ⟨(some 6), none, .faddr 5 (.t 1)⟩,
  ⟨(some 7), none, .load 1 false (.t 6)⟩,
  ⟨(some 9), none, .faddr 6 (.t 1)⟩,
  ⟨(some 10), none, .load 1 false (.t 9)⟩,
  ⟨(some 12), none, .faddr 7 (.t 1)⟩,
  ⟨(some 13), none, .load 1 false (.t 12)⟩,
  ⟨(some 15), none, .faddr 9 (.t 1)⟩,
  ⟨(some 16), none, .load 1 false (.t 15)⟩,
  ⟨(some 18), none, .faddr 10 (.t 1)⟩,
  ⟨(some 19), none, .load 1 false (.t 18)⟩,
  ⟨(some 8), none, .pcall 25 [(.t 7)]⟩,
  ⟨(some 21), none, .faddr 5 (.t 1)⟩,
  ⟨(some 11), none, .pcall 26 [(.t 10)]⟩,
  ⟨(some 14), none, .pcall 27 [(.t 13)]⟩,
  ⟨(some 17), none, .pcall 28 [(.t 16)]⟩,
  ⟨(some 20), none, .pcall 29 [(.t 19)]⟩,
  ⟨none, none, .store 1 (.t 21) (.t 8)⟩,
  ⟨(some 22), none, .faddr 6 (.t 1)⟩,
  ⟨none, none, .store 1 (.t 22) (.t 11)⟩,
  ⟨(some 23), none, .faddr 7 (.t 1)⟩,
  ⟨none, none, .store 1 (.t 23) (.t 14)⟩,
  ⟨(some 24), none, .faddr 9 (.t 1)⟩,
  ⟨none, none, .store 1 (.t 24) (.t 17)⟩,
  ⟨(some 25), none, .faddr 10 (.t 1)⟩,
  ⟨none, none, .store 1 (.t 25) (.t 20)⟩]
@[go_sem] def proto_copied_r2 : List AI := [
  ⟨(some 3), none, .mov (.c .nils)⟩]
@[go_sem] def proto_copied_r3 : List AI := [
  ⟨(some 26), none, .faddr 8 (.t 1)⟩,
  ⟨(some 27), none, .load 1 false (.t 26)⟩,
  ⟨(some 28), none, .len 0 (.t 27)⟩,
  ⟨(some 29), none, .mov (.c (.int .i64 0))⟩]
@[go_sem] def proto_copied_r4 : List AI := [
  ⟨(some 30), none, .bin .lss (.t 29) (.t 28)⟩]
@[go_sem] def proto_copied_r5 : List AI := [
  ⟨(some 31), none, .iaddr 11 (.t 27) (.t 29)⟩,
  ⟨(some 32), none, .load 11 true (.t 31)⟩,
  ⟨(some 5), none, .box 180005 11 (.c (.agg [(.str []), (.int .i64 0), (.int .i64 0), (.bool false), (.int .i64 0), .nils, .nils, .nils, .nils, .nils, .nils]))⟩,
  ⟨none, none, .store 11 (.t 5) (.t 32)⟩]
@[go_sem] def proto_copied_r6 : List AI := [
  ⟨(some 33), none, .mov (.t 3)⟩,
  ⟨(some 34), none, .load 11 true (.t 5)⟩,
  ⟨(some 35), none, .call 18 [(.t 34)]⟩,
  ⟨(some 36), none, .mkisl 11 [(.t 35)]⟩,
  ⟨(some 37), none, .app 180037 11 (.t 33) (.t 36)⟩,
  ⟨(some 3), none, .mov (.t 37)⟩]
@[go_sem] def proto_copied_r7 : List AI := [
  ⟨(some 38), none, .bin .add (.t 29) (.c (.int .i64 1))⟩,
  ⟨(some 29), none, .mov (.t 38)⟩]
def proto_copied_l0 : AC := .seq (.ops [proto_copied_r4]) (.seq (.cond (.t 30) (.skip) (.exit 0)) (.seq (.block 1 (.seq (.ops [proto_copied_r5]) (.ops [proto_copied_r6]))) (.ops [proto_copied_r7])))
theorem proto_copied_l0_eq : proto_copied_l0 = .seq (.ops [proto_copied_r4]) (.seq (.cond (.t 30) (.skip) (.exit 0)) (.seq (.block 1 (.seq (.ops [proto_copied_r5]) (.ops [proto_copied_r6]))) (.ops [proto_copied_r7]))) := rfl
@[go_sem] def proto_copied_r8 : List AI := [
  ⟨(some 39), none, .mov (.t 3)⟩,
  ⟨(some 40), none, .faddr 8 (.t 1)⟩,
  ⟨none, none, .store 1 (.t 40) (.t 39)⟩]
@[go_sem] def proto_copied_r9 : List AI := [
  ⟨(some 41), none, .load 11 true (.t 1)⟩,
  ⟨none, none, .store 11 (.t 2) (.t 41)⟩]
@[go_sem] def proto_copied_c : AC := .seq (.ops [proto_copied_r0]) (.seq (.ops [proto_copied_r1]) (.seq (.ops [proto_copied_r2]) (.seq (.seq (.ops [proto_copied_r3]) (.block 0 (.loop proto_copied_l0))) (.seq (.ops [proto_copied_r8]) (.seq (.ops [proto_copied_r9]) (.ret))))))
theorem proto_copied_ok : compF Tryz.prog 18 = some (42, proto_copied_c, [.c 2 11 true]) := by kernel_rfl

@[go_sem] def proto_limits_r0 : List AI := [
  ⟨(some 1), none, .box 190001 11 (.t 0)⟩,
  ⟨(some 2), none, .mov (.c (.int .i64 0))⟩]
@[go_sem] def proto_limits_r1 : List AI := [
  ⟨(some 4), none, .faddr 5 (.t 1)⟩,
  ⟨(some 5), none, .load 1 false (.t 4)⟩,
  ⟨(some 6), none, .len 0 (.t 5)⟩,
  ⟨(some 7), none, .bin .gtr (.t 6) (.c (.int .i64 16384))⟩,
  ⟨(some 8), none, .mov (.t 7)⟩,
  ⟨(some 9), (some (8, false)), .faddr 7 (.t 1)⟩,
  ⟨(some 10), (some (8, false)), .load 1 false (.t 9)⟩,
  ⟨(some 11), (some (8, false)), .len 0 (.t 10)⟩,
  ⟨(some 12), (some (8, false)), .bin .gtr (.t 11) (.c (.int .i64 4096))⟩,
  ⟨(some 13), none, .pick (.t 8) (.c (.bool true)) (.t 12)⟩,
  ⟨(some 14), none, .mov (.t 13)⟩,
  ⟨(some 15), (some (14, false)), .faddr 8 (.t 1)⟩,
  ⟨(some 16), (some (14, false)), .load 1 false (.t 15)⟩,
  ⟨(some 17), (some (14, false)), .len 0 (.t 16)⟩,
  ⟨(some 18), (some (14, false)), .bin .gtr (.t 17) (.c (.int .i64 1024))⟩,
  ⟨(some 19), none, .pick (.t 14) (.c (.bool true)) (.t 18)⟩,
  ⟨(some 20), none, .mov (.t 19)⟩,
  ⟨(some 21), (some (20, false)), .faddr 9 (.t 1)⟩,
  ⟨(some 22), (some (20, false)), .load 1 false (.t 21)⟩,
  ⟨(some 23), (some (20, false)), .len 0 (.t 22)⟩,
  ⟨(some 24), (some (20, false)), .bin .gtr (.t 23) (.c (.int .i64 60))⟩,
  ⟨(some 25), none, .pick (.t 20) (.c (.bool true)) (.t 24)⟩,
  ⟨(some 26), none, .mov (.t 25)⟩,
  ⟨(some 27), (some (26, false)), .faddr 10 (.t 1)⟩,
  ⟨(some 28), (some (26, false)), .load 1 false (.t 27)⟩,
  ⟨(some 29), (some (26, false)), .len 0 (.t 28)⟩,
  ⟨(some 30), (some (26, false)), .bin .gtr (.t 29) (.c (.int .i64 16384))⟩,
  ⟨(some 31), none, .pick (.t 26) (.c (.bool true)) (.t 30)⟩,
  ⟨(some 32), none, .mov (.t 31)⟩,
  ⟨(some 33), (some (32, false)), .faddr 4 (.t 1)⟩,
  ⟨(some 34), (some (32, false)), .load 1 false (.t 33)⟩,
  ⟨(some 35), (some (32, false)), .bin .gtr (.t 34) (.c (.int .i64 4096))⟩,
  ⟨(some 36), none, .pick (.t 32) (.c (.bool true)) (.t 35)⟩,
  ⟨(some 37), none, .mov (.t 36)⟩,
  ⟨(some 38), (some (37, false)), .faddr 0 (.t 1)⟩,
  ⟨(some 39), (some (37, false)), .load 1 false (.t 38)⟩,
  ⟨(some 40), (some (37, false)), .len 1 (.t 39)⟩,
  ⟨(some 41), (some (37, false)), .bin .gtr (.t 40) (.c (.int .i64 4096))⟩,
  ⟨(some 42), none, .pick (.t 37) (.c (.bool true)) (.t 41)⟩]
@[go_sem] def proto_limits_r2 : List AI := [
  ⟨(some 2), none, .mov (.c (.int .i64 3))⟩]
@[go_sem] def proto_limits_r3 : List AI := [
  ⟨(some 3), none, .box 190003 1 (.c (.cst .nilFunc))⟩,
  ⟨none, none, .store 1 (.t 3) (.f 30)⟩]
@[go_sem] def proto_limits_r4 : List AI := [
  ⟨(some 43), none, .faddr 9 (.t 1)⟩,
  ⟨(some 44), none, .load 1 false (.t 43)⟩,
  ⟨(some 45), none, .mkfn 32 [(.t 3)]⟩,
  ⟨(some 46), none, .call 31 [(.t 44), (.t 45)]⟩,
  ⟨(some 47), none, .mov (.t 46)⟩,
  ⟨(some 48), (some (47, false)), .faddr 10 (.t 1)⟩,
  ⟨(some 49), (some (47, false)), .load 1 false (.t 48)⟩,
  ⟨(some 50), (some (47, false)), .mkfn 34 [(.t 3)]⟩,
  ⟨(some 51), (some (47, false)), .call 33 [(.t 49), (.t 50)]⟩,
  ⟨(some 52), none, .pick (.t 47) (.c (.bool true)) (.t 51)⟩]
@[go_sem] def proto_limits_r5 : List AI := [
  ⟨(some 2), none, .mov (.c (.int .i64 3))⟩]
@[go_sem] def proto_limits_r6 : List AI := [
  ⟨(some 2), none, .mov (.c (.int .i64 0))⟩]
@[go_sem] def proto_limits_c : AC := .seq (.ops [proto_limits_r0]) (.seq (.seq (.ops [proto_limits_r1]) (.cond (.t 42) (.seq (.ops [proto_limits_r2]) (.ret)) (.skip))) (.seq (.ops [proto_limits_r3]) (.seq (.seq (.ops [proto_limits_r4]) (.cond (.t 52) (.seq (.ops [proto_limits_r5]) (.ret)) (.skip))) (.seq (.ops [proto_limits_r6]) (.ret)))))
theorem proto_limits_ok : compF Tryz.prog 19 = some (53, proto_limits_c, [.t 2]) := by kernel_rfl

@[go_sem] def proto_form_r0 : List AI := [
  ⟨(some 1), none, .box 200001 11 (.t 0)⟩,
  ⟨(some 2), none, .mov (.c (.int .i64 0))⟩]
@[go_sem] def proto_form_r1 : List AI := [
  ⟨(some 8), none, .faddr 5 (.t 1)⟩,
  ⟨(some 9), none, .load 1 false (.t 8)⟩,
  ⟨(some 10), none, .len 0 (.t 9)⟩,
  ⟨(some 3), none, .mov (.t 10)⟩]
@[go_sem] def proto_form_r2 : List AI := [
  ⟨(some 11), none, .mov (.t 3)⟩,
  ⟨(some 12), none, .bin .eql (.t 11) (.c (.int .i64 0))⟩,
  ⟨(some 13), none, .mov (.t 12)⟩,
  ⟨(some 14), (some (13, false)), .faddr 4 (.t 1)⟩,
  ⟨(some 15), (some (13, false)), .load 1 false (.t 14)⟩,
  ⟨(some 16), (some (13, false)), .bin .lss (.t 15) (.c (.int .i64 0))⟩,
  ⟨(some 17), none, .pick (.t 13) (.c (.bool true)) (.t 16)⟩,
  ⟨(some 18), none, .mov (.t 17)⟩,
  ⟨(some 19), (some (18, false)), .faddr 2 (.t 1)⟩,
  ⟨(some 20), (some (18, false)), .load 1 false (.t 19)⟩,
  ⟨(some 21), (some (18, false)), .bin .lss (.t 20) (.c (.int .i64 0))⟩,
  ⟨(some 22), none, .pick (.t 18) (.c (.bool true)) (.t 21)⟩,
  ⟨(some 23), none, .mov (.t 22)⟩,
  ⟨(some 24), (some (23, false)), .faddr 1 (.t 1)⟩,
  ⟨(some 25), (some (23, false)), .load 1 false (.t 24)⟩,
  ⟨(some 26), (some (23, false)), .bin .lss (.t 25) (.c (.int .i64 0))⟩,
  ⟨(some 27), none, .pick (.t 23) (.c (.bool true)) (.t 26)⟩,
  ⟨(some 28), none, .mov (.t 27)⟩,
  ⟨(some 29), (some (28, false)), .faddr 2 (.t 1)⟩,
  ⟨(some 30), (some (28, false)), .load 1 false (.t 29)⟩,
  ⟨(some 31), (some (28, false)), .faddr 4 (.t 1)⟩,
  ⟨(some 32), (some (28, false)), .load 1 false (.t 31)⟩,
  ⟨(some 33), (some (28, false)), .bin .gtr (.t 30) (.t 32)⟩,
  ⟨(some 34), none, .pick (.t 28) (.c (.bool true)) (.t 33)⟩,
  ⟨(some 35), none, .mov (.t 34)⟩,
  ⟨(some 36), (some (35, false)), .faddr 6 (.t 1)⟩,
  ⟨(some 37), (some (35, false)), .load 1 false (.t 36)⟩,
  ⟨(some 38), (some (35, false)), .len 0 (.t 37)⟩,
  ⟨(some 39), (some (35, false)), .bin .neq (.t 38) (.c (.int .i64 0))⟩,
  ⟨(some 40), (some (35, false)), .mov (.t 39)⟩,
  ⟨(some 41), (some (40, true)), .faddr 6 (.t 1)⟩,
  ⟨(some 42), (some (40, true)), .load 1 false (.t 41)⟩,
  ⟨(some 43), (some (40, true)), .len 0 (.t 42)⟩,
  ⟨(some 44), (some (40, true)), .mov (.t 3)⟩,
  ⟨(some 45), (some (40, true)), .bin .neq (.t 43) (.t 44)⟩,
  ⟨(some 46), (some (35, false)), .pick (.t 40) (.t 45) (.c (.bool false))⟩,
  ⟨(some 47), none, .pick (.t 35) (.c (.bool true)) (.t 46)⟩]
@[go_sem] def proto_form_r3 : List AI := [
  ⟨(some 2), none, .mov (.c (.int .i64 4))⟩]
@[go_sem] def proto_form_r4 : List AI := [
  ⟨(some 48), none, .faddr 6 (.t 1)⟩,
  ⟨(some 49), none, .load 1 false (.t 48)⟩,
  ⟨(some 50), none, .call 35 [(.t 49), (.f 36)]⟩,
  ⟨(some 51), none, .mov (.t 50)⟩,
  ⟨(some 52), (some (51, false)), .faddr 9 (.t 1)⟩,
  ⟨(some 53), (some (51, false)), .load 1 false (.t 52)⟩,
  ⟨(some 54), (some (51, false)), .call 31 [(.t 53), (.f 37)]⟩,
  ⟨(some 55), none, .pick (.t 51) (.c (.bool true)) (.t 54)⟩]
@[go_sem] def proto_form_r5 : List AI := [
  ⟨(some 2), none, .mov (.c (.int .i64 4))⟩]
@[go_sem] def proto_form_r6 : List AI := [
  ⟨(some 56), none, .faddr 7 (.t 1)⟩,
  ⟨(some 57), none, .load 1 false (.t 56)⟩,
  ⟨(some 58), none, .len 0 (.t 57)⟩,
  ⟨(some 59), none, .mov (.c (.int .i64 0))⟩]
@[go_sem] def proto_form_r7 : List AI := [
  ⟨(some 60), none, .bin .lss (.t 59) (.t 58)⟩]
@[go_sem] def proto_form_r8 : List AI := [
  ⟨(some 61), none, .iaddr 5 (.t 57) (.t 59)⟩,
  ⟨(some 62), none, .load 5 true (.t 61)⟩,
  ⟨(some 5), none, .box 200005 5 (.c (.agg [(.int .i64 0), (.int .i64 0), (.int .i64 0), (.str []), (.int .i64 0)]))⟩,
  ⟨none, none, .store 5 (.t 5) (.t 62)⟩]
@[go_sem] def proto_form_r9 : List AI := [
  ⟨(some 63), none, .faddr 0 (.t 5)⟩,
  ⟨(some 64), none, .load 1 false (.t 63)⟩,
  ⟨(some 65), none, .bin .gtr (.t 64) (.c (.int .i64 3))⟩,
  ⟨(some 66), none, .mov (.t 65)⟩,
  ⟨(some 67), (some (66, false)), .load 5 true (.t 5)⟩,
  ⟨(some 68), (some (66, false)), .call 38 [(.t 67)]⟩,
  ⟨(some 69), (some (66, false)), .un .not (.t 68)⟩,
  ⟨(some 70), none, .pick (.t 66) (.c (.bool true)) (.t 69)⟩]
@[go_sem] def proto_form_r10 : List AI := [
  ⟨(some 2), none, .mov (.c (.int .i64 4))⟩]
@[go_sem] def proto_form_r11 : List AI := [
  ⟨(some 71), none, .bin .add (.t 59) (.c (.int .i64 1))⟩,
  ⟨(some 59), none, .mov (.t 71)⟩]
def proto_form_l0 : AC := .seq (.ops [proto_form_r7]) (.seq (.cond (.t 60) (.skip) (.exit 0)) (.seq (.block 1 (.seq (.ops [proto_form_r8]) (.seq (.ops [proto_form_r9]) (.cond (.t 70) (.seq (.ops [proto_form_r10]) (.ret)) (.skip))))) (.ops [proto_form_r11])))
theorem proto_form_l0_eq : proto_form_l0 = .seq (.ops [proto_form_r7]) (.seq (.cond (.t 60) (.skip) (.exit 0)) (.seq (.block 1 (.seq (.ops [proto_form_r8]) (.seq (.ops [proto_form_r9]) (.cond (.t 70) (.seq (.ops [proto_form_r10]) (.ret)) (.skip))))) (.ops [proto_form_r11]))) := rfl
@[go_sem] def proto_form_r12 : List AI := [
  ⟨(some 72), none, .faddr 10 (.t 1)⟩,
  ⟨(some 73), none, .load 1 false (.t 72)⟩,
  ⟨(some 74), none, .len 0 (.t 73)⟩,
  ⟨(some 75), none, .mov (.c (.int .i64 0))⟩]
@[go_sem] def proto_form_r13 : List AI := [
  ⟨(some 76), none, .bin .lss (.t 75) (.t 74)⟩]
@[go_sem] def proto_form_r14 : List AI := [
  ⟨(some 77), none, .iaddr 5 (.t 73) (.t 75)⟩,
  ⟨(some 78), none, .load 5 true (.t 77)⟩,
  ⟨(some 7), none, .box 200007 5 (.c (.agg [(.str []), (.int .i64 0), (.int .i64 0), (.int .i64 0), (.int .i64 0)]))⟩,
  ⟨none, none, .store 5 (.t 7) (.t 78)⟩]
@[go_sem] def proto_form_r15 : List AI := [
  ⟨(some 79), none, .faddr 1 (.t 7)⟩,
  ⟨(some 80), none, .load 1 false (.t 79)⟩,
  ⟨(some 81), none, .bin .lss (.t 80) (.c (.int .i64 0))⟩,
  ⟨(some 82), none, .mov (.t 81)⟩,
  ⟨(some 83), (some (82, false)), .faddr 1 (.t 7)⟩,
  ⟨(some 84), (some (82, false)), .load 1 false (.t 83)⟩,
  ⟨(some 85), (some (82, false)), .faddr 4 (.t 1)⟩,
  ⟨(some 86), (some (82, false)), .load 1 false (.t 85)⟩,
  ⟨(some 87), (some (82, false)), .bin .geq (.t 84) (.t 86)⟩,
  ⟨(some 88), none, .pick (.t 82) (.c (.bool true)) (.t 87)⟩,
  ⟨(some 89), none, .mov (.t 88)⟩,
  ⟨(some 90), (some (89, false)), .faddr 4 (.t 7)⟩,
  ⟨(some 91), (some (89, false)), .load 1 false (.t 90)⟩,
  ⟨(some 92), (some (89, false)), .bin .lss (.t 91) (.c (.int .i64 0))⟩,
  ⟨(some 93), none, .pick (.t 89) (.c (.bool true)) (.t 92)⟩,
  ⟨(some 94), none, .mov (.t 93)⟩,
  ⟨(some 95), (some (94, false)), .faddr 4 (.t 7)⟩,
  ⟨(some 96), (some (94, false)), .load 1 false (.t 95)⟩,
  ⟨(some 97), (some (94, false)), .bin .gtr (.t 96) (.c (.int .i64 2))⟩,
  ⟨(some 98), none, .pick (.t 94) (.c (.bool true)) (.t 97)⟩,
  ⟨(some 99), none, .mov (.t 98)⟩,
  ⟨(some 100), (some (99, false)), .faddr 2 (.t 7)⟩,
  ⟨(some 101), (some (99, false)), .load 1 false (.t 100)⟩,
  ⟨(some 102), (some (99, false)), .bin .lss (.t 101) (.c (.int .i64 0))⟩,
  ⟨(some 103), none, .pick (.t 99) (.c (.bool true)) (.t 102)⟩,
  ⟨(some 104), none, .mov (.t 103)⟩,
  ⟨(some 105), (some (104, false)), .faddr 3 (.t 7)⟩,
  ⟨(some 106), (some (104, false)), .load 1 false (.t 105)⟩,
  ⟨(some 107), (some (104, false)), .faddr 2 (.t 7)⟩,
  ⟨(some 108), (some (104, false)), .load 1 false (.t 107)⟩,
  ⟨(some 109), (some (104, false)), .bin .lss (.t 106) (.t 108)⟩,
  ⟨(some 110), none, .pick (.t 104) (.c (.bool true)) (.t 109)⟩,
  ⟨(some 111), none, .mov (.t 110)⟩,
  ⟨(some 112), (some (111, false)), .faddr 3 (.t 7)⟩,
  ⟨(some 113), (some (111, false)), .load 1 false (.t 112)⟩,
  ⟨(some 114), (some (111, false)), .mov (.t 3)⟩,
  ⟨(some 115), (some (111, false)), .bin .gtr (.t 113) (.t 114)⟩,
  ⟨(some 116), none, .pick (.t 111) (.c (.bool true)) (.t 115)⟩]
@[go_sem] def proto_form_r16 : List AI := [
  ⟨(some 2), none, .mov (.c (.int .i64 4))⟩]
@[go_sem] def proto_form_r17 : List AI := [
  ⟨(some 117), none, .bin .add (.t 75) (.c (.int .i64 1))⟩,
  ⟨(some 75), none, .mov (.t 117)⟩]
def proto_form_l1 : AC := .seq (.ops [proto_form_r13]) (.seq (.cond (.t 76) (.skip) (.exit 2)) (.seq (.block 3 (.seq (.ops [proto_form_r14]) (.seq (.ops [proto_form_r15]) (.cond (.t 116) (.seq (.ops [proto_form_r16]) (.ret)) (.skip))))) (.ops [proto_form_r17])))
theorem proto_form_l1_eq : proto_form_l1 = .seq (.ops [proto_form_r13]) (.seq (.cond (.t 76) (.skip) (.exit 2)) (.seq (.block 3 (.seq (.ops [proto_form_r14]) (.seq (.ops [proto_form_r15]) (.cond (.t 116) (.seq (.ops [proto_form_r16]) (.ret)) (.skip))))) (.ops [proto_form_r17]))) := rfl
@[go_sem] def proto_form_r18 : List AI := [
  ⟨(some 2), none, .mov (.c (.int .i64 0))⟩]
@[go_sem] def proto_form_c : AC := .seq (.ops [proto_form_r0]) (.seq (.ops [proto_form_r1]) (.seq (.seq (.ops [proto_form_r2]) (.cond (.t 47) (.seq (.ops [proto_form_r3]) (.ret)) (.skip))) (.seq (.seq (.ops [proto_form_r4]) (.cond (.t 55) (.seq (.ops [proto_form_r5]) (.ret)) (.skip))) (.seq (.seq (.ops [proto_form_r6]) (.block 0 (.loop proto_form_l0))) (.seq (.seq (.ops [proto_form_r12]) (.block 2 (.loop proto_form_l1))) (.seq (.ops [proto_form_r18]) (.ret)))))))
theorem proto_form_ok : compF Tryz.prog 20 = some (118, proto_form_c, [.t 2]) := by kernel_rfl

@[go_sem] def proto_instruction_r0 : List AI := [
  ⟨(some 2), none, .box 210002 11 (.t 0)⟩,
  ⟨(some 3), none, .box 210003 5 (.t 1)⟩,
  ⟨(some 4), none, .mov (.c (.int .i64 0))⟩]
@[go_sem] def proto_instruction_r1 : List AI := [
  ⟨(some 12), none, .load 5 true (.t 3)⟩,
  ⟨(some 13), none, .call 39 [(.t 12)]⟩,
  ⟨(some 5), none, .mov (.t 13)⟩]
@[go_sem] def proto_instruction_r2 : List AI := [
  ⟨(some 14), none, .mov (.t 5)⟩,
  ⟨(some 15), none, .bin .neq (.t 14) (.c (.int .i64 0))⟩]
@[go_sem] def proto_instruction_r3 : List AI := [
  ⟨(some 16), none, .mov (.t 5)⟩,
  ⟨(some 4), none, .mov (.t 16)⟩]
@[go_sem] def proto_instruction_r4 : List AI := [
  ⟨(some 18), none, .load 5 true (.t 3)⟩,
  ⟨(some 19), none, .call 40 [(.t 18)]⟩,
  ⟨(some 17), none, .mov (.t 19)⟩,
  ⟨(some 20), none, .ext 0 (.t 17)⟩,
  ⟨(some 21), none, .ext 1 (.t 17)⟩,
  ⟨(some 6), none, .mov (.t 20)⟩,
  ⟨(some 7), none, .mov (.t 21)⟩]
@[go_sem] def proto_instruction_r5 : List AI := [
  ⟨(some 23), none, .load 5 true (.t 3)⟩,
  ⟨(some 24), none, .call 41 [(.t 23)]⟩,
  ⟨(some 22), none, .mov (.t 24)⟩,
  ⟨(some 25), none, .ext 0 (.t 22)⟩,
  ⟨(some 26), none, .ext 1 (.t 22)⟩,
  ⟨(some 8), none, .mov (.t 25)⟩,
  ⟨(some 9), none, .mov (.t 26)⟩]
@[go_sem] def proto_instruction_r6 : List AI := [
  ⟨(some 27), none, .load 11 true (.t 2)⟩,
  ⟨(some 28), none, .mov (.t 6)⟩,
  ⟨(some 29), none, .mov (.t 7)⟩,
  ⟨(some 30), none, .call 42 [(.t 27), (.t 28), (.t 29)]⟩,
  ⟨(some 31), none, .un .not (.t 30)⟩,
  ⟨(some 32), none, .mov (.t 31)⟩,
  ⟨(some 33), (some (32, false)), .load 11 true (.t 2)⟩,
  ⟨(some 34), (some (32, false)), .mov (.t 8)⟩,
  ⟨(some 35), (some (32, false)), .mov (.t 9)⟩,
  ⟨(some 36), (some (32, false)), .call 42 [(.t 33), (.t 34), (.t 35)]⟩,
  ⟨(some 37), (some (32, false)), .un .not (.t 36)⟩,
  ⟨(some 38), none, .pick (.t 32) (.c (.bool true)) (.t 37)⟩]
@[go_sem] def proto_instruction_r7 : List AI := [
  ⟨(some 4), none, .mov (.c (.int .i64 4))⟩]
@[go_sem] def proto_instruction_r8 : List AI := [
  ⟨(some 40), none, .load 5 true (.t 3)⟩,
  ⟨(some 41), none, .call 43 [(.t 40)]⟩,
  ⟨(some 39), none, .mov (.t 41)⟩,
  ⟨(some 42), none, .ext 0 (.t 39)⟩,
  ⟨(some 43), none, .ext 1 (.t 39)⟩,
  ⟨(some 10), none, .mov (.t 42)⟩,
  ⟨(some 11), none, .mov (.t 43)⟩]
@[go_sem] def proto_instruction_r9 : List AI := [
  ⟨(some 44), none, .mov (.t 11)⟩,
  ⟨(some 45), none, .mov (.t 44)⟩,
  ⟨(some 46), (some (45, true)), .mov (.t 10)⟩,
  ⟨(some 47), (some (45, true)), .bin .lss (.t 46) (.c (.int .i64 0))⟩,
  ⟨(some 48), (some (45, true)), .mov (.t 47)⟩,
  ⟨(some 49), (some (48, false)), .mov (.t 10)⟩,
  ⟨(some 50), (some (48, false)), .faddr 5 (.t 2)⟩,
  ⟨(some 51), (some (48, false)), .load 1 false (.t 50)⟩,
  ⟨(some 52), (some (48, false)), .len 0 (.t 51)⟩,
  ⟨(some 53), (some (48, false)), .bin .geq (.t 49) (.t 52)⟩,
  ⟨(some 54), (some (45, true)), .pick (.t 48) (.c (.bool true)) (.t 53)⟩,
  ⟨(some 55), none, .pick (.t 45) (.t 54) (.c (.bool false))⟩]
@[go_sem] def proto_instruction_r10 : List AI := [
  ⟨(some 4), none, .mov (.c (.int .i64 4))⟩]
@[go_sem] def proto_instruction_r11 : List AI := [
  ⟨(some 56), none, .load 11 true (.t 2)⟩,
  ⟨(some 57), none, .load 5 true (.t 3)⟩,
  ⟨(some 58), none, .call 44 [(.t 56), (.t 57)]⟩,
  ⟨(some 59), none, .un .not (.t 58)⟩]
@[go_sem] def proto_instruction_r12 : List AI := [
  ⟨(some 4), none, .mov (.c (.int .i64 4))⟩]
@[go_sem] def proto_instruction_r13 : List AI := [
  ⟨(some 4), none, .mov (.c (.int .i64 0))⟩]
@[go_sem] def proto_instruction_c : AC := .seq (.ops [proto_instruction_r0]) (.seq (.seq (.ops [proto_instruction_r1]) (.seq (.ops [proto_instruction_r2]) (.cond (.t 15) (.seq (.ops [proto_instruction_r3]) (.ret)) (.skip)))) (.seq (.ops [proto_instruction_r4]) (.seq (.ops [proto_instruction_r5]) (.seq (.seq (.ops [proto_instruction_r6]) (.cond (.t 38) (.seq (.ops [proto_instruction_r7]) (.ret)) (.skip))) (.seq (.seq (.ops [proto_instruction_r8]) (.seq (.ops [proto_instruction_r9]) (.cond (.t 55) (.seq (.ops [proto_instruction_r10]) (.ret)) (.skip)))) (.seq (.seq (.ops [proto_instruction_r11]) (.cond (.t 59) (.seq (.ops [proto_instruction_r12]) (.ret)) (.skip))) (.seq (.ops [proto_instruction_r13]) (.ret))))))))
theorem proto_instruction_ok : compF Tryz.prog 21 = some (60, proto_instruction_c, [.t 4]) := by kernel_rfl

@[go_sem] def scriptingref33_limits_r0 : List AI := [
  ⟨(some 1), none, .box 220001 11 (.t 0)⟩,
  ⟨(some 2), none, .mov (.c (.bool false))⟩]
@[go_sem] def scriptingref33_limits_r1 : List AI := [
  ⟨(some 5), none, .faddr 5 (.t 1)⟩,
  ⟨(some 6), none, .load 1 false (.t 5)⟩,
  ⟨(some 7), none, .len 0 (.t 6)⟩,
  ⟨(some 8), none, .bin .gtr (.t 7) (.c (.int .i64 16384))⟩,
  ⟨(some 9), none, .mov (.t 8)⟩,
  ⟨(some 10), (some (9, false)), .faddr 7 (.t 1)⟩,
  ⟨(some 11), (some (9, false)), .load 1 false (.t 10)⟩,
  ⟨(some 12), (some (9, false)), .len 0 (.t 11)⟩,
  ⟨(some 13), (some (9, false)), .bin .gtr (.t 12) (.c (.int .i64 4096))⟩,
  ⟨(some 14), none, .pick (.t 9) (.c (.bool true)) (.t 13)⟩,
  ⟨(some 15), none, .mov (.t 14)⟩,
  ⟨(some 16), (some (15, false)), .faddr 8 (.t 1)⟩,
  ⟨(some 17), (some (15, false)), .load 1 false (.t 16)⟩,
  ⟨(some 18), (some (15, false)), .len 0 (.t 17)⟩,
  ⟨(some 19), (some (15, false)), .bin .gtr (.t 18) (.c (.int .i64 1024))⟩,
  ⟨(some 20), none, .pick (.t 15) (.c (.bool true)) (.t 19)⟩,
  ⟨(some 21), none, .mov (.t 20)⟩,
  ⟨(some 22), (some (21, false)), .faddr 9 (.t 1)⟩,
  ⟨(some 23), (some (21, false)), .load 1 false (.t 22)⟩,
  ⟨(some 24), (some (21, false)), .len 0 (.t 23)⟩,
  ⟨(some 25), (some (21, false)), .bin .gtr (.t 24) (.c (.int .i64 60))⟩,
  ⟨(some 26), none, .pick (.t 21) (.c (.bool true)) (.t 25)⟩,
  ⟨(some 27), none, .mov (.t 26)⟩,
  ⟨(some 28), (some (27, false)), .faddr 10 (.t 1)⟩,
  ⟨(some 29), (some (27, false)), .load 1 false (.t 28)⟩,
  ⟨(some 30), (some (27, false)), .len 0 (.t 29)⟩,
  ⟨(some 31), (some (27, false)), .bin .gtr (.t 30) (.c (.int .i64 16384))⟩,
  ⟨(some 32), none, .pick (.t 27) (.c (.bool true)) (.t 31)⟩,
  ⟨(some 33), none, .mov (.t 32)⟩,
  ⟨(some 34), (some (33, false)), .faddr 4 (.t 1)⟩,
  ⟨(some 35), (some (33, false)), .load 1 false (.t 34)⟩,
  ⟨(some 36), (some (33, false)), .bin .gtr (.t 35) (.c (.int .i64 4096))⟩,
  ⟨(some 37), none, .pick (.t 33) (.c (.bool true)) (.t 36)⟩,
  ⟨(some 38), none, .mov (.t 37)⟩,
  ⟨(some 39), (some (38, false)), .faddr 0 (.t 1)⟩,
  ⟨(some 40), (some (38, false)), .load 1 false (.t 39)⟩,
  ⟨(some 41), (some (38, false)), .len 1 (.t 40)⟩,
  ⟨(some 42), (some (38, false)), .bin .gtr (.t 41) (.c (.int .i64 4096))⟩,
  ⟨(some 43), none, .pick (.t 38) (.c (.bool true)) (.t 42)⟩]
@[go_sem] def scriptingref33_limits_r2 : List AI := [
  ⟨(some 2), none, .mov (.c (.bool true))⟩]
@[go_sem] def scriptingref33_limits_r3 : List AI := [
  ⟨(some 3), none, .mov (.c (.int .i64 0))⟩]
@[go_sem] def scriptingref33_limits_r4 : List AI := [
  ⟨(some 44), none, .mov (.t 3)⟩,
  ⟨(some 45), none, .faddr 10 (.t 1)⟩,
  ⟨(some 46), none, .load 1 false (.t 45)⟩,
  ⟨(some 47), none, .len 0 (.t 46)⟩,
  ⟨(some 48), none, .bin .lss (.t 44) (.t 47)⟩]
@[go_sem] def scriptingref33_limits_r5 : List AI := [
  ⟨(some 51), none, .faddr 10 (.t 1)⟩,
  ⟨(some 52), none, .load 1 false (.t 51)⟩,
  ⟨(some 53), none, .mov (.t 3)⟩,
  ⟨(some 54), none, .iaddr 5 (.t 52) (.t 53)⟩,
  ⟨(some 55), none, .faddr 0 (.t 54)⟩,
  ⟨(some 56), none, .load 1 false (.t 55)⟩,
  ⟨(some 57), none, .len 1 (.t 56)⟩,
  ⟨(some 58), none, .bin .gtr (.t 57) (.c (.int .i64 40))⟩]
@[go_sem] def scriptingref33_limits_r6 : List AI := [
  ⟨(some 2), none, .mov (.c (.bool true))⟩]
@[go_sem] def scriptingref33_limits_r7 : List AI := [
  ⟨(some 49), none, .mov (.t 3)⟩,
  ⟨(some 50), none, .bin .add (.t 49) (.c (.int .i64 1))⟩,
  ⟨(some 3), none, .mov (.t 50)⟩]
def scriptingref33_limits_l0 : AC := .seq (.seq (.ops [scriptingref33_limits_r4]) (.cond (.t 48) (.skip) (.exit 0))) (.seq (.block 1 (.seq (.ops [scriptingref33_limits_r5]) (.cond (.t 58) (.seq (.ops [scriptingref33_limits_r6]) (.ret)) (.skip)))) (.ops [scriptingref33_limits_r7]))
theorem scriptingref33_limits_l0_eq : scriptingref33_limits_l0 = .seq (.seq (.ops [scriptingref33_limits_r4]) (.cond (.t 48) (.skip) (.exit 0))) (.seq (.block 1 (.seq (.ops [scriptingref33_limits_r5]) (.cond (.t 58) (.seq (.ops [scriptingref33_limits_r6]) (.ret)) (.skip)))) (.ops [scriptingref33_limits_r7])) := rfl
@[go_sem] def scriptingref33_limits_r8 : List AI := [
  ⟨(some 4), none, .mov (.c (.int .i64 0))⟩]
@[go_sem] def scriptingref33_limits_r9 : List AI := [
  ⟨(some 59), none, .mov (.t 4)⟩,
  ⟨(some 60), none, .faddr 9 (.t 1)⟩,
  ⟨(some 61), none, .load 1 false (.t 60)⟩,
  ⟨(some 62), none, .len 0 (.t 61)⟩,
  ⟨(some 63), none, .bin .lss (.t 59) (.t 62)⟩]
@[go_sem] def scriptingref33_limits_r10 : List AI := [
  ⟨(some 66), none, .faddr 9 (.t 1)⟩,
  ⟨(some 67), none, .load 1 false (.t 66)⟩,
  ⟨(some 68), none, .mov (.t 4)⟩,
  ⟨(some 69), none, .iaddr 3 (.t 67) (.t 68)⟩,
  ⟨(some 70), none, .faddr 0 (.t 69)⟩,
  ⟨(some 71), none, .load 1 false (.t 70)⟩,
  ⟨(some 72), none, .len 1 (.t 71)⟩,
  ⟨(some 73), none, .bin .gtr (.t 72) (.c (.int .i64 40))⟩]
@[go_sem] def scriptingref33_limits_r11 : List AI := [
  ⟨(some 2), none, .mov (.c (.bool true))⟩]
@[go_sem] def scriptingref33_limits_r12 : List AI := [
  ⟨(some 64), none, .mov (.t 4)⟩,
  ⟨(some 65), none, .bin .add (.t 64) (.c (.int .i64 1))⟩,
  ⟨(some 4), none, .mov (.t 65)⟩]
def scriptingref33_limits_l1 : AC := .seq (.seq (.ops [scriptingref33_limits_r9]) (.cond (.t 63) (.skip) (.exit 2))) (.seq (.block 3 (.seq (.ops [scriptingref33_limits_r10]) (.cond (.t 73) (.seq (.ops [scriptingref33_limits_r11]) (.ret)) (.skip)))) (.ops [scriptingref33_limits_r12]))
theorem scriptingref33_limits_l1_eq : scriptingref33_limits_l1 = .seq (.seq (.ops [scriptingref33_limits_r9]) (.cond (.t 63) (.skip) (.exit 2))) (.seq (.block 3 (.seq (.ops [scriptingref33_limits_r10]) (.cond (.t 73) (.seq (.ops [scriptingref33_limits_r11]) (.ret)) (.skip)))) (.ops [scriptingref33_limits_r12])) := rfl
@[go_sem] def scriptingref33_limits_r13 : List AI := [
  ⟨(some 2), none, .mov (.c (.bool false))⟩]
@[go_sem] def scriptingref33_limits_c : AC := .seq (.ops [scriptingref33_limits_r0]) (.seq (.seq (.ops [scriptingref33_limits_r1]) (.cond (.t 43) (.seq (.ops [scriptingref33_limits_r2]) (.ret)) (.skip))) (.seq (.seq (.ops [scriptingref33_limits_r3]) (.block 0 (.loop scriptingref33_limits_l0))) (.seq (.seq (.ops [scriptingref33_limits_r8]) (.block 2 (.loop scriptingref33_limits_l1))) (.seq (.ops [scriptingref33_limits_r13]) (.ret)))))
theorem scriptingref33_limits_ok : compF Tryz.prog 22 = some (74, scriptingref33_limits_c, [.t 2]) := by kernel_rfl

@[go_sem] def scriptingref33_form_r0 : List AI := [
  ⟨(some 1), none, .box 230001 11 (.t 0)⟩,
  ⟨(some 2), none, .mov (.c (.bool false))⟩]
@[go_sem] def scriptingref33_form_r1 : List AI := [
  ⟨(some 8), none, .faddr 5 (.t 1)⟩,
  ⟨(some 9), none, .load 1 false (.t 8)⟩,
  ⟨(some 10), none, .len 0 (.t 9)⟩,
  ⟨(some 11), none, .bin .eql (.t 10) (.c (.int .i64 0))⟩,
  ⟨(some 12), none, .mov (.t 11)⟩,
  ⟨(some 13), (some (12, false)), .faddr 4 (.t 1)⟩,
  ⟨(some 14), (some (12, false)), .load 1 false (.t 13)⟩,
  ⟨(some 15), (some (12, false)), .bin .lss (.t 14) (.c (.int .i64 0))⟩,
  ⟨(some 16), none, .pick (.t 12) (.c (.bool true)) (.t 15)⟩,
  ⟨(some 17), none, .mov (.t 16)⟩,
  ⟨(some 18), (some (17, false)), .faddr 2 (.t 1)⟩,
  ⟨(some 19), (some (17, false)), .load 1 false (.t 18)⟩,
  ⟨(some 20), (some (17, false)), .bin .lss (.t 19) (.c (.int .i64 0))⟩,
  ⟨(some 21), none, .pick (.t 17) (.c (.bool true)) (.t 20)⟩,
  ⟨(some 22), none, .mov (.t 21)⟩,
  ⟨(some 23), (some (22, false)), .faddr 1 (.t 1)⟩,
  ⟨(some 24), (some (22, false)), .load 1 false (.t 23)⟩,
  ⟨(some 25), (some (22, false)), .bin .lss (.t 24) (.c (.int .i64 0))⟩,
  ⟨(some 26), none, .pick (.t 22) (.c (.bool true)) (.t 25)⟩,
  ⟨(some 27), none, .mov (.t 26)⟩,
  ⟨(some 28), (some (27, false)), .faddr 2 (.t 1)⟩,
  ⟨(some 29), (some (27, false)), .load 1 false (.t 28)⟩,
  ⟨(some 30), (some (27, false)), .faddr 4 (.t 1)⟩,
  ⟨(some 31), (some (27, false)), .load 1 false (.t 30)⟩,
  ⟨(some 32), (some (27, false)), .bin .gtr (.t 29) (.t 31)⟩,
  ⟨(some 33), none, .pick (.t 27) (.c (.bool true)) (.t 32)⟩,
  ⟨(some 34), none, .mov (.t 33)⟩,
  ⟨(some 35), (some (34, false)), .faddr 6 (.t 1)⟩,
  ⟨(some 36), (some (34, false)), .load 1 false (.t 35)⟩,
  ⟨(some 37), (some (34, false)), .len 0 (.t 36)⟩,
  ⟨(some 38), (some (34, false)), .bin .neq (.t 37) (.c (.int .i64 0))⟩,
  ⟨(some 39), (some (34, false)), .mov (.t 38)⟩,
  ⟨(some 40), (some (39, true)), .faddr 6 (.t 1)⟩,
  ⟨(some 41), (some (39, true)), .load 1 false (.t 40)⟩,
  ⟨(some 42), (some (39, true)), .len 0 (.t 41)⟩,
  ⟨(some 43), (some (39, true)), .faddr 5 (.t 1)⟩,
  ⟨(some 44), (some (39, true)), .load 1 false (.t 43)⟩,
  ⟨(some 45), (some (39, true)), .len 0 (.t 44)⟩,
  ⟨(some 46), (some (39, true)), .bin .neq (.t 42) (.t 45)⟩,
  ⟨(some 47), (some (34, false)), .pick (.t 39) (.t 46) (.c (.bool false))⟩,
  ⟨(some 48), none, .pick (.t 34) (.c (.bool true)) (.t 47)⟩]
@[go_sem] def scriptingref33_form_r2 : List AI := [
  ⟨(some 2), none, .mov (.c (.bool false))⟩]
@[go_sem] def scriptingref33_form_r3 : List AI := [
  ⟨(some 3), none, .mov (.c (.int .i64 0))⟩]
@[go_sem] def scriptingref33_form_r4 : List AI := [
  ⟨(some 49), none, .mov (.t 3)⟩,
  ⟨(some 50), none, .faddr 6 (.t 1)⟩,
  ⟨(some 51), none, .load 1 false (.t 50)⟩,
  ⟨(some 52), none, .len 0 (.t 51)⟩,
  ⟨(some 53), none, .bin .lss (.t 49) (.t 52)⟩]
@[go_sem] def scriptingref33_form_r5 : List AI := [
  ⟨(some 56), none, .faddr 6 (.t 1)⟩,
  ⟨(some 57), none, .load 1 false (.t 56)⟩,
  ⟨(some 58), none, .mov (.t 3)⟩,
  ⟨(some 59), none, .iaddr 1 (.t 57) (.t 58)⟩,
  ⟨(some 60), none, .load 1 false (.t 59)⟩,
  ⟨(some 61), none, .bin .lss (.t 60) (.c (.int .i64 0))⟩]
@[go_sem] def scriptingref33_form_r6 : List AI := [
  ⟨(some 2), none, .mov (.c (.bool false))⟩]
@[go_sem] def scriptingref33_form_r7 : List AI := [
  ⟨(some 54), none, .mov (.t 3)⟩,
  ⟨(some 55), none, .bin .add (.t 54) (.c (.int .i64 1))⟩,
  ⟨(some 3), none, .mov (.t 55)⟩]
def scriptingref33_form_l0 : AC := .seq (.seq (.ops [scriptingref33_form_r4]) (.cond (.t 53) (.skip) (.exit 0))) (.seq (.block 1 (.seq (.ops [scriptingref33_form_r5]) (.cond (.t 61) (.seq (.ops [scriptingref33_form_r6]) (.ret)) (.skip)))) (.ops [scriptingref33_form_r7]))
theorem scriptingref33_form_l0_eq : scriptingref33_form_l0 = .seq (.seq (.ops [scriptingref33_form_r4]) (.cond (.t 53) (.skip) (.exit 0))) (.seq (.block 1 (.seq (.ops [scriptingref33_form_r5]) (.cond (.t 61) (.seq (.ops [scriptingref33_form_r6]) (.ret)) (.skip)))) (.ops [scriptingref33_form_r7])) := rfl
@[go_sem] def scriptingref33_form_r8 : List AI := [
  ⟨(some 4), none, .mov (.c (.int .i64 0))⟩]
@[go_sem] def scriptingref33_form_r9 : List AI := [
  ⟨(some 62), none, .mov (.t 4)⟩,
  ⟨(some 63), none, .faddr 7 (.t 1)⟩,
  ⟨(some 64), none, .load 1 false (.t 63)⟩,
  ⟨(some 65), none, .len 0 (.t 64)⟩,
  ⟨(some 66), none, .bin .lss (.t 62) (.t 65)⟩]
@[go_sem] def scriptingref33_form_r10 : List AI := [
  ⟨(some 69), none, .faddr 7 (.t 1)⟩,
  ⟨(some 70), none, .load 1 false (.t 69)⟩,
  ⟨(some 71), none, .mov (.t 4)⟩,
  ⟨(some 72), none, .iaddr 5 (.t 70) (.t 71)⟩,
  ⟨(some 73), none, .load 5 true (.t 72)⟩,
  ⟨(some 74), none, .call 45 [(.t 73)]⟩,
  ⟨(some 75), none, .un .not (.t 74)⟩,
  ⟨(some 76), none, .mov (.t 75)⟩,
  ⟨(some 77), (some (76, false)), .faddr 7 (.t 1)⟩,
  ⟨(some 78), (some (76, false)), .load 1 false (.t 77)⟩,
  ⟨(some 79), (some (76, false)), .mov (.t 4)⟩,
  ⟨(some 80), (some (76, false)), .iaddr 5 (.t 78) (.t 79)⟩,
  ⟨(some 81), (some (76, false)), .faddr 0 (.t 80)⟩,
  ⟨(some 82), (some (76, false)), .load 1 false (.t 81)⟩,
  ⟨(some 83), (some (76, false)), .bin .gtr (.t 82) (.c (.int .i64 3))⟩,
  ⟨(some 84), none, .pick (.t 76) (.c (.bool true)) (.t 83)⟩]
@[go_sem] def scriptingref33_form_r11 : List AI := [
  ⟨(some 2), none, .mov (.c (.bool false))⟩]
@[go_sem] def scriptingref33_form_r12 : List AI := [
  ⟨(some 67), none, .mov (.t 4)⟩,
  ⟨(some 68), none, .bin .add (.t 67) (.c (.int .i64 1))⟩,
  ⟨(some 4), none, .mov (.t 68)⟩]
def scriptingref33_form_l1 : AC := .seq (.seq (.ops [scriptingref33_form_r9]) (.cond (.t 66) (.skip) (.exit 2))) (.seq (.block 3 (.seq (.ops [scriptingref33_form_r10]) (.cond (.t 84) (.seq (.ops [scriptingref33_form_r11]) (.ret)) (.skip)))) (.ops [scriptingref33_form_r12]))
theorem scriptingref33_form_l1_eq : scriptingref33_form_l1 = .seq (.seq (.ops [scriptingref33_form_r9]) (.cond (.t 66) (.skip) (.exit 2))) (.seq (.block 3 (.seq (.ops [scriptingref33_form_r10]) (.cond (.t 84) (.seq (.ops [scriptingref33_form_r11]) (.ret)) (.skip)))) (.ops [scriptingref33_form_r12])) := rfl
@[go_sem] def scriptingref33_form_r13 : List AI := [
  ⟨(some 5), none, .mov (.c (.int .i64 0))⟩]
@[go_sem] def scriptingref33_form_r14 : List AI := [
  ⟨(some 85), none, .mov (.t 5)⟩,
  ⟨(some 86), none, .faddr 9 (.t 1)⟩,
  ⟨(some 87), none, .load 1 false (.t 86)⟩,
  ⟨(some 88), none, .len 0 (.t 87)⟩,
  ⟨(some 89), none, .bin .lss (.t 85) (.t 88)⟩]
@[go_sem] def scriptingref33_form_r15 : List AI := [
  ⟨(some 92), none, .faddr 9 (.t 1)⟩,
  ⟨(some 93), none, .load 1 false (.t 92)⟩,
  ⟨(some 94), none, .mov (.t 5)⟩,
  ⟨(some 95), none, .iaddr 3 (.t 93) (.t 94)⟩,
  ⟨(some 96), none, .faddr 2 (.t 95)⟩,
  ⟨(some 97), none, .load 1 false (.t 96)⟩,
  ⟨(some 98), none, .bin .lss (.t 97) (.c (.int .i64 0))⟩]
@[go_sem] def scriptingref33_form_r16 : List AI := [
  ⟨(some 2), none, .mov (.c (.bool false))⟩]
@[go_sem] def scriptingref33_form_r17 : List AI := [
  ⟨(some 90), none, .mov (.t 5)⟩,
  ⟨(some 91), none, .bin .add (.t 90) (.c (.int .i64 1))⟩,
  ⟨(some 5), none, .mov (.t 91)⟩]
def scriptingref33_form_l2 : AC := .seq (.seq (.ops [scriptingref33_form_r14]) (.cond (.t 89) (.skip) (.exit 4))) (.seq (.block 5 (.seq (.ops [scriptingref33_form_r15]) (.cond (.t 98) (.seq (.ops [scriptingref33_form_r16]) (.ret)) (.skip)))) (.ops [scriptingref33_form_r17]))
theorem scriptingref33_form_l2_eq : scriptingref33_form_l2 = .seq (.seq (.ops [scriptingref33_form_r14]) (.cond (.t 89) (.skip) (.exit 4))) (.seq (.block 5 (.seq (.ops [scriptingref33_form_r15]) (.cond (.t 98) (.seq (.ops [scriptingref33_form_r16]) (.ret)) (.skip)))) (.ops [scriptingref33_form_r17])) := rfl
@[go_sem] def scriptingref33_form_r18 : List AI := [
  ⟨(some 6), none, .mov (.c (.int .i64 0))⟩]
@[go_sem] def scriptingref33_form_r19 : List AI := [
  ⟨(some 99), none, .mov (.t 6)⟩,
  ⟨(some 100), none, .faddr 10 (.t 1)⟩,
  ⟨(some 101), none, .load 1 false (.t 100)⟩,
  ⟨(some 102), none, .len 0 (.t 101)⟩,
  ⟨(some 103), none, .bin .lss (.t 99) (.t 102)⟩]
@[go_sem] def scriptingref33_form_r20 : List AI := [
  ⟨(some 106), none, .faddr 10 (.t 1)⟩,
  ⟨(some 107), none, .load 1 false (.t 106)⟩,
  ⟨(some 108), none, .mov (.t 6)⟩,
  ⟨(some 109), none, .iaddr 5 (.t 107) (.t 108)⟩,
  ⟨(some 110), none, .load 5 true (.t 109)⟩,
  ⟨(some 7), none, .box 230007 5 (.c (.agg [(.str []), (.int .i64 0), (.int .i64 0), (.int .i64 0), (.int .i64 0)]))⟩,
  ⟨none, none, .store 5 (.t 7) (.t 110)⟩]
@[go_sem] def scriptingref33_form_r21 : List AI := [
  ⟨(some 111), none, .faddr 1 (.t 7)⟩,
  ⟨(some 112), none, .load 1 false (.t 111)⟩,
  ⟨(some 113), none, .bin .lss (.t 112) (.c (.int .i64 0))⟩,
  ⟨(some 114), none, .mov (.t 113)⟩,
  ⟨(some 115), (some (114, false)), .faddr 1 (.t 7)⟩,
  ⟨(some 116), (some (114, false)), .load 1 false (.t 115)⟩,
  ⟨(some 117), (some (114, false)), .faddr 4 (.t 1)⟩,
  ⟨(some 118), (some (114, false)), .load 1 false (.t 117)⟩,
  ⟨(some 119), (some (114, false)), .bin .geq (.t 116) (.t 118)⟩,
  ⟨(some 120), none, .pick (.t 114) (.c (.bool true)) (.t 119)⟩,
  ⟨(some 121), none, .mov (.t 120)⟩,
  ⟨(some 122), (some (121, false)), .faddr 4 (.t 7)⟩,
  ⟨(some 123), (some (121, false)), .load 1 false (.t 122)⟩,
  ⟨(some 124), (some (121, false)), .bin .lss (.t 123) (.c (.int .i64 0))⟩,
  ⟨(some 125), none, .pick (.t 121) (.c (.bool true)) (.t 124)⟩,
  ⟨(some 126), none, .mov (.t 125)⟩,
  ⟨(some 127), (some (126, false)), .faddr 4 (.t 7)⟩,
  ⟨(some 128), (some (126, false)), .load 1 false (.t 127)⟩,
  ⟨(some 129), (some (126, false)), .bin .gtr (.t 128) (.c (.int .i64 2))⟩,
  ⟨(some 130), none, .pick (.t 126) (.c (.bool true)) (.t 129)⟩,
  ⟨(some 131), none, .mov (.t 130)⟩,
  ⟨(some 132), (some (131, false)), .faddr 2 (.t 7)⟩,
  ⟨(some 133), (some (131, false)), .load 1 false (.t 132)⟩,
  ⟨(some 134), (some (131, false)), .bin .lss (.t 133) (.c (.int .i64 0))⟩,
  ⟨(some 135), none, .pick (.t 131) (.c (.bool true)) (.t 134)⟩,
  ⟨(some 136), none, .mov (.t 135)⟩,
  ⟨(some 137), (some (136, false)), .faddr 3 (.t 7)⟩,
  ⟨(some 138), (some (136, false)), .load 1 false (.t 137)⟩,
  ⟨(some 139), (some (136, false)), .faddr 2 (.t 7)⟩,
  ⟨(some 140), (some (136, false)), .load 1 false (.t 139)⟩,
  ⟨(some 141), (some (136, false)), .bin .lss (.t 138) (.t 140)⟩,
  ⟨(some 142), none, .pick (.t 136) (.c (.bool true)) (.t 141)⟩,
  ⟨(some 143), none, .mov (.t 142)⟩,
  ⟨(some 144), (some (143, false)), .faddr 3 (.t 7)⟩,
  ⟨(some 145), (some (143, false)), .load 1 false (.t 144)⟩,
  ⟨(some 146), (some (143, false)), .faddr 5 (.t 1)⟩,
  ⟨(some 147), (some (143, false)), .load 1 false (.t 146)⟩,
  ⟨(some 148), (some (143, false)), .len 0 (.t 147)⟩,
  ⟨(some 149), (some (143, false)), .bin .gtr (.t 145) (.t 148)⟩,
  ⟨(some 150), none, .pick (.t 143) (.c (.bool true)) (.t 149)⟩]
@[go_sem] def scriptingref33_form_r22 : List AI := [
  ⟨(some 2), none, .mov (.c (.bool false))⟩]
@[go_sem] def scriptingref33_form_r23 : List AI := [
  ⟨(some 104), none, .mov (.t 6)⟩,
  ⟨(some 105), none, .bin .add (.t 104) (.c (.int .i64 1))⟩,
  ⟨(some 6), none, .mov (.t 105)⟩]
def scriptingref33_form_l3 : AC := .seq (.seq (.ops [scriptingref33_form_r19]) (.cond (.t 103) (.skip) (.exit 6))) (.seq (.block 7 (.seq (.ops [scriptingref33_form_r20]) (.seq (.ops [scriptingref33_form_r21]) (.cond (.t 150) (.seq (.ops [scriptingref33_form_r22]) (.ret)) (.skip))))) (.ops [scriptingref33_form_r23]))
theorem scriptingref33_form_l3_eq : scriptingref33_form_l3 = .seq (.seq (.ops [scriptingref33_form_r19]) (.cond (.t 103) (.skip) (.exit 6))) (.seq (.block 7 (.seq (.ops [scriptingref33_form_r20]) (.seq (.ops [scriptingref33_form_r21]) (.cond (.t 150) (.seq (.ops [scriptingref33_form_r22]) (.ret)) (.skip))))) (.ops [scriptingref33_form_r23])) := rfl
@[go_sem] def scriptingref33_form_r24 : List AI := [
  ⟨(some 2), none, .mov (.c (.bool true))⟩]
@[go_sem] def scriptingref33_form_c : AC := .seq (.ops [scriptingref33_form_r0]) (.seq (.seq (.ops [scriptingref33_form_r1]) (.cond (.t 48) (.seq (.ops [scriptingref33_form_r2]) (.ret)) (.skip))) (.seq (.seq (.ops [scriptingref33_form_r3]) (.block 0 (.loop scriptingref33_form_l0))) (.seq (.seq (.ops [scriptingref33_form_r8]) (.block 2 (.loop scriptingref33_form_l1))) (.seq (.seq (.ops [scriptingref33_form_r13]) (.block 4 (.loop scriptingref33_form_l2))) (.seq (.seq (.ops [scriptingref33_form_r18]) (.block 6 (.loop scriptingref33_form_l3))) (.seq (.ops [scriptingref33_form_r24]) (.ret)))))))
theorem scriptingref33_form_ok : compF Tryz.prog 23 = some (151, scriptingref33_form_c, [.t 2]) := by kernel_rfl

@[go_sem] def scriptingref33_instr_r0 : List AI := [
  ⟨(some 2), none, .box 240002 11 (.t 0)⟩,
  ⟨(some 3), none, .box 240003 5 (.t 1)⟩,
  ⟨(some 4), none, .mov (.c (.int .i64 0))⟩]
@[go_sem] def scriptingref33_instr_r1 : List AI := [
  ⟨(some 12), none, .load 5 true (.t 3)⟩,
  ⟨(some 13), none, .call 46 [(.t 12)]⟩,
  ⟨(some 5), none, .mov (.t 13)⟩]
@[go_sem] def scriptingref33_instr_r2 : List AI := [
  ⟨(some 14), none, .mov (.t 5)⟩,
  ⟨(some 15), none, .bin .neq (.t 14) (.c (.int .i64 0))⟩]
@[go_sem] def scriptingref33_instr_r3 : List AI := [
  ⟨(some 16), none, .mov (.t 5)⟩,
  ⟨(some 4), none, .mov (.t 16)⟩]
@[go_sem] def scriptingref33_instr_r4 : List AI := [
  ⟨(some 18), none, .load 5 true (.t 3)⟩,
  ⟨(some 19), none, .call 47 [(.t 18)]⟩,
  ⟨(some 17), none, .mov (.t 19)⟩,
  ⟨(some 20), none, .ext 0 (.t 17)⟩,
  ⟨(some 21), none, .ext 1 (.t 17)⟩,
  ⟨(some 6), none, .mov (.t 20)⟩,
  ⟨(some 7), none, .mov (.t 21)⟩]
@[go_sem] def scriptingref33_instr_r5 : List AI := [
  ⟨(some 23), none, .load 5 true (.t 3)⟩,
  ⟨(some 24), none, .call 48 [(.t 23)]⟩,
  ⟨(some 22), none, .mov (.t 24)⟩,
  ⟨(some 25), none, .ext 0 (.t 22)⟩,
  ⟨(some 26), none, .ext 1 (.t 22)⟩,
  ⟨(some 8), none, .mov (.t 25)⟩,
  ⟨(some 9), none, .mov (.t 26)⟩]
@[go_sem] def scriptingref33_instr_r6 : List AI := [
  ⟨(some 27), none, .mov (.t 6)⟩,
  ⟨(some 28), none, .mov (.t 7)⟩,
  ⟨(some 29), none, .faddr 4 (.t 2)⟩,
  ⟨(some 30), none, .load 1 false (.t 29)⟩,
  ⟨(some 31), none, .call 49 [(.t 27), (.t 28), (.t 30)]⟩,
  ⟨(some 32), none, .un .not (.t 31)⟩,
  ⟨(some 33), none, .mov (.t 32)⟩,
  ⟨(some 34), (some (33, false)), .mov (.t 8)⟩,
  ⟨(some 35), (some (33, false)), .mov (.t 9)⟩,
  ⟨(some 36), (some (33, false)), .faddr 4 (.t 2)⟩,
  ⟨(some 37), (some (33, false)), .load 1 false (.t 36)⟩,
  ⟨(some 38), (some (33, false)), .call 49 [(.t 34), (.t 35), (.t 37)]⟩,
  ⟨(some 39), (some (33, false)), .un .not (.t 38)⟩,
  ⟨(some 40), none, .pick (.t 33) (.c (.bool true)) (.t 39)⟩]
@[go_sem] def scriptingref33_instr_r7 : List AI := [
  ⟨(some 4), none, .mov (.c (.int .i64 4))⟩]
@[go_sem] def scriptingref33_instr_r8 : List AI := [
  ⟨(some 42), none, .load 5 true (.t 3)⟩,
  ⟨(some 43), none, .call 50 [(.t 42)]⟩,
  ⟨(some 41), none, .mov (.t 43)⟩,
  ⟨(some 44), none, .ext 0 (.t 41)⟩,
  ⟨(some 45), none, .ext 1 (.t 41)⟩,
  ⟨(some 10), none, .mov (.t 44)⟩,
  ⟨(some 11), none, .mov (.t 45)⟩]
@[go_sem] def scriptingref33_instr_r9 : List AI := [
  ⟨(some 46), none, .mov (.t 11)⟩,
  ⟨(some 47), none, .mov (.t 46)⟩,
  ⟨(some 48), (some (47, true)), .mov (.t 10)⟩,
  ⟨(some 49), (some (47, true)), .bin .lss (.t 48) (.c (.int .i64 0))⟩,
  ⟨(some 50), (some (47, true)), .mov (.t 49)⟩,
  ⟨(some 51), (some (50, false)), .mov (.t 10)⟩,
  ⟨(some 52), (some (50, false)), .faddr 5 (.t 2)⟩,
  ⟨(some 53), (some (50, false)), .load 1 false (.t 52)⟩,
  ⟨(some 54), (some (50, false)), .len 0 (.t 53)⟩,
  ⟨(some 55), (some (50, false)), .bin .geq (.t 51) (.t 54)⟩,
  ⟨(some 56), (some (47, true)), .pick (.t 50) (.c (.bool true)) (.t 55)⟩,
  ⟨(some 57), none, .pick (.t 47) (.t 56) (.c (.bool false))⟩]
@[go_sem] def scriptingref33_instr_r10 : List AI := [
  ⟨(some 4), none, .mov (.c (.int .i64 4))⟩]
@[go_sem] def scriptingref33_instr_r11 : List AI := [
  ⟨(some 58), none, .load 11 true (.t 2)⟩,
  ⟨(some 59), none, .load 5 true (.t 3)⟩,
  ⟨(some 60), none, .call 51 [(.t 58), (.t 59)]⟩,
  ⟨(some 61), none, .un .not (.t 60)⟩]
@[go_sem] def scriptingref33_instr_r12 : List AI := [
  ⟨(some 4), none, .mov (.c (.int .i64 4))⟩]
@[go_sem] def scriptingref33_instr_r13 : List AI := [
  ⟨(some 4), none, .mov (.c (.int .i64 0))⟩]
@[go_sem] def scriptingref33_instr_c : AC := .seq (.ops [scriptingref33_instr_r0]) (.seq (.seq (.ops [scriptingref33_instr_r1]) (.seq (.ops [scriptingref33_instr_r2]) (.cond (.t 15) (.seq (.ops [scriptingref33_instr_r3]) (.ret)) (.skip)))) (.seq (.ops [scriptingref33_instr_r4]) (.seq (.ops [scriptingref33_instr_r5]) (.seq (.seq (.ops [scriptingref33_instr_r6]) (.cond (.t 40) (.seq (.ops [scriptingref33_instr_r7]) (.ret)) (.skip))) (.seq (.seq (.ops [scriptingref33_instr_r8]) (.seq (.ops [scriptingref33_instr_r9]) (.cond (.t 57) (.seq (.ops [scriptingref33_instr_r10]) (.ret)) (.skip)))) (.seq (.seq (.ops [scriptingref33_instr_r11]) (.cond (.t 61) (.seq (.ops [scriptingref33_instr_r12]) (.ret)) (.skip))) (.seq (.ops [scriptingref33_instr_r13]) (.ret))))))))
theorem scriptingref33_instr_ok : compF Tryz.prog 24 = some (62, scriptingref33_instr_c, [.t 4]) := by kernel_rfl

@[go_sem] def slices_Clone_api_Instr_api_Instr_r0 : List AI := [
  ⟨(some 2), none, .mov (.c .nils)⟩]
@[go_sem] def slices_Clone_api_Instr_api_Instr_r1 : List AI := [
  ⟨(some 3), none, .mov (.t 0)⟩,
  ⟨(some 4), none, .eqn false false (.t 3)⟩]
@[go_sem] def slices_Clone_api_Instr_api_Instr_r2 : List AI := [
  ⟨(some 2), none, .mov (.c .nils)⟩]
@[go_sem] def slices_Clone_api_Instr_api_Instr_r3 : List AI := [
  ⟨(some 5), none, .mkrow 250005 5 []⟩,
  ⟨(some 6), none, .mov (.t 0)⟩,
  ⟨(some 7), none, .app 250007 5 (.t 5) (.t 6)⟩,
  ⟨(some 2), none, .mov (.t 7)⟩]
@[go_sem] def slices_Clone_api_Instr_api_Instr_c : AC := .seq (.ops [slices_Clone_api_Instr_api_Instr_r0]) (.seq (.seq (.ops [slices_Clone_api_Instr_api_Instr_r1]) (.cond (.t 4) (.seq (.ops [slices_Clone_api_Instr_api_Instr_r2]) (.ret)) (.skip))) (.seq (.ops [slices_Clone_api_Instr_api_Instr_r3]) (.ret)))
theorem slices_Clone_api_Instr_api_Instr_ok : compF Tryz.prog 25 = some (8, slices_Clone_api_Instr_api_Instr_c, [.t 2]) := by kernel_rfl

@[go_sem] def slices_Clone_int_int_r0 : List AI := [
  ⟨(some 2), none, .mov (.c .nils)⟩]
@[go_sem] def slices_Clone_int_int_r1 : List AI := [
  ⟨(some 3), none, .mov (.t 0)⟩,
  ⟨(some 4), none, .eqn false false (.t 3)⟩]
@[go_sem] def slices_Clone_int_int_r2 : List AI := [
  ⟨(some 2), none, .mov (.c .nils)⟩]
@[go_sem] def slices_Clone_int_int_r3 : List AI := [
  ⟨(some 5), none, .mkrow 260005 1 []⟩,
  ⟨(some 6), none, .mov (.t 0)⟩,
  ⟨(some 7), none, .app 260007 1 (.t 5) (.t 6)⟩,
  ⟨(some 2), none, .mov (.t 7)⟩]
@[go_sem] def slices_Clone_int_int_c : AC := .seq (.ops [slices_Clone_int_int_r0]) (.seq (.seq (.ops [slices_Clone_int_int_r1]) (.cond (.t 4) (.seq (.ops [slices_Clone_int_int_r2]) (.ret)) (.skip))) (.seq (.ops [slices_Clone_int_int_r3]) (.ret)))
theorem slices_Clone_int_int_ok : compF Tryz.prog 26 = some (8, slices_Clone_int_int_c, [.t 2]) := by kernel_rfl

@[go_sem] def slices_Clone_api_Value_api_Value_r0 : List AI := [
  ⟨(some 2), none, .mov (.c .nils)⟩]
@[go_sem] def slices_Clone_api_Value_api_Value_r1 : List AI := [
  ⟨(some 3), none, .mov (.t 0)⟩,
  ⟨(some 4), none, .eqn false false (.t 3)⟩]
@[go_sem] def slices_Clone_api_Value_api_Value_r2 : List AI := [
  ⟨(some 2), none, .mov (.c .nils)⟩]
@[go_sem] def slices_Clone_api_Value_api_Value_r3 : List AI := [
  ⟨(some 5), none, .mkrow 270005 5 []⟩,
  ⟨(some 6), none, .mov (.t 0)⟩,
  ⟨(some 7), none, .app 270007 5 (.t 5) (.t 6)⟩,
  ⟨(some 2), none, .mov (.t 7)⟩]
@[go_sem] def slices_Clone_api_Value_api_Value_c : AC := .seq (.ops [slices_Clone_api_Value_api_Value_r0]) (.seq (.seq (.ops [slices_Clone_api_Value_api_Value_r1]) (.cond (.t 4) (.seq (.ops [slices_Clone_api_Value_api_Value_r2]) (.ret)) (.skip))) (.seq (.ops [slices_Clone_api_Value_api_Value_r3]) (.ret)))
theorem slices_Clone_api_Value_api_Value_ok : compF Tryz.prog 27 = some (8, slices_Clone_api_Value_api_Value_c, [.t 2]) := by kernel_rfl

@[go_sem] def slices_Clone_api_Up_api_Up_r0 : List AI := [
  ⟨(some 2), none, .mov (.c .nils)⟩]
@[go_sem] def slices_Clone_api_Up_api_Up_r1 : List AI := [
  ⟨(some 3), none, .mov (.t 0)⟩,
  ⟨(some 4), none, .eqn false false (.t 3)⟩]
@[go_sem] def slices_Clone_api_Up_api_Up_r2 : List AI := [
  ⟨(some 2), none, .mov (.c .nils)⟩]
@[go_sem] def slices_Clone_api_Up_api_Up_r3 : List AI := [
  ⟨(some 5), none, .mkrow 280005 3 []⟩,
  ⟨(some 6), none, .mov (.t 0)⟩,
  ⟨(some 7), none, .app 280007 3 (.t 5) (.t 6)⟩,
  ⟨(some 2), none, .mov (.t 7)⟩]
@[go_sem] def slices_Clone_api_Up_api_Up_c : AC := .seq (.ops [slices_Clone_api_Up_api_Up_r0]) (.seq (.seq (.ops [slices_Clone_api_Up_api_Up_r1]) (.cond (.t 4) (.seq (.ops [slices_Clone_api_Up_api_Up_r2]) (.ret)) (.skip))) (.seq (.ops [slices_Clone_api_Up_api_Up_r3]) (.ret)))
theorem slices_Clone_api_Up_api_Up_ok : compF Tryz.prog 28 = some (8, slices_Clone_api_Up_api_Up_c, [.t 2]) := by kernel_rfl

@[go_sem] def slices_Clone_api_Var_api_Var_r0 : List AI := [
  ⟨(some 2), none, .mov (.c .nils)⟩]
@[go_sem] def slices_Clone_api_Var_api_Var_r1 : List AI := [
  ⟨(some 3), none, .mov (.t 0)⟩,
  ⟨(some 4), none, .eqn false false (.t 3)⟩]
@[go_sem] def slices_Clone_api_Var_api_Var_r2 : List AI := [
  ⟨(some 2), none, .mov (.c .nils)⟩]
@[go_sem] def slices_Clone_api_Var_api_Var_r3 : List AI := [
  ⟨(some 5), none, .mkrow 290005 5 []⟩,
  ⟨(some 6), none, .mov (.t 0)⟩,
  ⟨(some 7), none, .app 290007 5 (.t 5) (.t 6)⟩,
  ⟨(some 2), none, .mov (.t 7)⟩]
@[go_sem] def slices_Clone_api_Var_api_Var_c : AC := .seq (.ops [slices_Clone_api_Var_api_Var_r0]) (.seq (.seq (.ops [slices_Clone_api_Var_api_Var_r1]) (.cond (.t 4) (.seq (.ops [slices_Clone_api_Var_api_Var_r2]) (.ret)) (.skip))) (.seq (.ops [slices_Clone_api_Var_api_Var_r3]) (.ret)))
theorem slices_Clone_api_Var_api_Var_ok : compF Tryz.prog 29 = some (8, slices_Clone_api_Var_api_Var_c, [.t 2]) := by kernel_rfl

@[go_sem] def proto_limits_1_r0 : List AI := [
  ⟨(some 2), none, .mov (.c (.bool false))⟩]
@[go_sem] def proto_limits_1_r1 : List AI := [
  ⟨(some 3), none, .mov (.t 0)⟩,
  ⟨(some 4), none, .len 1 (.t 3)⟩,
  ⟨(some 5), none, .bin .gtr (.t 4) (.c (.int .i64 40))⟩,
  ⟨(some 2), none, .mov (.t 5)⟩]
@[go_sem] def proto_limits_1_c : AC := .seq (.ops [proto_limits_1_r0]) (.seq (.ops [proto_limits_1_r1]) (.ret))
theorem proto_limits_1_ok : compF Tryz.prog 30 = some (6, proto_limits_1_c, [.t 2]) := by kernel_rfl

@[go_sem] def slices_ContainsFunc_api_Up_api_Up_r0 : List AI := [
  ⟨(some 4), none, .mov (.c (.bool false))⟩]
@[go_sem] def slices_ContainsFunc_api_Up_api_Up_r1 : List AI := [
  ⟨(some 5), none, .mov (.t 0)⟩,
  ⟨(some 6), none, .mov (.t 1)⟩,
  ⟨(some 7), none, .call 52 [(.t 5), (.t 6)]⟩,
  ⟨(some 8), none, .bin .geq (.t 7) (.c (.int .i64 0))⟩,
  ⟨(some 4), none, .mov (.t 8)⟩]
@[go_sem] def slices_ContainsFunc_api_Up_api_Up_c : AC := .seq (.ops [slices_ContainsFunc_api_Up_api_Up_r0]) (.seq (.ops [slices_ContainsFunc_api_Up_api_Up_r1]) (.ret))
theorem slices_ContainsFunc_api_Up_api_Up_ok : compF Tryz.prog 31 = some (9, slices_ContainsFunc_api_Up_api_Up_c, [.t 4]) := by kernel_rfl

@[go_sem] def proto_limits_2_r0 : List AI := [
  ⟨(some 2), none, .box 320002 3 (.t 0)⟩,
  ⟨(some 3), none, .mov (.c (.bool false))⟩]
@[go_sem] def proto_limits_2_r1 : List AI := [
  ⟨(some 4), none, .load 1 false (.t 1)⟩,
  ⟨(some 5), none, .faddr 0 (.t 2)⟩,
  ⟨(some 6), none, .load 1 false (.t 5)⟩,
  ⟨(some 7), none, .callv (.t 4) [(.t 6)]⟩,
  ⟨(some 3), none, .mov (.t 7)⟩]
@[go_sem] def proto_limits_2_c : AC := .seq (.ops [proto_limits_2_r0]) (.seq (.ops [proto_limits_2_r1]) (.ret))
theorem proto_limits_2_ok : compF Tryz.prog 32 = some (8, proto_limits_2_c, [.t 3]) := by kernel_rfl

@[go_sem] def slices_ContainsFunc_api_Var_api_Var_r0 : List AI := [
  ⟨(some 4), none, .mov (.c (.bool false))⟩]
@[go_sem] def slices_ContainsFunc_api_Var_api_Var_r1 : List AI := [
  ⟨(some 5), none, .mov (.t 0)⟩,
  ⟨(some 6), none, .mov (.t 1)⟩,
  ⟨(some 7), none, .call 53 [(.t 5), (.t 6)]⟩,
  ⟨(some 8), none, .bin .geq (.t 7) (.c (.int .i64 0))⟩,
  ⟨(some 4), none, .mov (.t 8)⟩]
@[go_sem] def slices_ContainsFunc_api_Var_api_Var_c : AC := .seq (.ops [slices_ContainsFunc_api_Var_api_Var_r0]) (.seq (.ops [slices_ContainsFunc_api_Var_api_Var_r1]) (.ret))
theorem slices_ContainsFunc_api_Var_api_Var_ok : compF Tryz.prog 33 = some (9, slices_ContainsFunc_api_Var_api_Var_c, [.t 4]) := by kernel_rfl

@[go_sem] def proto_limits_3_r0 : List AI := [
  ⟨(some 2), none, .box 340002 5 (.t 0)⟩,
  ⟨(some 3), none, .mov (.c (.bool false))⟩]
@[go_sem] def proto_limits_3_r1 : List AI := [
  ⟨(some 4), none, .load 1 false (.t 1)⟩,
  ⟨(some 5), none, .faddr 0 (.t 2)⟩,
  ⟨(some 6), none, .load 1 false (.t 5)⟩,
  ⟨(some 7), none, .callv (.t 4) [(.t 6)]⟩,
  ⟨(some 3), none, .mov (.t 7)⟩]
@[go_sem] def proto_limits_3_c : AC := .seq (.ops [proto_limits_3_r0]) (.seq (.ops [proto_limits_3_r1]) (.ret))
theorem proto_limits_3_ok : compF Tryz.prog 34 = some (8, proto_limits_3_c, [.t 3]) := by kernel_rfl

@[go_sem] def slices_ContainsFunc_int_int_r0 : List AI := [
  ⟨(some 4), none, .mov (.c (.bool false))⟩]
@[go_sem] def slices_ContainsFunc_int_int_r1 : List AI := [
  ⟨(some 5), none, .mov (.t 0)⟩,
  ⟨(some 6), none, .mov (.t 1)⟩,
  ⟨(some 7), none, .call 54 [(.t 5), (.t 6)]⟩,
  ⟨(some 8), none, .bin .geq (.t 7) (.c (.int .i64 0))⟩,
  ⟨(some 4), none, .mov (.t 8)⟩]
@[go_sem] def slices_ContainsFunc_int_int_c : AC := .seq (.ops [slices_ContainsFunc_int_int_r0]) (.seq (.ops [slices_ContainsFunc_int_int_r1]) (.ret))
theorem slices_ContainsFunc_int_int_ok : compF Tryz.prog 35 = some (9, slices_ContainsFunc_int_int_c, [.t 4]) := by kernel_rfl

@[go_sem] def proto_form_1_r0 : List AI := [
  ⟨(some 2), none, .mov (.c (.bool false))⟩]
@[go_sem] def proto_form_1_r1 : List AI := [
  ⟨(some 3), none, .mov (.t 0)⟩,
  ⟨(some 4), none, .bin .lss (.t 3) (.c (.int .i64 0))⟩,
  ⟨(some 2), none, .mov (.t 4)⟩]
@[go_sem] def proto_form_1_c : AC := .seq (.ops [proto_form_1_r0]) (.seq (.ops [proto_form_1_r1]) (.ret))
theorem proto_form_1_ok : compF Tryz.prog 36 = some (5, proto_form_1_c, [.t 2]) := by kernel_rfl

@[go_sem] def proto_form_2_r0 : List AI := [
  ⟨(some 1), none, .box 370001 3 (.t 0)⟩,
  ⟨(some 2), none, .mov (.c (.bool false))⟩]
@[go_sem] def proto_form_2_r1 : List AI := [
  ⟨(some 3), none, .faddr 2 (.t 1)⟩,
  ⟨(some 4), none, .load 1 false (.t 3)⟩,
  ⟨(some 5), none, .bin .lss (.t 4) (.c (.int .i64 0))⟩,
  ⟨(some 2), none, .mov (.t 5)⟩]
@[go_sem] def proto_form_2_c : AC := .seq (.ops [proto_form_2_r0]) (.seq (.ops [proto_form_2_r1]) (.ret))
theorem proto_form_2_ok : compF Tryz.prog 37 = some (6, proto_form_2_c, [.t 2]) := by kernel_rfl

@[go_sem] def value_Valid_r0 : List AI := [
  ⟨(some 1), none, .box 380001 5 (.t 0)⟩,
  ⟨(some 2), none, .mov (.c (.bool false))⟩]
@[go_sem] def value_Valid_r1 : List AI := [
  ⟨(some 5), none, .faddr 0 (.t 1)⟩,
  ⟨(some 6), none, .load 1 false (.t 5)⟩,
  ⟨(some 7), none, .build [(.int .i64 0), (.int .i64 0), (.int .i64 0), (.str []), (.int .i64 0)] [(0, 1, (.t 6))]⟩,
  ⟨(some 3), none, .box 380003 5 (.c (.agg [(.int .i64 0), (.int .i64 0), (.int .i64 0), (.str []), (.int .i64 0)]))⟩,
  ⟨none, none, .store 5 (.t 3) (.t 7)⟩]
@[go_sem] def value_Valid_r2 : List AI := [
  ⟨(some 4), none, .mov (.c (.bool true))⟩]
@[go_sem] def value_Valid_r3 : List AI := [
  ⟨(some 8), none, .faddr 0 (.t 1)⟩,
  ⟨(some 9), none, .load 1 false (.t 8)⟩]
@[go_sem] def value_Valid_r4 : List AI := [
  ⟨(some 11), none, .bin .eql (.t 9) (.c (.int .i64 0))⟩,
  ⟨(some 10), none, .mov (.t 11)⟩]
@[go_sem] def value_Valid_r5 : List AI := [
  ⟨(some 13), none, .bin .eql (.t 9) (.c (.int .i64 1))⟩,
  ⟨(some 12), none, .mov (.t 13)⟩]
@[go_sem] def value_Valid_r6 : List AI := [
  ⟨(some 14), none, .faddr 4 (.t 1)⟩,
  ⟨(some 15), none, .load 1 false (.t 14)⟩,
  ⟨(some 16), none, .faddr 4 (.t 3)⟩,
  ⟨none, none, .store 1 (.t 16) (.t 15)⟩]
@[go_sem] def value_Valid_r7 : List AI := [
  ⟨(some 17), none, .faddr 4 (.t 1)⟩,
  ⟨(some 18), none, .load 1 false (.t 17)⟩,
  ⟨(some 19), none, .bin .eql (.t 18) (.c (.int .i64 0))⟩,
  ⟨(some 20), none, .mov (.t 19)⟩,
  ⟨(some 21), (some (20, false)), .faddr 4 (.t 1)⟩,
  ⟨(some 22), (some (20, false)), .load 1 false (.t 21)⟩,
  ⟨(some 23), (some (20, false)), .bin .eql (.t 22) (.c (.int .i64 1))⟩,
  ⟨(some 24), none, .pick (.t 20) (.c (.bool true)) (.t 23)⟩,
  ⟨(some 4), none, .mov (.t 24)⟩]
@[go_sem] def value_Valid_r8 : List AI := [
  ⟨(some 26), none, .bin .eql (.t 9) (.c (.int .i64 2))⟩,
  ⟨(some 25), none, .mov (.t 26)⟩]
@[go_sem] def value_Valid_r9 : List AI := [
  ⟨(some 27), none, .faddr 1 (.t 1)⟩,
  ⟨(some 28), none, .load 2 true (.t 27)⟩,
  ⟨(some 29), none, .faddr 1 (.t 3)⟩,
  ⟨none, none, .store 2 (.t 29) (.t 28)⟩]
@[go_sem] def value_Valid_r10 : List AI := [
  ⟨(some 30), none, .faddr 1 (.t 1)⟩,
  ⟨(some 31), none, .load 2 true (.t 30)⟩,
  ⟨(some 32), none, .call 55 [(.t 31)]⟩,
  ⟨(some 4), none, .mov (.t 32)⟩]
@[go_sem] def value_Valid_r11 : List AI := [
  ⟨(some 34), none, .bin .eql (.t 9) (.c (.int .i64 3))⟩,
  ⟨(some 33), none, .mov (.t 34)⟩]
@[go_sem] def value_Valid_r12 : List AI := [
  ⟨(some 35), none, .faddr 3 (.t 1)⟩,
  ⟨(some 36), none, .load 1 false (.t 35)⟩,
  ⟨(some 37), none, .faddr 3 (.t 3)⟩,
  ⟨none, none, .store 1 (.t 37) (.t 36)⟩]
@[go_sem] def value_Valid_r13 : List AI := [
  ⟨(some 38), none, .faddr 3 (.t 1)⟩,
  ⟨(some 39), none, .load 1 false (.t 38)⟩,
  ⟨(some 40), none, .len 1 (.t 39)⟩,
  ⟨(some 41), none, .bin .leq (.t 40) (.c (.int .i64 4096))⟩,
  ⟨(some 4), none, .mov (.t 41)⟩]
@[go_sem] def value_Valid_r14 : List AI := [
  ⟨(some 43), none, .bin .eql (.t 9) (.c (.int .i64 4))⟩,
  ⟨(some 42), none, .mov (.t 43)⟩]
@[go_sem] def value_Valid_r15 : List AI := [
  ⟨(some 44), none, .bin .eql (.t 9) (.c (.int .i64 5))⟩,
  ⟨(some 42), none, .mov (.t 44)⟩]
@[go_sem] def value_Valid_r16 : List AI := [
  ⟨(some 45), none, .bin .eql (.t 9) (.c (.int .i64 7))⟩,
  ⟨(some 42), none, .mov (.t 45)⟩]
@[go_sem] def value_Valid_r17 : List AI := [
  ⟨(some 46), none, .bin .eql (.t 9) (.c (.int .i64 8))⟩,
  ⟨(some 42), none, .mov (.t 46)⟩]
@[go_sem] def value_Valid_r18 : List AI := [
  ⟨(some 47), none, .faddr 4 (.t 1)⟩,
  ⟨(some 48), none, .load 1 false (.t 47)⟩,
  ⟨(some 49), none, .faddr 4 (.t 3)⟩,
  ⟨none, none, .store 1 (.t 49) (.t 48)⟩]
@[go_sem] def value_Valid_r19 : List AI := [
  ⟨(some 50), none, .faddr 4 (.t 1)⟩,
  ⟨(some 51), none, .load 1 false (.t 50)⟩,
  ⟨(some 52), none, .bin .geq (.t 51) (.c (.int .i64 1))⟩,
  ⟨(some 4), none, .mov (.t 52)⟩]
@[go_sem] def value_Valid_r20 : List AI := [
  ⟨(some 54), none, .bin .eql (.t 9) (.c (.int .i64 6))⟩,
  ⟨(some 53), none, .mov (.t 54)⟩]
@[go_sem] def value_Valid_r21 : List AI := [
  ⟨(some 55), none, .faddr 3 (.t 1)⟩,
  ⟨(some 56), none, .load 1 false (.t 55)⟩,
  ⟨(some 57), none, .faddr 3 (.t 3)⟩,
  ⟨none, none, .store 1 (.t 57) (.t 56)⟩]
@[go_sem] def value_Valid_r22 : List AI := [
  ⟨(some 58), none, .faddr 3 (.t 1)⟩,
  ⟨(some 59), none, .load 1 false (.t 58)⟩,
  ⟨(some 60), none, .len 1 (.t 59)⟩,
  ⟨(some 61), none, .bin .geq (.t 60) (.c (.int .i64 1))⟩,
  ⟨(some 62), none, .mov (.t 61)⟩,
  ⟨(some 63), (some (62, true)), .faddr 3 (.t 1)⟩,
  ⟨(some 64), (some (62, true)), .load 1 false (.t 63)⟩,
  ⟨(some 65), (some (62, true)), .len 1 (.t 64)⟩,
  ⟨(some 66), (some (62, true)), .bin .leq (.t 65) (.c (.int .i64 4096))⟩,
  ⟨(some 67), none, .pick (.t 62) (.t 66) (.c (.bool false))⟩,
  ⟨(some 4), none, .mov (.t 67)⟩]
@[go_sem] def value_Valid_r23 : List AI := [
  ⟨(some 4), none, .mov (.c (.bool false))⟩]
@[go_sem] def value_Valid_r24 : List AI := [
  ⟨(some 68), none, .mov (.t 4)⟩,
  ⟨(some 69), none, .mov (.t 68)⟩,
  ⟨(some 70), (some (69, true)), .load 5 true (.t 1)⟩,
  ⟨(some 71), (some (69, true)), .load 5 true (.t 3)⟩,
  ⟨(some 72), (some (69, true)), .eqa false (.agg [(0, 1, (.leaf 1)), (1, 2, (.agg [(0, 1, (.leaf 1)), (1, 1, (.leaf 1))])), (3, 1, (.leaf 2)), (4, 1, (.leaf 1))]) (.t 70) (.t 71)⟩,
  ⟨(some 73), none, .pick (.t 69) (.t 72) (.c (.bool false))⟩,
  ⟨(some 2), none, .mov (.t 73)⟩]
@[go_sem] def value_Valid_c : AC := .seq (.ops [value_Valid_r0]) (.seq (.ops [value_Valid_r1]) (.seq (.ops [value_Valid_r2]) (.seq (.seq (.ops [value_Valid_r3]) (.block 0 (.seq (.ops [value_Valid_r4]) (.cond (.t 10) (.skip) (.seq (.ops [value_Valid_r5]) (.cond (.t 12) (.seq (.ops [value_Valid_r6]) (.ops [value_Valid_r7])) (.seq (.ops [value_Valid_r8]) (.cond (.t 25) (.seq (.ops [value_Valid_r9]) (.ops [value_Valid_r10])) (.seq (.ops [value_Valid_r11]) (.cond (.t 33) (.seq (.ops [value_Valid_r12]) (.ops [value_Valid_r13])) (.seq (.seq (.ops [value_Valid_r14]) (.cond (.t 42) (.skip) (.seq (.ops [value_Valid_r15]) (.cond (.t 42) (.skip) (.seq (.ops [value_Valid_r16]) (.cond (.t 42) (.skip) (.ops [value_Valid_r17]))))))) (.cond (.t 42) (.seq (.ops [value_Valid_r18]) (.ops [value_Valid_r19])) (.seq (.ops [value_Valid_r20]) (.cond (.t 53) (.seq (.ops [value_Valid_r21]) (.ops [value_Valid_r22])) (.ops [value_Valid_r23]))))))))))))))) (.seq (.ops [value_Valid_r24]) (.ret)))))
theorem value_Valid_ok : compF Tryz.prog 38 = some (74, value_Valid_c, [.t 2]) := by kernel_rfl

@[go_sem] def opcode_Check_r0 : List AI := [
  ⟨(some 1), none, .box 390001 5 (.t 0)⟩,
  ⟨(some 2), none, .mov (.c (.int .i64 0))⟩]
@[go_sem] def opcode_Check_r1 : List AI := [
  ⟨(some 14), none, .faddr 0 (.t 1)⟩,
  ⟨(some 15), none, .load 1 false (.t 14)⟩,
  ⟨(some 16), none, .call 56 [(.t 15)]⟩,
  ⟨(some 13), none, .mov (.t 16)⟩,
  ⟨(some 17), none, .ext 0 (.t 13)⟩,
  ⟨(some 18), none, .ext 1 (.t 13)⟩,
  ⟨(some 3), none, .box 390003 6 (.c (.agg [(.str []), (.int .i64 0), (.int .i64 0), (.int .i64 0), (.int .i64 0), (.int .i64 0)]))⟩,
  ⟨none, none, .store 6 (.t 3) (.t 17)⟩,
  ⟨(some 4), none, .mov (.t 18)⟩]
@[go_sem] def opcode_Check_r2 : List AI := [
  ⟨(some 19), none, .mov (.t 4)⟩,
  ⟨(some 20), none, .un .not (.t 19)⟩]
@[go_sem] def opcode_Check_r3 : List AI := [
  ⟨(some 2), none, .mov (.c (.int .i64 4))⟩]
@[go_sem] def opcode_Check_r4 : List AI := [
  ⟨(some 22), none, .load 6 true (.t 3)⟩,
  ⟨(some 23), none, .load 5 true (.t 1)⟩,
  ⟨(some 24), none, .call 57 [(.t 22), (.t 23)]⟩,
  ⟨(some 21), none, .mov (.t 24)⟩,
  ⟨(some 25), none, .ext 0 (.t 21)⟩,
  ⟨(some 26), none, .ext 1 (.t 21)⟩,
  ⟨(some 5), none, .box 390005 4 (.c (.agg [(.int .i64 0), (.int .i64 0), (.int .i64 0), (.int .i64 0)]))⟩,
  ⟨(some 6), none, .box 390006 4 (.c (.agg [(.int .i64 0), (.int .i64 0), (.int .i64 0), (.int .i64 0)]))⟩,
  ⟨none, none, .store 4 (.t 5) (.t 25)⟩,
  ⟨none, none, .store 4 (.t 6) (.t 26)⟩]
@[go_sem] def opcode_Check_r5 : List AI := [
  ⟨(some 27), none, .load 4 true (.t 5)⟩,
  ⟨(some 28), none, .mov (.c (.int .i64 0))⟩]
@[go_sem] def opcode_Check_r6 : List AI := [
  ⟨(some 29), none, .bin .lss (.t 28) (.c (.int .i64 4))⟩]
@[go_sem] def opcode_Check_r7 : List AI := [
  ⟨(some 30), none, .mov (.t 28)⟩,
  ⟨(some 31), none, .idxA 4 1 1 false (.t 27) (.t 28)⟩,
  ⟨(some 7), none, .mov (.t 30)⟩,
  ⟨(some 8), none, .mov (.t 31)⟩]
@[go_sem] def opcode_Check_r8 : List AI := [
  ⟨(some 32), none, .mov (.t 8)⟩,
  ⟨(some 33), none, .bin .eql (.t 32) (.c (.int .i64 0))⟩,
  ⟨(some 34), none, .mov (.t 33)⟩,
  ⟨(some 35), (some (34, true)), .mov (.t 7)⟩,
  ⟨(some 36), (some (34, true)), .iaddrA 4 1 (.t 6) (.t 35)⟩,
  ⟨(some 37), (some (34, true)), .load 1 false (.t 36)⟩,
  ⟨(some 38), (some (34, true)), .bin .neq (.t 37) (.c (.int .i64 0))⟩,
  ⟨(some 39), none, .pick (.t 34) (.t 38) (.c (.bool false))⟩]
@[go_sem] def opcode_Check_r9 : List AI := [
  ⟨(some 2), none, .mov (.c (.int .i64 4))⟩]
@[go_sem] def opcode_Check_r10 : List AI := [
  ⟨(some 40), none, .bin .add (.t 28) (.c (.int .i64 1))⟩,
  ⟨(some 28), none, .mov (.t 40)⟩]
def opcode_Check_l0 : AC := .seq (.ops [opcode_Check_r6]) (.seq (.cond (.t 29) (.skip) (.exit 0)) (.seq (.block 1 (.seq (.ops [opcode_Check_r7]) (.seq (.ops [opcode_Check_r8]) (.cond (.t 39) (.seq (.ops [opcode_Check_r9]) (.ret)) (.skip))))) (.ops [opcode_Check_r10])))
theorem opcode_Check_l0_eq : opcode_Check_l0 = .seq (.ops [opcode_Check_r6]) (.seq (.cond (.t 29) (.skip) (.exit 0)) (.seq (.block 1 (.seq (.ops [opcode_Check_r7]) (.seq (.ops [opcode_Check_r8]) (.cond (.t 39) (.seq (.ops [opcode_Check_r9]) (.ret)) (.skip))))) (.ops [opcode_Check_r10]))) := rfl
@[go_sem] def opcode_Check_r11 : List AI := [
  ⟨(some 41), none, .load 4 true (.t 5)⟩,
  ⟨(some 42), none, .mov (.c (.int .i64 0))⟩]
@[go_sem] def opcode_Check_r12 : List AI := [
  ⟨(some 43), none, .bin .lss (.t 42) (.c (.int .i64 4))⟩]
@[go_sem] def opcode_Check_r13 : List AI := [
  ⟨(some 44), none, .mov (.t 42)⟩,
  ⟨(some 45), none, .idxA 4 1 1 false (.t 41) (.t 42)⟩,
  ⟨(some 9), none, .mov (.t 44)⟩,
  ⟨(some 10), none, .mov (.t 45)⟩]
@[go_sem] def opcode_Check_r14 : List AI := [
  ⟨(some 47), none, .mov (.t 10)⟩,
  ⟨(some 48), none, .call 58 [(.t 47)]⟩,
  ⟨(some 46), none, .mov (.t 48)⟩,
  ⟨(some 49), none, .ext 0 (.t 46)⟩,
  ⟨(some 50), none, .ext 1 (.t 46)⟩,
  ⟨(some 11), none, .mov (.t 49)⟩,
  ⟨(some 12), none, .mov (.t 50)⟩]
@[go_sem] def opcode_Check_r15 : List AI := [
  ⟨(some 51), none, .mov (.t 9)⟩,
  ⟨(some 52), none, .iaddrA 4 1 (.t 6) (.t 51)⟩,
  ⟨(some 53), none, .load 1 false (.t 52)⟩,
  ⟨(some 54), none, .mov (.t 11)⟩,
  ⟨(some 55), none, .bin .lss (.t 53) (.t 54)⟩,
  ⟨(some 56), none, .mov (.t 55)⟩,
  ⟨(some 57), (some (56, false)), .mov (.t 9)⟩,
  ⟨(some 58), (some (56, false)), .iaddrA 4 1 (.t 6) (.t 57)⟩,
  ⟨(some 59), (some (56, false)), .load 1 false (.t 58)⟩,
  ⟨(some 60), (some (56, false)), .mov (.t 12)⟩,
  ⟨(some 61), (some (56, false)), .bin .gtr (.t 59) (.t 60)⟩,
  ⟨(some 62), none, .pick (.t 56) (.c (.bool true)) (.t 61)⟩]
@[go_sem] def opcode_Check_r16 : List AI := [
  ⟨(some 2), none, .mov (.c (.int .i64 6))⟩]
@[go_sem] def opcode_Check_r17 : List AI := [
  ⟨(some 63), none, .bin .add (.t 42) (.c (.int .i64 1))⟩,
  ⟨(some 42), none, .mov (.t 63)⟩]
def opcode_Check_l1 : AC := .seq (.ops [opcode_Check_r12]) (.seq (.cond (.t 43) (.skip) (.exit 2)) (.seq (.block 3 (.seq (.ops [opcode_Check_r13]) (.seq (.ops [opcode_Check_r14]) (.seq (.ops [opcode_Check_r15]) (.cond (.t 62) (.seq (.ops [opcode_Check_r16]) (.ret)) (.skip)))))) (.ops [opcode_Check_r17])))
theorem opcode_Check_l1_eq : opcode_Check_l1 = .seq (.ops [opcode_Check_r12]) (.seq (.cond (.t 43) (.skip) (.exit 2)) (.seq (.block 3 (.seq (.ops [opcode_Check_r13]) (.seq (.ops [opcode_Check_r14]) (.seq (.ops [opcode_Check_r15]) (.cond (.t 62) (.seq (.ops [opcode_Check_r16]) (.ret)) (.skip)))))) (.ops [opcode_Check_r17]))) := rfl
@[go_sem] def opcode_Check_r18 : List AI := [
  ⟨(some 64), none, .faddr 1 (.t 3)⟩,
  ⟨(some 65), none, .load 1 false (.t 64)⟩,
  ⟨(some 66), none, .bin .eql (.t 65) (.c (.int .i64 1))⟩,
  ⟨(some 67), none, .mov (.t 66)⟩,
  ⟨(some 68), (some (67, true)), .load 6 true (.t 3)⟩,
  ⟨(some 69), (some (67, true)), .load 5 true (.t 1)⟩,
  ⟨(some 70), (some (67, true)), .call 59 [(.t 68), (.t 69)]⟩,
  ⟨(some 71), (some (67, true)), .bin .geq (.t 70) (.c (.int .i64 4096))⟩,
  ⟨(some 72), none, .pick (.t 67) (.t 71) (.c (.bool false))⟩,
  ⟨(some 73), none, .mov (.t 72)⟩,
  ⟨(some 74), (some (73, false)), .faddr 0 (.t 1)⟩,
  ⟨(some 75), (some (73, false)), .load 1 false (.t 74)⟩,
  ⟨(some 76), (some (73, false)), .bin .eql (.t 75) (.c (.int .i64 3))⟩,
  ⟨(some 77), (some (73, false)), .mov (.t 76)⟩,
  ⟨(some 78), (some (77, true)), .faddr 2 (.t 1)⟩,
  ⟨(some 79), (some (77, true)), .load 1 false (.t 78)⟩,
  ⟨(some 80), (some (77, true)), .faddr 1 (.t 1)⟩,
  ⟨(some 81), (some (77, true)), .load 1 false (.t 80)⟩,
  ⟨(some 82), (some (77, true)), .bin .lss (.t 79) (.t 81)⟩,
  ⟨(some 83), (some (73, false)), .pick (.t 77) (.t 82) (.c (.bool false))⟩,
  ⟨(some 84), none, .pick (.t 73) (.c (.bool true)) (.t 83)⟩]
@[go_sem] def opcode_Check_r19 : List AI := [
  ⟨(some 2), none, .mov (.c (.int .i64 6))⟩]
@[go_sem] def opcode_Check_r20 : List AI := [
  ⟨(some 2), none, .mov (.c (.int .i64 0))⟩]
@[go_sem] def opcode_Check_c : AC := .seq (.ops [opcode_Check_r0]) (.seq (.ops [opcode_Check_r1]) (.seq (.seq (.ops [opcode_Check_r2]) (.cond (.t 20) (.seq (.ops [opcode_Check_r3]) (.ret)) (.skip))) (.seq (.ops [opcode_Check_r4]) (.seq (.seq (.ops [opcode_Check_r5]) (.block 0 (.loop opcode_Check_l0))) (.seq (.seq (.ops [opcode_Check_r11]) (.block 2 (.loop opcode_Check_l1))) (.seq (.seq (.ops [opcode_Check_r18]) (.cond (.t 84) (.seq (.ops [opcode_Check_r19]) (.ret)) (.skip))) (.seq (.ops [opcode_Check_r20]) (.ret))))))))
theorem opcode_Check_ok : compF Tryz.prog 39 = some (85, opcode_Check_c, [.t 2]) := by kernel_rfl

@[go_sem] def opcode_Reads_r0 : List AI := [
  ⟨(some 1), none, .box 400001 5 (.t 0)⟩,
  ⟨(some 2), none, .mov (.c .nils)⟩,
  ⟨(some 3), none, .mov (.c (.int .i64 0))⟩]
@[go_sem] def opcode_Reads_r1 : List AI := [
  ⟨(some 6), none, .load 5 true (.t 1)⟩,
  ⟨(some 7), none, .call 39 [(.t 6)]⟩,
  ⟨(some 8), none, .bin .neq (.t 7) (.c (.int .i64 0))⟩]
@[go_sem] def opcode_Reads_r2 : List AI := [
  ⟨(some 2), none, .mov (.c .nils)⟩,
  ⟨(some 3), none, .mov (.c (.int .i64 (-1)))⟩]
@[go_sem] def opcode_Reads_r3 : List AI := [
  ⟨(some 9), none, .faddr 0 (.t 1)⟩,
  ⟨(some 10), none, .load 1 false (.t 9)⟩]
@[go_sem] def opcode_Reads_r4 : List AI := [
  ⟨(some 12), none, .bin .eql (.t 10) (.c (.int .i64 1))⟩,
  ⟨(some 11), none, .mov (.t 12)⟩]
@[go_sem] def opcode_Reads_r5 : List AI := [
  ⟨(some 13), none, .bin .eql (.t 10) (.c (.int .i64 6))⟩,
  ⟨(some 11), none, .mov (.t 13)⟩]
@[go_sem] def opcode_Reads_r6 : List AI := [
  ⟨(some 14), none, .bin .eql (.t 10) (.c (.int .i64 8))⟩,
  ⟨(some 11), none, .mov (.t 14)⟩]
@[go_sem] def opcode_Reads_r7 : List AI := [
  ⟨(some 15), none, .bin .eql (.t 10) (.c (.int .i64 11))⟩,
  ⟨(some 11), none, .mov (.t 15)⟩]
@[go_sem] def opcode_Reads_r8 : List AI := [
  ⟨(some 16), none, .bin .eql (.t 10) (.c (.int .i64 12))⟩,
  ⟨(some 11), none, .mov (.t 16)⟩]
@[go_sem] def opcode_Reads_r9 : List AI := [
  ⟨(some 17), none, .faddr 2 (.t 1)⟩,
  ⟨(some 18), none, .load 1 false (.t 17)⟩,
  ⟨(some 19), none, .mkrow 400019 1 [(.t 18)]⟩,
  ⟨(some 2), none, .mov (.t 19)⟩,
  ⟨(some 3), none, .mov (.c (.int .i64 (-1)))⟩]
@[go_sem] def opcode_Reads_r10 : List AI := [
  ⟨(some 21), none, .bin .eql (.t 10) (.c (.int .i64 9))⟩,
  ⟨(some 20), none, .mov (.t 21)⟩]
@[go_sem] def opcode_Reads_r11 : List AI := [
  ⟨(some 22), none, .bin .eql (.t 10) (.c (.int .i64 13))⟩,
  ⟨(some 20), none, .mov (.t 22)⟩]
@[go_sem] def opcode_Reads_r12 : List AI := [
  ⟨(some 23), none, .faddr 2 (.t 1)⟩,
  ⟨(some 24), none, .load 1 false (.t 23)⟩,
  ⟨(some 25), none, .faddr 3 (.t 1)⟩,
  ⟨(some 26), none, .load 1 false (.t 25)⟩,
  ⟨(some 27), none, .mkrow 400027 1 [(.t 24), (.t 26)]⟩,
  ⟨(some 28), none, .call 60 [(.t 27)]⟩,
  ⟨(some 2), none, .mov (.t 28)⟩,
  ⟨(some 3), none, .mov (.c (.int .i64 (-1)))⟩]
@[go_sem] def opcode_Reads_r13 : List AI := [
  ⟨(some 30), none, .bin .eql (.t 10) (.c (.int .i64 10))⟩,
  ⟨(some 29), none, .mov (.t 30)⟩]
@[go_sem] def opcode_Reads_r14 : List AI := [
  ⟨(some 31), none, .faddr 1 (.t 1)⟩,
  ⟨(some 32), none, .load 1 false (.t 31)⟩,
  ⟨(some 33), none, .faddr 2 (.t 1)⟩,
  ⟨(some 34), none, .load 1 false (.t 33)⟩,
  ⟨(some 35), none, .faddr 3 (.t 1)⟩,
  ⟨(some 36), none, .load 1 false (.t 35)⟩,
  ⟨(some 37), none, .mkrow 400037 1 [(.t 32), (.t 34), (.t 36)]⟩,
  ⟨(some 38), none, .call 60 [(.t 37)]⟩,
  ⟨(some 2), none, .mov (.t 38)⟩,
  ⟨(some 3), none, .mov (.c (.int .i64 (-1)))⟩]
@[go_sem] def opcode_Reads_r15 : List AI := [
  ⟨(some 40), none, .bin .eql (.t 10) (.c (.int .i64 15))⟩,
  ⟨(some 39), none, .mov (.t 40)⟩]
@[go_sem] def opcode_Reads_r16 : List AI := [
  ⟨(some 41), none, .bin .eql (.t 10) (.c (.int .i64 28))⟩,
  ⟨(some 39), none, .mov (.t 41)⟩]
@[go_sem] def opcode_Reads_r17 : List AI := [
  ⟨(some 42), none, .faddr 1 (.t 1)⟩,
  ⟨(some 43), none, .load 1 false (.t 42)⟩,
  ⟨(some 44), none, .mkrow 400044 1 [(.t 43)]⟩,
  ⟨(some 2), none, .mov (.t 44)⟩,
  ⟨(some 3), none, .mov (.c (.int .i64 (-1)))⟩]
@[go_sem] def opcode_Reads_r18 : List AI := [
  ⟨(some 46), none, .bin .eql (.t 10) (.c (.int .i64 16))⟩,
  ⟨(some 45), none, .mov (.t 46)⟩]
@[go_sem] def opcode_Reads_r19 : List AI := [
  ⟨(some 47), none, .bin .eql (.t 10) (.c (.int .i64 17))⟩,
  ⟨(some 45), none, .mov (.t 47)⟩]
@[go_sem] def opcode_Reads_r20 : List AI := [
  ⟨(some 48), none, .bin .eql (.t 10) (.c (.int .i64 21))⟩,
  ⟨(some 45), none, .mov (.t 48)⟩]
@[go_sem] def opcode_Reads_r21 : List AI := [
  ⟨(some 50), none, .faddr 1 (.t 1)⟩,
  ⟨(some 51), none, .load 1 false (.t 50)⟩,
  ⟨(some 52), none, .bin .add (.t 51) (.c (.int .i64 1))⟩,
  ⟨(some 53), none, .faddr 2 (.t 1)⟩,
  ⟨(some 54), none, .load 1 false (.t 53)⟩,
  ⟨(some 55), none, .call 61 [(.t 52), (.t 54)]⟩,
  ⟨(some 49), none, .mov (.t 55)⟩,
  ⟨(some 56), none, .ext 0 (.t 49)⟩,
  ⟨(some 57), none, .ext 1 (.t 49)⟩,
  ⟨(some 4), none, .mov (.t 56)⟩,
  ⟨(some 5), none, .mov (.t 57)⟩]
@[go_sem] def opcode_Reads_r22 : List AI := [
  ⟨(some 58), none, .faddr 1 (.t 1)⟩,
  ⟨(some 59), none, .load 1 false (.t 58)⟩,
  ⟨(some 60), none, .mkrow 400060 1 [(.t 59)]⟩,
  ⟨(some 61), none, .mov (.t 4)⟩,
  ⟨(some 62), none, .app 400062 1 (.t 60) (.t 61)⟩,
  ⟨(some 63), none, .mov (.t 5)⟩,
  ⟨(some 2), none, .mov (.t 62)⟩,
  ⟨(some 3), none, .mov (.t 63)⟩]
@[go_sem] def opcode_Reads_r23 : List AI := [
  ⟨(some 65), none, .bin .eql (.t 10) (.c (.int .i64 18))⟩,
  ⟨(some 64), none, .mov (.t 65)⟩]
@[go_sem] def opcode_Reads_r24 : List AI := [
  ⟨(some 66), none, .faddr 1 (.t 1)⟩,
  ⟨(some 67), none, .load 1 false (.t 66)⟩,
  ⟨(some 68), none, .faddr 2 (.t 1)⟩,
  ⟨(some 69), none, .load 1 false (.t 68)⟩,
  ⟨(some 70), none, .call 61 [(.t 67), (.t 69)]⟩,
  ⟨(some 71), none, .ext 0 (.t 70)⟩,
  ⟨(some 72), none, .ext 1 (.t 70)⟩,
  ⟨(some 2), none, .mov (.t 71)⟩,
  ⟨(some 3), none, .mov (.t 72)⟩]
@[go_sem] def opcode_Reads_r25 : List AI := [
  ⟨(some 74), none, .bin .eql (.t 10) (.c (.int .i64 23))⟩,
  ⟨(some 73), none, .mov (.t 74)⟩]
@[go_sem] def opcode_Reads_r26 : List AI := [
  ⟨(some 75), none, .bin .eql (.t 10) (.c (.int .i64 24))⟩,
  ⟨(some 73), none, .mov (.t 75)⟩]
@[go_sem] def opcode_Reads_r27 : List AI := [
  ⟨(some 76), none, .bin .eql (.t 10) (.c (.int .i64 25))⟩,
  ⟨(some 73), none, .mov (.t 76)⟩]
@[go_sem] def opcode_Reads_r28 : List AI := [
  ⟨(some 77), none, .faddr 1 (.t 1)⟩,
  ⟨(some 78), none, .load 1 false (.t 77)⟩,
  ⟨(some 79), none, .call 61 [(.t 78), (.c (.int .i64 3))]⟩,
  ⟨(some 80), none, .ext 0 (.t 79)⟩,
  ⟨(some 81), none, .ext 1 (.t 79)⟩,
  ⟨(some 2), none, .mov (.t 80)⟩,
  ⟨(some 3), none, .mov (.t 81)⟩]
@[go_sem] def opcode_Reads_r29 : List AI := [
  ⟨(some 83), none, .bin .eql (.t 10) (.c (.int .i64 26))⟩,
  ⟨(some 82), none, .mov (.t 83)⟩]
@[go_sem] def opcode_Reads_r30 : List AI := [
  ⟨(some 84), none, .faddr 1 (.t 1)⟩,
  ⟨(some 85), none, .load 1 false (.t 84)⟩,
  ⟨(some 86), none, .bin .add (.t 85) (.c (.int .i64 3))⟩,
  ⟨(some 87), none, .mkrow 400087 1 [(.t 86)]⟩,
  ⟨(some 2), none, .mov (.t 87)⟩,
  ⟨(some 3), none, .mov (.c (.int .i64 (-1)))⟩]
@[go_sem] def opcode_Reads_r31 : List AI := [
  ⟨(some 2), none, .mov (.c .nils)⟩,
  ⟨(some 3), none, .mov (.c (.int .i64 (-1)))⟩]
@[go_sem] def opcode_Reads_c : AC := .seq (.ops [opcode_Reads_r0]) (.seq (.seq (.ops [opcode_Reads_r1]) (.cond (.t 8) (.seq (.ops [opcode_Reads_r2]) (.ret)) (.skip))) (.seq (.seq (.ops [opcode_Reads_r3]) (.block 0 (.seq (.seq (.ops [opcode_Reads_r4]) (.cond (.t 11) (.skip) (.seq (.ops [opcode_Reads_r5]) (.cond (.t 11) (.skip) (.seq (.ops [opcode_Reads_r6]) (.cond (.t 11) (.skip) (.seq (.ops [opcode_Reads_r7]) (.cond (.t 11) (.skip) (.ops [opcode_Reads_r8]))))))))) (.cond (.t 11) (.seq (.ops [opcode_Reads_r9]) (.ret)) (.seq (.seq (.ops [opcode_Reads_r10]) (.cond (.t 20) (.skip) (.ops [opcode_Reads_r11]))) (.cond (.t 20) (.seq (.ops [opcode_Reads_r12]) (.ret)) (.seq (.ops [opcode_Reads_r13]) (.cond (.t 29) (.seq (.ops [opcode_Reads_r14]) (.ret)) (.seq (.seq (.ops [opcode_Reads_r15]) (.cond (.t 39) (.skip) (.ops [opcode_Reads_r16]))) (.cond (.t 39) (.seq (.ops [opcode_Reads_r17]) (.ret)) (.seq (.seq (.ops [opcode_Reads_r18]) (.cond (.t 45) (.skip) (.seq (.ops [opcode_Reads_r19]) (.cond (.t 45) (.skip) (.ops [opcode_Reads_r20]))))) (.cond (.t 45) (.seq (.ops [opcode_Reads_r21]) (.seq (.ops [opcode_Reads_r22]) (.ret))) (.seq (.ops [opcode_Reads_r23]) (.cond (.t 64) (.seq (.ops [opcode_Reads_r24]) (.ret)) (.seq (.seq (.ops [opcode_Reads_r25]) (.cond (.t 73) (.skip) (.seq (.ops [opcode_Reads_r26]) (.cond (.t 73) (.skip) (.ops [opcode_Reads_r27]))))) (.cond (.t 73) (.seq (.ops [opcode_Reads_r28]) (.ret)) (.seq (.ops [opcode_Reads_r29]) (.cond (.t 82) (.seq (.ops [opcode_Reads_r30]) (.ret)) (.skip))))))))))))))))))) (.seq (.ops [opcode_Reads_r31]) (.ret))))
theorem opcode_Reads_ok : compF Tryz.prog 40 = some (88, opcode_Reads_c, [.t 2, .t 3]) := by kernel_rfl

@[go_sem] def opcode_Writes_r0 : List AI := [
  ⟨(some 1), none, .box 410001 5 (.t 0)⟩,
  ⟨(some 2), none, .mov (.c .nils)⟩,
  ⟨(some 3), none, .mov (.c (.int .i64 0))⟩]
@[go_sem] def opcode_Writes_r1 : List AI := [
  ⟨(some 4), none, .load 5 true (.t 1)⟩,
  ⟨(some 5), none, .call 39 [(.t 4)]⟩,
  ⟨(some 6), none, .bin .neq (.t 5) (.c (.int .i64 0))⟩]
@[go_sem] def opcode_Writes_r2 : List AI := [
  ⟨(some 2), none, .mov (.c .nils)⟩,
  ⟨(some 3), none, .mov (.c (.int .i64 (-1)))⟩]
@[go_sem] def opcode_Writes_r3 : List AI := [
  ⟨(some 7), none, .faddr 0 (.t 1)⟩,
  ⟨(some 8), none, .load 1 false (.t 7)⟩]
@[go_sem] def opcode_Writes_r4 : List AI := [
  ⟨(some 10), none, .bin .eql (.t 8) (.c (.int .i64 1))⟩,
  ⟨(some 9), none, .mov (.t 10)⟩]
@[go_sem] def opcode_Writes_r5 : List AI := [
  ⟨(some 11), none, .bin .eql (.t 8) (.c (.int .i64 2))⟩,
  ⟨(some 9), none, .mov (.t 11)⟩]
@[go_sem] def opcode_Writes_r6 : List AI := [
  ⟨(some 12), none, .bin .eql (.t 8) (.c (.int .i64 4))⟩,
  ⟨(some 9), none, .mov (.t 12)⟩]
@[go_sem] def opcode_Writes_r7 : List AI := [
  ⟨(some 13), none, .bin .eql (.t 8) (.c (.int .i64 5))⟩,
  ⟨(some 9), none, .mov (.t 13)⟩]
@[go_sem] def opcode_Writes_r8 : List AI := [
  ⟨(some 14), none, .bin .eql (.t 8) (.c (.int .i64 7))⟩,
  ⟨(some 9), none, .mov (.t 14)⟩]
@[go_sem] def opcode_Writes_r9 : List AI := [
  ⟨(some 15), none, .bin .eql (.t 8) (.c (.int .i64 9))⟩,
  ⟨(some 9), none, .mov (.t 15)⟩]
@[go_sem] def opcode_Writes_r10 : List AI := [
  ⟨(some 16), none, .bin .eql (.t 8) (.c (.int .i64 12))⟩,
  ⟨(some 9), none, .mov (.t 16)⟩]
@[go_sem] def opcode_Writes_r11 : List AI := [
  ⟨(some 17), none, .bin .eql (.t 8) (.c (.int .i64 13))⟩,
  ⟨(some 9), none, .mov (.t 17)⟩]
@[go_sem] def opcode_Writes_r12 : List AI := [
  ⟨(some 18), none, .bin .eql (.t 8) (.c (.int .i64 20))⟩,
  ⟨(some 9), none, .mov (.t 18)⟩]
@[go_sem] def opcode_Writes_r13 : List AI := [
  ⟨(some 19), none, .bin .eql (.t 8) (.c (.int .i64 22))⟩,
  ⟨(some 9), none, .mov (.t 19)⟩]
@[go_sem] def opcode_Writes_r14 : List AI := [
  ⟨(some 20), none, .faddr 1 (.t 1)⟩,
  ⟨(some 21), none, .load 1 false (.t 20)⟩,
  ⟨(some 22), none, .mkrow 410022 1 [(.t 21)]⟩,
  ⟨(some 2), none, .mov (.t 22)⟩,
  ⟨(some 3), none, .mov (.c (.int .i64 (-1)))⟩]
@[go_sem] def opcode_Writes_r15 : List AI := [
  ⟨(some 24), none, .bin .eql (.t 8) (.c (.int .i64 3))⟩,
  ⟨(some 23), none, .mov (.t 24)⟩]
@[go_sem] def opcode_Writes_r16 : List AI := [
  ⟨(some 25), none, .faddr 1 (.t 1)⟩,
  ⟨(some 26), none, .load 1 false (.t 25)⟩,
  ⟨(some 27), none, .faddr 2 (.t 1)⟩,
  ⟨(some 28), none, .load 1 false (.t 27)⟩,
  ⟨(some 29), none, .faddr 1 (.t 1)⟩,
  ⟨(some 30), none, .load 1 false (.t 29)⟩,
  ⟨(some 31), none, .bin .sub (.t 28) (.t 30)⟩,
  ⟨(some 32), none, .bin .add (.t 31) (.c (.int .i64 1))⟩,
  ⟨(some 33), none, .call 61 [(.t 26), (.t 32)]⟩,
  ⟨(some 34), none, .ext 0 (.t 33)⟩,
  ⟨(some 35), none, .ext 1 (.t 33)⟩,
  ⟨(some 2), none, .mov (.t 34)⟩,
  ⟨(some 3), none, .mov (.t 35)⟩]
@[go_sem] def opcode_Writes_r17 : List AI := [
  ⟨(some 37), none, .bin .eql (.t 8) (.c (.int .i64 11))⟩,
  ⟨(some 36), none, .mov (.t 37)⟩]
@[go_sem] def opcode_Writes_r18 : List AI := [
  ⟨(some 38), none, .faddr 1 (.t 1)⟩,
  ⟨(some 39), none, .load 1 false (.t 38)⟩,
  ⟨(some 40), none, .faddr 1 (.t 1)⟩,
  ⟨(some 41), none, .load 1 false (.t 40)⟩,
  ⟨(some 42), none, .bin .add (.t 41) (.c (.int .i64 1))⟩,
  ⟨(some 43), none, .mkrow 410043 1 [(.t 39), (.t 42)]⟩,
  ⟨(some 2), none, .mov (.t 43)⟩,
  ⟨(some 3), none, .mov (.c (.int .i64 (-1)))⟩]
@[go_sem] def opcode_Writes_r19 : List AI := [
  ⟨(some 45), none, .bin .eql (.t 8) (.c (.int .i64 16))⟩,
  ⟨(some 44), none, .mov (.t 45)⟩]
@[go_sem] def opcode_Writes_r20 : List AI := [
  ⟨(some 46), none, .faddr 1 (.t 1)⟩,
  ⟨(some 47), none, .load 1 false (.t 46)⟩,
  ⟨(some 48), none, .faddr 3 (.t 1)⟩,
  ⟨(some 49), none, .load 1 false (.t 48)⟩,
  ⟨(some 50), none, .call 61 [(.t 47), (.t 49)]⟩,
  ⟨(some 51), none, .ext 0 (.t 50)⟩,
  ⟨(some 52), none, .ext 1 (.t 50)⟩,
  ⟨(some 2), none, .mov (.t 51)⟩,
  ⟨(some 3), none, .mov (.t 52)⟩]
@[go_sem] def opcode_Writes_r21 : List AI := [
  ⟨(some 54), none, .bin .eql (.t 8) (.c (.int .i64 19))⟩,
  ⟨(some 53), none, .mov (.t 54)⟩]
@[go_sem] def opcode_Writes_r22 : List AI := [
  ⟨(some 55), none, .faddr 1 (.t 1)⟩,
  ⟨(some 56), none, .load 1 false (.t 55)⟩,
  ⟨(some 57), none, .faddr 2 (.t 1)⟩,
  ⟨(some 58), none, .load 1 false (.t 57)⟩,
  ⟨(some 59), none, .call 61 [(.t 56), (.t 58)]⟩,
  ⟨(some 60), none, .ext 0 (.t 59)⟩,
  ⟨(some 61), none, .ext 1 (.t 59)⟩,
  ⟨(some 2), none, .mov (.t 60)⟩,
  ⟨(some 3), none, .mov (.t 61)⟩]
@[go_sem] def opcode_Writes_r23 : List AI := [
  ⟨(some 63), none, .bin .eql (.t 8) (.c (.int .i64 23))⟩,
  ⟨(some 62), none, .mov (.t 63)⟩]
@[go_sem] def opcode_Writes_r24 : List AI := [
  ⟨(some 64), none, .faddr 1 (.t 1)⟩,
  ⟨(some 65), none, .load 1 false (.t 64)⟩,
  ⟨(some 66), none, .bin .add (.t 65) (.c (.int .i64 3))⟩,
  ⟨(some 67), none, .mkrow 410067 1 [(.t 66)]⟩,
  ⟨(some 2), none, .mov (.t 67)⟩,
  ⟨(some 3), none, .mov (.c (.int .i64 (-1)))⟩]
@[go_sem] def opcode_Writes_r25 : List AI := [
  ⟨(some 69), none, .bin .eql (.t 8) (.c (.int .i64 24))⟩,
  ⟨(some 68), none, .mov (.t 69)⟩]
@[go_sem] def opcode_Writes_r26 : List AI := [
  ⟨(some 70), none, .faddr 1 (.t 1)⟩,
  ⟨(some 71), none, .load 1 false (.t 70)⟩,
  ⟨(some 72), none, .faddr 1 (.t 1)⟩,
  ⟨(some 73), none, .load 1 false (.t 72)⟩,
  ⟨(some 74), none, .bin .add (.t 73) (.c (.int .i64 3))⟩,
  ⟨(some 75), none, .mkrow 410075 1 [(.t 71), (.t 74)]⟩,
  ⟨(some 2), none, .mov (.t 75)⟩,
  ⟨(some 3), none, .mov (.c (.int .i64 (-1)))⟩]
@[go_sem] def opcode_Writes_r27 : List AI := [
  ⟨(some 77), none, .bin .eql (.t 8) (.c (.int .i64 25))⟩,
  ⟨(some 76), none, .mov (.t 77)⟩]
@[go_sem] def opcode_Writes_r28 : List AI := [
  ⟨(some 78), none, .faddr 1 (.t 1)⟩,
  ⟨(some 79), none, .load 1 false (.t 78)⟩,
  ⟨(some 80), none, .bin .add (.t 79) (.c (.int .i64 3))⟩,
  ⟨(some 81), none, .faddr 3 (.t 1)⟩,
  ⟨(some 82), none, .load 1 false (.t 81)⟩,
  ⟨(some 83), none, .call 61 [(.t 80), (.t 82)]⟩,
  ⟨(some 84), none, .ext 0 (.t 83)⟩,
  ⟨(some 85), none, .ext 1 (.t 83)⟩,
  ⟨(some 2), none, .mov (.t 84)⟩,
  ⟨(some 3), none, .mov (.t 85)⟩]
@[go_sem] def opcode_Writes_r29 : List AI := [
  ⟨(some 87), none, .bin .eql (.t 8) (.c (.int .i64 26))⟩,
  ⟨(some 86), none, .mov (.t 87)⟩]
@[go_sem] def opcode_Writes_r30 : List AI := [
  ⟨(some 88), none, .faddr 1 (.t 1)⟩,
  ⟨(some 89), none, .load 1 false (.t 88)⟩,
  ⟨(some 90), none, .bin .add (.t 89) (.c (.int .i64 2))⟩,
  ⟨(some 91), none, .mkrow 410091 1 [(.t 90)]⟩,
  ⟨(some 2), none, .mov (.t 91)⟩,
  ⟨(some 3), none, .mov (.c (.int .i64 (-1)))⟩]
@[go_sem] def opcode_Writes_r31 : List AI := [
  ⟨(some 2), none, .mov (.c .nils)⟩,
  ⟨(some 3), none, .mov (.c (.int .i64 (-1)))⟩]
@[go_sem] def opcode_Writes_c : AC := .seq (.ops [opcode_Writes_r0]) (.seq (.seq (.ops [opcode_Writes_r1]) (.cond (.t 6) (.seq (.ops [opcode_Writes_r2]) (.ret)) (.skip))) (.seq (.seq (.ops [opcode_Writes_r3]) (.block 0 (.seq (.seq (.ops [opcode_Writes_r4]) (.cond (.t 9) (.skip) (.seq (.ops [opcode_Writes_r5]) (.cond (.t 9) (.skip) (.seq (.ops [opcode_Writes_r6]) (.cond (.t 9) (.skip) (.seq (.ops [opcode_Writes_r7]) (.cond (.t 9) (.skip) (.seq (.ops [opcode_Writes_r8]) (.cond (.t 9) (.skip) (.seq (.ops [opcode_Writes_r9]) (.cond (.t 9) (.skip) (.seq (.ops [opcode_Writes_r10]) (.cond (.t 9) (.skip) (.seq (.ops [opcode_Writes_r11]) (.cond (.t 9) (.skip) (.seq (.ops [opcode_Writes_r12]) (.cond (.t 9) (.skip) (.ops [opcode_Writes_r13]))))))))))))))))))) (.cond (.t 9) (.seq (.ops [opcode_Writes_r14]) (.ret)) (.seq (.ops [opcode_Writes_r15]) (.cond (.t 23) (.seq (.ops [opcode_Writes_r16]) (.ret)) (.seq (.ops [opcode_Writes_r17]) (.cond (.t 36) (.seq (.ops [opcode_Writes_r18]) (.ret)) (.seq (.ops [opcode_Writes_r19]) (.cond (.t 44) (.seq (.ops [opcode_Writes_r20]) (.ret)) (.seq (.ops [opcode_Writes_r21]) (.cond (.t 53) (.seq (.ops [opcode_Writes_r22]) (.ret)) (.seq (.ops [opcode_Writes_r23]) (.cond (.t 62) (.seq (.ops [opcode_Writes_r24]) (.ret)) (.seq (.ops [opcode_Writes_r25]) (.cond (.t 68) (.seq (.ops [opcode_Writes_r26]) (.ret)) (.seq (.ops [opcode_Writes_r27]) (.cond (.t 76) (.seq (.ops [opcode_Writes_r28]) (.ret)) (.seq (.ops [opcode_Writes_r29]) (.cond (.t 86) (.seq (.ops [opcode_Writes_r30]) (.ret)) (.skip))))))))))))))))))))) (.seq (.ops [opcode_Writes_r31]) (.ret))))
theorem opcode_Writes_ok : compF Tryz.prog 41 = some (92, opcode_Writes_c, [.t 2, .t 3]) := by kernel_rfl

@[go_sem] def proto_within_r0 : List AI := [
  ⟨(some 3), none, .box 420003 11 (.t 0)⟩,
  ⟨(some 6), none, .mov (.c (.bool false))⟩]
@[go_sem] def proto_within_r1 : List AI := [
  ⟨(some 7), none, .mov (.t 2)⟩,
  ⟨(some 8), none, .faddr 4 (.t 3)⟩,
  ⟨(some 9), none, .load 1 false (.t 8)⟩,
  ⟨(some 10), none, .bin .leq (.t 7) (.t 9)⟩,
  ⟨(some 11), none, .mov (.t 10)⟩,
  ⟨(some 12), (some (11, true)), .mov (.t 1)⟩,
  ⟨(some 13), (some (11, true)), .mkfn 62 [(.t 3)]⟩,
  ⟨(some 14), (some (11, true)), .call 35 [(.t 12), (.t 13)]⟩,
  ⟨(some 15), (some (11, true)), .un .not (.t 14)⟩,
  ⟨(some 16), none, .pick (.t 11) (.t 15) (.c (.bool false))⟩,
  ⟨(some 6), none, .mov (.t 16)⟩]
@[go_sem] def proto_within_c : AC := .seq (.ops [proto_within_r0]) (.seq (.ops [proto_within_r1]) (.ret))
theorem proto_within_ok : compF Tryz.prog 42 = some (17, proto_within_c, [.t 6]) := by kernel_rfl

@[go_sem] def opcode_Target_r0 : List AI := [
  ⟨(some 1), none, .box 430001 5 (.t 0)⟩,
  ⟨(some 2), none, .mov (.c (.int .i64 0))⟩,
  ⟨(some 3), none, .mov (.c (.bool false))⟩]
@[go_sem] def opcode_Target_r1 : List AI := [
  ⟨(some 4), none, .faddr 0 (.t 1)⟩,
  ⟨(some 5), none, .load 1 false (.t 4)⟩]
@[go_sem] def opcode_Target_r2 : List AI := [
  ⟨(some 7), none, .bin .eql (.t 5) (.c (.int .i64 14))⟩,
  ⟨(some 6), none, .mov (.t 7)⟩]
@[go_sem] def opcode_Target_r3 : List AI := [
  ⟨(some 8), none, .bin .eql (.t 5) (.c (.int .i64 15))⟩,
  ⟨(some 6), none, .mov (.t 8)⟩]
@[go_sem] def opcode_Target_r4 : List AI := [
  ⟨(some 9), none, .bin .eql (.t 5) (.c (.int .i64 23))⟩,
  ⟨(some 6), none, .mov (.t 9)⟩]
@[go_sem] def opcode_Target_r5 : List AI := [
  ⟨(some 10), none, .bin .eql (.t 5) (.c (.int .i64 24))⟩,
  ⟨(some 6), none, .mov (.t 10)⟩]
@[go_sem] def opcode_Target_r6 : List AI := [
  ⟨(some 11), none, .bin .eql (.t 5) (.c (.int .i64 26))⟩,
  ⟨(some 6), none, .mov (.t 11)⟩]
@[go_sem] def opcode_Target_r7 : List AI := [
  ⟨(some 12), none, .faddr 2 (.t 1)⟩,
  ⟨(some 13), none, .load 1 false (.t 12)⟩,
  ⟨(some 2), none, .mov (.t 13)⟩,
  ⟨(some 3), none, .mov (.c (.bool true))⟩]
@[go_sem] def opcode_Target_r8 : List AI := [
  ⟨(some 2), none, .mov (.c (.int .i64 0))⟩,
  ⟨(some 3), none, .mov (.c (.bool false))⟩]
@[go_sem] def opcode_Target_c : AC := .seq (.ops [opcode_Target_r0]) (.seq (.seq (.ops [opcode_Target_r1]) (.block 0 (.seq (.seq (.ops [opcode_Target_r2]) (.cond (.t 6) (.skip) (.seq (.ops [opcode_Target_r3]) (.cond (.t 6) (.skip) (.seq (.ops [opcode_Target_r4]) (.cond (.t 6) (.skip) (.seq (.ops [opcode_Target_r5]) (.cond (.t 6) (.skip) (.ops [opcode_Target_r6]))))))))) (.cond (.t 6) (.seq (.ops [opcode_Target_r7]) (.ret)) (.skip))))) (.seq (.ops [opcode_Target_r8]) (.ret)))
theorem opcode_Target_ok : compF Tryz.prog 43 = some (14, opcode_Target_c, [.t 2, .t 3]) := by kernel_rfl

@[go_sem] def proto_refers_r0 : List AI := [
  ⟨(some 2), none, .box 440002 11 (.t 0)⟩,
  ⟨(some 3), none, .box 440003 5 (.t 1)⟩,
  ⟨(some 4), none, .mov (.c (.bool false))⟩]
@[go_sem] def proto_refers_r1 : List AI := [
  ⟨(some 8), none, .load 5 true (.t 3)⟩,
  ⟨(some 9), none, .call 63 [(.t 8)]⟩,
  ⟨(some 7), none, .mov (.t 9)⟩,
  ⟨(some 10), none, .ext 0 (.t 7)⟩,
  ⟨(some 11), none, .ext 1 (.t 7)⟩,
  ⟨(some 5), none, .mov (.t 10)⟩,
  ⟨(some 6), none, .mov (.t 11)⟩]
@[go_sem] def proto_refers_r2 : List AI := [
  ⟨(some 12), none, .mov (.t 5)⟩,
  ⟨(some 13), none, .faddr 7 (.t 2)⟩,
  ⟨(some 14), none, .load 1 false (.t 13)⟩,
  ⟨(some 15), none, .len 0 (.t 14)⟩,
  ⟨(some 16), none, .bin .geq (.t 12) (.t 15)⟩,
  ⟨(some 17), none, .mov (.t 16)⟩,
  ⟨(some 18), (some (17, false)), .mov (.t 5)⟩,
  ⟨(some 19), (some (17, false)), .bin .geq (.t 18) (.c (.int .i64 0))⟩,
  ⟨(some 20), (some (17, false)), .mov (.t 19)⟩,
  ⟨(some 21), (some (20, true)), .mov (.t 6)⟩,
  ⟨(some 22), (some (17, false)), .pick (.t 20) (.t 21) (.c (.bool false))⟩,
  ⟨(some 23), (some (17, false)), .mov (.t 22)⟩,
  ⟨(some 24), (some (23, true)), .faddr 7 (.t 2)⟩,
  ⟨(some 25), (some (23, true)), .load 1 false (.t 24)⟩,
  ⟨(some 26), (some (23, true)), .mov (.t 5)⟩,
  ⟨(some 27), (some (23, true)), .iaddr 5 (.t 25) (.t 26)⟩,
  ⟨(some 28), (some (23, true)), .faddr 0 (.t 27)⟩,
  ⟨(some 29), (some (23, true)), .load 1 false (.t 28)⟩,
  ⟨(some 30), (some (23, true)), .bin .neq (.t 29) (.c (.int .i64 3))⟩,
  ⟨(some 31), (some (17, false)), .pick (.t 23) (.t 30) (.c (.bool false))⟩,
  ⟨(some 32), none, .pick (.t 17) (.c (.bool true)) (.t 31)⟩]
@[go_sem] def proto_refers_r3 : List AI := [
  ⟨(some 4), none, .mov (.c (.bool false))⟩]
@[go_sem] def proto_refers_r4 : List AI := [
  ⟨(some 33), none, .faddr 0 (.t 3)⟩,
  ⟨(some 34), none, .load 1 false (.t 33)⟩]
@[go_sem] def proto_refers_r5 : List AI := [
  ⟨(some 36), none, .bin .eql (.t 34) (.c (.int .i64 5))⟩,
  ⟨(some 35), none, .mov (.t 36)⟩]
@[go_sem] def proto_refers_r6 : List AI := [
  ⟨(some 37), none, .faddr 2 (.t 3)⟩,
  ⟨(some 38), none, .load 1 false (.t 37)⟩,
  ⟨(some 39), none, .faddr 9 (.t 2)⟩,
  ⟨(some 40), none, .load 1 false (.t 39)⟩,
  ⟨(some 41), none, .len 0 (.t 40)⟩,
  ⟨(some 42), none, .bin .lss (.t 38) (.t 41)⟩,
  ⟨(some 4), none, .mov (.t 42)⟩]
@[go_sem] def proto_refers_r7 : List AI := [
  ⟨(some 44), none, .bin .eql (.t 34) (.c (.int .i64 6))⟩,
  ⟨(some 43), none, .mov (.t 44)⟩]
@[go_sem] def proto_refers_r8 : List AI := [
  ⟨(some 45), none, .faddr 1 (.t 3)⟩,
  ⟨(some 46), none, .load 1 false (.t 45)⟩,
  ⟨(some 47), none, .faddr 9 (.t 2)⟩,
  ⟨(some 48), none, .load 1 false (.t 47)⟩,
  ⟨(some 49), none, .len 0 (.t 48)⟩,
  ⟨(some 50), none, .bin .lss (.t 46) (.t 49)⟩,
  ⟨(some 4), none, .mov (.t 50)⟩]
@[go_sem] def proto_refers_r9 : List AI := [
  ⟨(some 52), none, .bin .eql (.t 34) (.c (.int .i64 22))⟩,
  ⟨(some 51), none, .mov (.t 52)⟩]
@[go_sem] def proto_refers_r10 : List AI := [
  ⟨(some 53), none, .faddr 2 (.t 3)⟩,
  ⟨(some 54), none, .load 1 false (.t 53)⟩,
  ⟨(some 55), none, .faddr 8 (.t 2)⟩,
  ⟨(some 56), none, .load 1 false (.t 55)⟩,
  ⟨(some 57), none, .len 0 (.t 56)⟩,
  ⟨(some 58), none, .bin .lss (.t 54) (.t 57)⟩,
  ⟨(some 4), none, .mov (.t 58)⟩]
@[go_sem] def proto_refers_r11 : List AI := [
  ⟨(some 60), none, .bin .eql (.t 34) (.c (.int .i64 19))⟩,
  ⟨(some 59), none, .mov (.t 60)⟩]
@[go_sem] def proto_refers_r12 : List AI := [
  ⟨(some 61), none, .faddr 3 (.t 2)⟩,
  ⟨(some 62), none, .load 1 false (.t 61)⟩,
  ⟨(some 4), none, .mov (.t 62)⟩]
@[go_sem] def proto_refers_r13 : List AI := [
  ⟨(some 4), none, .mov (.c (.bool true))⟩]
@[go_sem] def proto_refers_c : AC := .seq (.ops [proto_refers_r0]) (.seq (.seq (.ops [proto_refers_r1]) (.seq (.ops [proto_refers_r2]) (.cond (.t 32) (.seq (.ops [proto_refers_r3]) (.ret)) (.skip)))) (.seq (.seq (.ops [proto_refers_r4]) (.block 0 (.seq (.ops [proto_refers_r5]) (.cond (.t 35) (.seq (.ops [proto_refers_r6]) (.ret)) (.seq (.ops [proto_refers_r7]) (.cond (.t 43) (.seq (.ops [proto_refers_r8]) (.ret)) (.seq (.ops [proto_refers_r9]) (.cond (.t 51) (.seq (.ops [proto_refers_r10]) (.ret)) (.seq (.ops [proto_refers_r11]) (.cond (.t 59) (.seq (.ops [proto_refers_r12]) (.ret)) (.skip))))))))))) (.seq (.ops [proto_refers_r13]) (.ret))))
theorem proto_refers_ok : compF Tryz.prog 44 = some (63, proto_refers_c, [.t 4]) := by kernel_rfl

@[go_sem] def scriptingref11_Valid_r0 : List AI := [
  ⟨(some 1), none, .box 450001 5 (.t 0)⟩,
  ⟨(some 2), none, .mov (.c (.bool false))⟩]
@[go_sem] def scriptingref11_Valid_r1 : List AI := [
  ⟨(some 3), none, .faddr 0 (.t 1)⟩,
  ⟨(some 4), none, .load 1 false (.t 3)⟩]
@[go_sem] def scriptingref11_Valid_r2 : List AI := [
  ⟨(some 6), none, .bin .eql (.t 4) (.c (.int .i64 0))⟩,
  ⟨(some 5), none, .mov (.t 6)⟩]
@[go_sem] def scriptingref11_Valid_r3 : List AI := [
  ⟨(some 7), none, .load 5 true (.t 1)⟩,
  ⟨(some 8), none, .build [(.int .i64 0), (.int .i64 0), (.int .i64 0), (.str []), (.int .i64 0)] []⟩,
  ⟨(some 9), none, .eqa false (.agg [(0, 1, (.leaf 1)), (1, 2, (.agg [(0, 1, (.leaf 1)), (1, 1, (.leaf 1))])), (3, 1, (.leaf 2)), (4, 1, (.leaf 1))]) (.t 7) (.t 8)⟩,
  ⟨(some 2), none, .mov (.t 9)⟩]
@[go_sem] def scriptingref11_Valid_r4 : List AI := [
  ⟨(some 11), none, .bin .eql (.t 4) (.c (.int .i64 1))⟩,
  ⟨(some 10), none, .mov (.t 11)⟩]
@[go_sem] def scriptingref11_Valid_r5 : List AI := [
  ⟨(some 12), none, .load 5 true (.t 1)⟩,
  ⟨(some 13), none, .faddr 4 (.t 1)⟩,
  ⟨(some 14), none, .load 1 false (.t 13)⟩,
  ⟨(some 15), none, .build [(.int .i64 0), (.int .i64 0), (.int .i64 0), (.str []), (.int .i64 0)] [(0, 1, (.c (.int .i64 1))), (4, 1, (.t 14))]⟩,
  ⟨(some 16), none, .eqa false (.agg [(0, 1, (.leaf 1)), (1, 2, (.agg [(0, 1, (.leaf 1)), (1, 1, (.leaf 1))])), (3, 1, (.leaf 2)), (4, 1, (.leaf 1))]) (.t 12) (.t 15)⟩,
  ⟨(some 17), none, .mov (.t 16)⟩,
  ⟨(some 18), (some (17, true)), .faddr 4 (.t 1)⟩,
  ⟨(some 19), (some (17, true)), .load 1 false (.t 18)⟩,
  ⟨(some 20), (some (17, true)), .bin .eql (.t 19) (.c (.int .i64 0))⟩,
  ⟨(some 21), (some (17, true)), .mov (.t 20)⟩,
  ⟨(some 22), (some (21, false)), .faddr 4 (.t 1)⟩,
  ⟨(some 23), (some (21, false)), .load 1 false (.t 22)⟩,
  ⟨(some 24), (some (21, false)), .bin .eql (.t 23) (.c (.int .i64 1))⟩,
  ⟨(some 25), (some (17, true)), .pick (.t 21) (.c (.bool true)) (.t 24)⟩,
  ⟨(some 26), none, .pick (.t 17) (.t 25) (.c (.bool false))⟩,
  ⟨(some 2), none, .mov (.t 26)⟩]
@[go_sem] def scriptingref11_Valid_r6 : List AI := [
  ⟨(some 28), none, .bin .eql (.t 4) (.c (.int .i64 2))⟩,
  ⟨(some 27), none, .mov (.t 28)⟩]
@[go_sem] def scriptingref11_Valid_r7 : List AI := [
  ⟨(some 29), none, .load 5 true (.t 1)⟩,
  ⟨(some 30), none, .faddr 1 (.t 1)⟩,
  ⟨(some 31), none, .load 2 true (.t 30)⟩,
  ⟨(some 32), none, .build [(.int .i64 0), (.int .i64 0), (.int .i64 0), (.str []), (.int .i64 0)] [(0, 1, (.c (.int .i64 2))), (1, 2, (.t 31))]⟩,
  ⟨(some 33), none, .eqa false (.agg [(0, 1, (.leaf 1)), (1, 2, (.agg [(0, 1, (.leaf 1)), (1, 1, (.leaf 1))])), (3, 1, (.leaf 2)), (4, 1, (.leaf 1))]) (.t 29) (.t 32)⟩,
  ⟨(some 34), none, .mov (.t 33)⟩,
  ⟨(some 35), (some (34, true)), .faddr 1 (.t 1)⟩,
  ⟨(some 36), (some (34, true)), .load 2 true (.t 35)⟩,
  ⟨(some 37), (some (34, true)), .call 64 [(.t 36)]⟩,
  ⟨(some 38), none, .pick (.t 34) (.t 37) (.c (.bool false))⟩,
  ⟨(some 2), none, .mov (.t 38)⟩]
@[go_sem] def scriptingref11_Valid_r8 : List AI := [
  ⟨(some 40), none, .bin .eql (.t 4) (.c (.int .i64 3))⟩,
  ⟨(some 39), none, .mov (.t 40)⟩]
@[go_sem] def scriptingref11_Valid_r9 : List AI := [
  ⟨(some 41), none, .faddr 3 (.t 1)⟩,
  ⟨(some 42), none, .load 1 false (.t 41)⟩,
  ⟨(some 43), none, .len 1 (.t 42)⟩,
  ⟨(some 44), none, .bin .leq (.t 43) (.c (.int .i64 4096))⟩,
  ⟨(some 45), none, .mov (.t 44)⟩,
  ⟨(some 46), (some (45, true)), .load 5 true (.t 1)⟩,
  ⟨(some 47), (some (45, true)), .faddr 3 (.t 1)⟩,
  ⟨(some 48), (some (45, true)), .load 1 false (.t 47)⟩,
  ⟨(some 49), (some (45, true)), .build [(.int .i64 0), (.int .i64 0), (.int .i64 0), (.str []), (.int .i64 0)] [(0, 1, (.c (.int .i64 3))), (3, 1, (.t 48))]⟩,
  ⟨(some 50), (some (45, true)), .eqa false (.agg [(0, 1, (.leaf 1)), (1, 2, (.agg [(0, 1, (.leaf 1)), (1, 1, (.leaf 1))])), (3, 1, (.leaf 2)), (4, 1, (.leaf 1))]) (.t 46) (.t 49)⟩,
  ⟨(some 51), none, .pick (.t 45) (.t 50) (.c (.bool false))⟩,
  ⟨(some 2), none, .mov (.t 51)⟩]
@[go_sem] def scriptingref11_Valid_r10 : List AI := [
  ⟨(some 53), none, .bin .eql (.t 4) (.c (.int .i64 6))⟩,
  ⟨(some 52), none, .mov (.t 53)⟩]
@[go_sem] def scriptingref11_Valid_r11 : List AI := [
  ⟨(some 54), none, .faddr 3 (.t 1)⟩,
  ⟨(some 55), none, .load 1 false (.t 54)⟩,
  ⟨(some 56), none, .len 1 (.t 55)⟩,
  ⟨(some 57), none, .bin .geq (.t 56) (.c (.int .i64 1))⟩,
  ⟨(some 58), none, .mov (.t 57)⟩,
  ⟨(some 59), (some (58, true)), .faddr 3 (.t 1)⟩,
  ⟨(some 60), (some (58, true)), .load 1 false (.t 59)⟩,
  ⟨(some 61), (some (58, true)), .len 1 (.t 60)⟩,
  ⟨(some 62), (some (58, true)), .bin .leq (.t 61) (.c (.int .i64 4096))⟩,
  ⟨(some 63), none, .pick (.t 58) (.t 62) (.c (.bool false))⟩,
  ⟨(some 64), none, .mov (.t 63)⟩,
  ⟨(some 65), (some (64, true)), .load 5 true (.t 1)⟩,
  ⟨(some 66), (some (64, true)), .faddr 3 (.t 1)⟩,
  ⟨(some 67), (some (64, true)), .load 1 false (.t 66)⟩,
  ⟨(some 68), (some (64, true)), .build [(.int .i64 0), (.int .i64 0), (.int .i64 0), (.str []), (.int .i64 0)] [(0, 1, (.c (.int .i64 6))), (3, 1, (.t 67))]⟩,
  ⟨(some 69), (some (64, true)), .eqa false (.agg [(0, 1, (.leaf 1)), (1, 2, (.agg [(0, 1, (.leaf 1)), (1, 1, (.leaf 1))])), (3, 1, (.leaf 2)), (4, 1, (.leaf 1))]) (.t 65) (.t 68)⟩,
  ⟨(some 70), none, .pick (.t 64) (.t 69) (.c (.bool false))⟩,
  ⟨(some 2), none, .mov (.t 70)⟩]
@[go_sem] def scriptingref11_Valid_r12 : List AI := [
  ⟨(some 72), none, .bin .eql (.t 4) (.c (.int .i64 4))⟩,
  ⟨(some 71), none, .mov (.t 72)⟩]
@[go_sem] def scriptingref11_Valid_r13 : List AI := [
  ⟨(some 73), none, .bin .eql (.t 4) (.c (.int .i64 5))⟩,
  ⟨(some 71), none, .mov (.t 73)⟩]
@[go_sem] def scriptingref11_Valid_r14 : List AI := [
  ⟨(some 74), none, .bin .eql (.t 4) (.c (.int .i64 7))⟩,
  ⟨(some 71), none, .mov (.t 74)⟩]
@[go_sem] def scriptingref11_Valid_r15 : List AI := [
  ⟨(some 75), none, .bin .eql (.t 4) (.c (.int .i64 8))⟩,
  ⟨(some 71), none, .mov (.t 75)⟩]
@[go_sem] def scriptingref11_Valid_r16 : List AI := [
  ⟨(some 76), none, .load 5 true (.t 1)⟩,
  ⟨(some 77), none, .faddr 0 (.t 1)⟩,
  ⟨(some 78), none, .load 1 false (.t 77)⟩,
  ⟨(some 79), none, .faddr 4 (.t 1)⟩,
  ⟨(some 80), none, .load 1 false (.t 79)⟩,
  ⟨(some 81), none, .build [(.int .i64 0), (.int .i64 0), (.int .i64 0), (.str []), (.int .i64 0)] [(0, 1, (.t 78)), (4, 1, (.t 80))]⟩,
  ⟨(some 82), none, .eqa false (.agg [(0, 1, (.leaf 1)), (1, 2, (.agg [(0, 1, (.leaf 1)), (1, 1, (.leaf 1))])), (3, 1, (.leaf 2)), (4, 1, (.leaf 1))]) (.t 76) (.t 81)⟩,
  ⟨(some 83), none, .mov (.t 82)⟩,
  ⟨(some 84), (some (83, true)), .faddr 4 (.t 1)⟩,
  ⟨(some 85), (some (83, true)), .load 1 false (.t 84)⟩,
  ⟨(some 86), (some (83, true)), .bin .geq (.t 85) (.c (.int .i64 1))⟩,
  ⟨(some 87), none, .pick (.t 83) (.t 86) (.c (.bool false))⟩,
  ⟨(some 2), none, .mov (.t 87)⟩]
@[go_sem] def scriptingref11_Valid_r17 : List AI := [
  ⟨(some 2), none, .mov (.c (.bool false))⟩]
@[go_sem] def scriptingref11_Valid_c : AC := .seq (.ops [scriptingref11_Valid_r0]) (.seq (.seq (.ops [scriptingref11_Valid_r1]) (.block 0 (.seq (.ops [scriptingref11_Valid_r2]) (.cond (.t 5) (.seq (.ops [scriptingref11_Valid_r3]) (.ret)) (.seq (.ops [scriptingref11_Valid_r4]) (.cond (.t 10) (.seq (.ops [scriptingref11_Valid_r5]) (.ret)) (.seq (.ops [scriptingref11_Valid_r6]) (.cond (.t 27) (.seq (.ops [scriptingref11_Valid_r7]) (.ret)) (.seq (.ops [scriptingref11_Valid_r8]) (.cond (.t 39) (.seq (.ops [scriptingref11_Valid_r9]) (.ret)) (.seq (.ops [scriptingref11_Valid_r10]) (.cond (.t 52) (.seq (.ops [scriptingref11_Valid_r11]) (.ret)) (.seq (.seq (.ops [scriptingref11_Valid_r12]) (.cond (.t 71) (.skip) (.seq (.ops [scriptingref11_Valid_r13]) (.cond (.t 71) (.skip) (.seq (.ops [scriptingref11_Valid_r14]) (.cond (.t 71) (.skip) (.ops [scriptingref11_Valid_r15]))))))) (.cond (.t 71) (.seq (.ops [scriptingref11_Valid_r16]) (.ret)) (.skip))))))))))))))) (.seq (.ops [scriptingref11_Valid_r17]) (.ret)))
theorem scriptingref11_Valid_ok : compF Tryz.prog 45 = some (88, scriptingref11_Valid_c, [.t 2]) := by kernel_rfl

@[go_sem] def scriptingref32_Check_r0 : List AI := [
  ⟨(some 1), none, .box 460001 5 (.t 0)⟩,
  ⟨(some 2), none, .mov (.c (.int .i64 0))⟩]
@[go_sem] def scriptingref32_Check_r1 : List AI := [
  ⟨(some 7), none, .faddr 0 (.t 1)⟩,
  ⟨(some 8), none, .load 1 false (.t 7)⟩,
  ⟨(some 9), none, .call 65 [(.t 8)]⟩,
  ⟨(some 3), none, .box 460003 13 (.c (.agg [(.str []), (.bool false), (.bool false), (.bool false), (.bool false), (.int .i64 0), (.int .i64 0), (.int .i64 0), (.int .i64 0), (.int .i64 0), (.int .i64 0), (.int .i64 0), (.int .i64 0)]))⟩,
  ⟨none, none, .store 13 (.t 3) (.t 9)⟩]
@[go_sem] def scriptingref32_Check_r2 : List AI := [
  ⟨(some 10), none, .load 5 true (.t 1)⟩,
  ⟨(some 11), none, .call 66 [(.t 10)]⟩,
  ⟨(some 4), none, .box 460004 4 (.c (.agg [(.int .i64 0), (.int .i64 0), (.int .i64 0), (.int .i64 0)]))⟩,
  ⟨none, none, .store 4 (.t 4) (.t 11)⟩]
@[go_sem] def scriptingref32_Check_r3 : List AI := [
  ⟨(some 12), none, .faddr 0 (.t 3)⟩,
  ⟨(some 13), none, .load 1 false (.t 12)⟩,
  ⟨(some 14), none, .bin .eql (.t 13) (.c (.str []))⟩]
@[go_sem] def scriptingref32_Check_r4 : List AI := [
  ⟨(some 2), none, .mov (.c (.int .i64 4))⟩]
@[go_sem] def scriptingref32_Check_r5 : List AI := [
  ⟨(some 5), none, .mov (.c (.int .i64 0))⟩]
@[go_sem] def scriptingref32_Check_r6 : List AI := [
  ⟨(some 15), none, .mov (.t 5)⟩,
  ⟨(some 16), none, .bin .lss (.t 15) (.c (.int .i64 4))⟩]
@[go_sem] def scriptingref32_Check_r7 : List AI := [
  ⟨(some 19), none, .mov (.t 5)⟩,
  ⟨(some 20), none, .faddr 1 (.t 3)⟩,
  ⟨(some 21), none, .iaddrA 4 1 (.t 20) (.t 19)⟩,
  ⟨(some 22), none, .load 1 false (.t 21)⟩,
  ⟨(some 23), none, .un .not (.t 22)⟩,
  ⟨(some 24), none, .mov (.t 23)⟩,
  ⟨(some 25), (some (24, true)), .mov (.t 5)⟩,
  ⟨(some 26), (some (24, true)), .iaddrA 4 1 (.t 4) (.t 25)⟩,
  ⟨(some 27), (some (24, true)), .load 1 false (.t 26)⟩,
  ⟨(some 28), (some (24, true)), .bin .neq (.t 27) (.c (.int .i64 0))⟩,
  ⟨(some 29), none, .pick (.t 24) (.t 28) (.c (.bool false))⟩]
@[go_sem] def scriptingref32_Check_r8 : List AI := [
  ⟨(some 2), none, .mov (.c (.int .i64 4))⟩]
@[go_sem] def scriptingref32_Check_r9 : List AI := [
  ⟨(some 17), none, .mov (.t 5)⟩,
  ⟨(some 18), none, .bin .add (.t 17) (.c (.int .i64 1))⟩,
  ⟨(some 5), none, .mov (.t 18)⟩]
def scriptingref32_Check_l0 : AC := .seq (.seq (.ops [scriptingref32_Check_r6]) (.cond (.t 16) (.skip) (.exit 0))) (.seq (.block 1 (.seq (.ops [scriptingref32_Check_r7]) (.cond (.t 29) (.seq (.ops [scriptingref32_Check_r8]) (.ret)) (.skip)))) (.ops [scriptingref32_Check_r9]))
theorem scriptingref32_Check_l0_eq : scriptingref32_Check_l0 = .seq (.seq (.ops [scriptingref32_Check_r6]) (.cond (.t 16) (.skip) (.exit 0))) (.seq (.block 1 (.seq (.ops [scriptingref32_Check_r7]) (.cond (.t 29) (.seq (.ops [scriptingref32_Check_r8]) (.ret)) (.skip)))) (.ops [scriptingref32_Check_r9])) := rfl
@[go_sem] def scriptingref32_Check_r10 : List AI := [
  ⟨(some 6), none, .mov (.c (.int .i64 0))⟩]
@[go_sem] def scriptingref32_Check_r11 : List AI := [
  ⟨(some 30), none, .mov (.t 6)⟩,
  ⟨(some 31), none, .bin .lss (.t 30) (.c (.int .i64 4))⟩]
@[go_sem] def scriptingref32_Check_r12 : List AI := [
  ⟨(some 34), none, .mov (.t 6)⟩,
  ⟨(some 35), none, .faddr 1 (.t 3)⟩,
  ⟨(some 36), none, .iaddrA 4 1 (.t 35) (.t 34)⟩,
  ⟨(some 37), none, .load 1 false (.t 36)⟩,
  ⟨(some 38), none, .mov (.t 37)⟩,
  ⟨(some 39), (some (38, true)), .mov (.t 6)⟩,
  ⟨(some 40), (some (38, true)), .iaddrA 4 1 (.t 4) (.t 39)⟩,
  ⟨(some 41), (some (38, true)), .load 1 false (.t 40)⟩,
  ⟨(some 42), (some (38, true)), .mov (.t 6)⟩,
  ⟨(some 43), (some (38, true)), .faddr 5 (.t 3)⟩,
  ⟨(some 44), (some (38, true)), .iaddrA 4 1 (.t 43) (.t 42)⟩,
  ⟨(some 45), (some (38, true)), .load 1 false (.t 44)⟩,
  ⟨(some 46), (some (38, true)), .bin .lss (.t 41) (.t 45)⟩,
  ⟨(some 47), (some (38, true)), .mov (.t 46)⟩,
  ⟨(some 48), (some (47, false)), .mov (.t 6)⟩,
  ⟨(some 49), (some (47, false)), .iaddrA 4 1 (.t 4) (.t 48)⟩,
  ⟨(some 50), (some (47, false)), .load 1 false (.t 49)⟩,
  ⟨(some 51), (some (47, false)), .mov (.t 6)⟩,
  ⟨(some 52), (some (47, false)), .faddr 9 (.t 3)⟩,
  ⟨(some 53), (some (47, false)), .iaddrA 4 1 (.t 52) (.t 51)⟩,
  ⟨(some 54), (some (47, false)), .load 1 false (.t 53)⟩,
  ⟨(some 55), (some (47, false)), .bin .gtr (.t 50) (.t 54)⟩,
  ⟨(some 56), (some (38, true)), .pick (.t 47) (.c (.bool true)) (.t 55)⟩,
  ⟨(some 57), none, .pick (.t 38) (.t 56) (.c (.bool false))⟩]
@[go_sem] def scriptingref32_Check_r13 : List AI := [
  ⟨(some 2), none, .mov (.c (.int .i64 6))⟩]
@[go_sem] def scriptingref32_Check_r14 : List AI := [
  ⟨(some 32), none, .mov (.t 6)⟩,
  ⟨(some 33), none, .bin .add (.t 32) (.c (.int .i64 1))⟩,
  ⟨(some 6), none, .mov (.t 33)⟩]
def scriptingref32_Check_l1 : AC := .seq (.seq (.ops [scriptingref32_Check_r11]) (.cond (.t 31) (.skip) (.exit 2))) (.seq (.block 3 (.seq (.ops [scriptingref32_Check_r12]) (.cond (.t 57) (.seq (.ops [scriptingref32_Check_r13]) (.ret)) (.skip)))) (.ops [scriptingref32_Check_r14]))
theorem scriptingref32_Check_l1_eq : scriptingref32_Check_l1 = .seq (.seq (.ops [scriptingref32_Check_r11]) (.cond (.t 31) (.skip) (.exit 2))) (.seq (.block 3 (.seq (.ops [scriptingref32_Check_r12]) (.cond (.t 57) (.seq (.ops [scriptingref32_Check_r13]) (.ret)) (.skip)))) (.ops [scriptingref32_Check_r14])) := rfl
@[go_sem] def scriptingref32_Check_r15 : List AI := [
  ⟨(some 58), none, .faddr 0 (.t 1)⟩,
  ⟨(some 59), none, .load 1 false (.t 58)⟩,
  ⟨(some 60), none, .bin .eql (.t 59) (.c (.int .i64 3))⟩,
  ⟨(some 61), none, .mov (.t 60)⟩,
  ⟨(some 62), (some (61, true)), .faddr 2 (.t 1)⟩,
  ⟨(some 63), (some (61, true)), .load 1 false (.t 62)⟩,
  ⟨(some 64), (some (61, true)), .faddr 1 (.t 1)⟩,
  ⟨(some 65), (some (61, true)), .load 1 false (.t 64)⟩,
  ⟨(some 66), (some (61, true)), .bin .lss (.t 63) (.t 65)⟩,
  ⟨(some 67), none, .pick (.t 61) (.t 66) (.c (.bool false))⟩,
  ⟨(some 68), none, .mov (.t 67)⟩,
  ⟨(some 69), (some (68, false)), .load 5 true (.t 1)⟩,
  ⟨(some 70), (some (68, false)), .call 67 [(.t 69)]⟩,
  ⟨(some 71), (some (68, false)), .bin .gtr (.t 70) (.c (.int .i64 4095))⟩,
  ⟨(some 72), none, .pick (.t 68) (.c (.bool true)) (.t 71)⟩]
@[go_sem] def scriptingref32_Check_r16 : List AI := [
  ⟨(some 2), none, .mov (.c (.int .i64 6))⟩]
@[go_sem] def scriptingref32_Check_r17 : List AI := [
  ⟨(some 2), none, .mov (.c (.int .i64 0))⟩]
@[go_sem] def scriptingref32_Check_c : AC := .seq (.ops [scriptingref32_Check_r0]) (.seq (.ops [scriptingref32_Check_r1]) (.seq (.ops [scriptingref32_Check_r2]) (.seq (.seq (.ops [scriptingref32_Check_r3]) (.cond (.t 14) (.seq (.ops [scriptingref32_Check_r4]) (.ret)) (.skip))) (.seq (.seq (.ops [scriptingref32_Check_r5]) (.block 0 (.loop scriptingref32_Check_l0))) (.seq (.seq (.ops [scriptingref32_Check_r10]) (.block 2 (.loop scriptingref32_Check_l1))) (.seq (.seq (.ops [scriptingref32_Check_r15]) (.cond (.t 72) (.seq (.ops [scriptingref32_Check_r16]) (.ret)) (.skip))) (.seq (.ops [scriptingref32_Check_r17]) (.ret))))))))
theorem scriptingref32_Check_ok : compF Tryz.prog 46 = some (73, scriptingref32_Check_c, [.t 2]) := by kernel_rfl

@[go_sem] def scriptingref32_Reads_r0 : List AI := [
  ⟨(some 1), none, .box 470001 5 (.t 0)⟩,
  ⟨(some 2), none, .mov (.c .nils)⟩,
  ⟨(some 3), none, .mov (.c (.int .i64 0))⟩]
@[go_sem] def scriptingref32_Reads_r1 : List AI := [
  ⟨(some 4), none, .load 5 true (.t 1)⟩,
  ⟨(some 5), none, .call 46 [(.t 4)]⟩,
  ⟨(some 6), none, .bin .neq (.t 5) (.c (.int .i64 0))⟩]
@[go_sem] def scriptingref32_Reads_r2 : List AI := [
  ⟨(some 2), none, .mov (.c .nils)⟩,
  ⟨(some 3), none, .mov (.c (.int .i64 (-1)))⟩]
@[go_sem] def scriptingref32_Reads_r3 : List AI := [
  ⟨(some 7), none, .faddr 0 (.t 1)⟩,
  ⟨(some 8), none, .load 1 false (.t 7)⟩]
@[go_sem] def scriptingref32_Reads_r4 : List AI := [
  ⟨(some 10), none, .bin .eql (.t 8) (.c (.int .i64 1))⟩,
  ⟨(some 9), none, .mov (.t 10)⟩]
@[go_sem] def scriptingref32_Reads_r5 : List AI := [
  ⟨(some 11), none, .bin .eql (.t 8) (.c (.int .i64 6))⟩,
  ⟨(some 9), none, .mov (.t 11)⟩]
@[go_sem] def scriptingref32_Reads_r6 : List AI := [
  ⟨(some 12), none, .bin .eql (.t 8) (.c (.int .i64 8))⟩,
  ⟨(some 9), none, .mov (.t 12)⟩]
@[go_sem] def scriptingref32_Reads_r7 : List AI := [
  ⟨(some 13), none, .bin .eql (.t 8) (.c (.int .i64 11))⟩,
  ⟨(some 9), none, .mov (.t 13)⟩]
@[go_sem] def scriptingref32_Reads_r8 : List AI := [
  ⟨(some 14), none, .bin .eql (.t 8) (.c (.int .i64 12))⟩,
  ⟨(some 9), none, .mov (.t 14)⟩]
@[go_sem] def scriptingref32_Reads_r9 : List AI := [
  ⟨(some 15), none, .faddr 2 (.t 1)⟩,
  ⟨(some 16), none, .load 1 false (.t 15)⟩,
  ⟨(some 17), none, .mkrow 470017 1 [(.t 16)]⟩,
  ⟨(some 18), none, .call 68 [(.t 17)]⟩,
  ⟨(some 2), none, .mov (.t 18)⟩,
  ⟨(some 3), none, .mov (.c (.int .i64 (-1)))⟩]
@[go_sem] def scriptingref32_Reads_r10 : List AI := [
  ⟨(some 20), none, .bin .eql (.t 8) (.c (.int .i64 9))⟩,
  ⟨(some 19), none, .mov (.t 20)⟩]
@[go_sem] def scriptingref32_Reads_r11 : List AI := [
  ⟨(some 21), none, .bin .eql (.t 8) (.c (.int .i64 13))⟩,
  ⟨(some 19), none, .mov (.t 21)⟩]
@[go_sem] def scriptingref32_Reads_r12 : List AI := [
  ⟨(some 22), none, .faddr 2 (.t 1)⟩,
  ⟨(some 23), none, .load 1 false (.t 22)⟩,
  ⟨(some 24), none, .faddr 3 (.t 1)⟩,
  ⟨(some 25), none, .load 1 false (.t 24)⟩,
  ⟨(some 26), none, .mkrow 470026 1 [(.t 23), (.t 25)]⟩,
  ⟨(some 27), none, .call 68 [(.t 26)]⟩,
  ⟨(some 2), none, .mov (.t 27)⟩,
  ⟨(some 3), none, .mov (.c (.int .i64 (-1)))⟩]
@[go_sem] def scriptingref32_Reads_r13 : List AI := [
  ⟨(some 29), none, .bin .eql (.t 8) (.c (.int .i64 10))⟩,
  ⟨(some 28), none, .mov (.t 29)⟩]
@[go_sem] def scriptingref32_Reads_r14 : List AI := [
  ⟨(some 30), none, .faddr 1 (.t 1)⟩,
  ⟨(some 31), none, .load 1 false (.t 30)⟩,
  ⟨(some 32), none, .faddr 2 (.t 1)⟩,
  ⟨(some 33), none, .load 1 false (.t 32)⟩,
  ⟨(some 34), none, .faddr 3 (.t 1)⟩,
  ⟨(some 35), none, .load 1 false (.t 34)⟩,
  ⟨(some 36), none, .mkrow 470036 1 [(.t 31), (.t 33), (.t 35)]⟩,
  ⟨(some 37), none, .call 68 [(.t 36)]⟩,
  ⟨(some 2), none, .mov (.t 37)⟩,
  ⟨(some 3), none, .mov (.c (.int .i64 (-1)))⟩]
@[go_sem] def scriptingref32_Reads_r15 : List AI := [
  ⟨(some 39), none, .bin .eql (.t 8) (.c (.int .i64 15))⟩,
  ⟨(some 38), none, .mov (.t 39)⟩]
@[go_sem] def scriptingref32_Reads_r16 : List AI := [
  ⟨(some 40), none, .bin .eql (.t 8) (.c (.int .i64 28))⟩,
  ⟨(some 38), none, .mov (.t 40)⟩]
@[go_sem] def scriptingref32_Reads_r17 : List AI := [
  ⟨(some 41), none, .faddr 1 (.t 1)⟩,
  ⟨(some 42), none, .load 1 false (.t 41)⟩,
  ⟨(some 43), none, .mkrow 470043 1 [(.t 42)]⟩,
  ⟨(some 44), none, .call 68 [(.t 43)]⟩,
  ⟨(some 2), none, .mov (.t 44)⟩,
  ⟨(some 3), none, .mov (.c (.int .i64 (-1)))⟩]
@[go_sem] def scriptingref32_Reads_r18 : List AI := [
  ⟨(some 46), none, .bin .eql (.t 8) (.c (.int .i64 16))⟩,
  ⟨(some 45), none, .mov (.t 46)⟩]
@[go_sem] def scriptingref32_Reads_r19 : List AI := [
  ⟨(some 47), none, .bin .eql (.t 8) (.c (.int .i64 17))⟩,
  ⟨(some 45), none, .mov (.t 47)⟩]
@[go_sem] def scriptingref32_Reads_r20 : List AI := [
  ⟨(some 48), none, .bin .eql (.t 8) (.c (.int .i64 21))⟩,
  ⟨(some 45), none, .mov (.t 48)⟩]
@[go_sem] def scriptingref32_Reads_r21 : List AI := [
  ⟨(some 49), none, .faddr 1 (.t 1)⟩,
  ⟨(some 50), none, .load 1 false (.t 49)⟩,
  ⟨(some 51), none, .mkrow 470051 1 [(.t 50)]⟩,
  ⟨(some 52), none, .faddr 1 (.t 1)⟩,
  ⟨(some 53), none, .load 1 false (.t 52)⟩,
  ⟨(some 54), none, .bin .add (.t 53) (.c (.int .i64 1))⟩,
  ⟨(some 55), none, .faddr 2 (.t 1)⟩,
  ⟨(some 56), none, .load 1 false (.t 55)⟩,
  ⟨(some 57), none, .call 69 [(.t 51), (.t 54), (.t 56)]⟩,
  ⟨(some 58), none, .ext 0 (.t 57)⟩,
  ⟨(some 59), none, .ext 1 (.t 57)⟩,
  ⟨(some 2), none, .mov (.t 58)⟩,
  ⟨(some 3), none, .mov (.t 59)⟩]
@[go_sem] def scriptingref32_Reads_r22 : List AI := [
  ⟨(some 61), none, .bin .eql (.t 8) (.c (.int .i64 18))⟩,
  ⟨(some 60), none, .mov (.t 61)⟩]
@[go_sem] def scriptingref32_Reads_r23 : List AI := [
  ⟨(some 62), none, .faddr 1 (.t 1)⟩,
  ⟨(some 63), none, .load 1 false (.t 62)⟩,
  ⟨(some 64), none, .faddr 2 (.t 1)⟩,
  ⟨(some 65), none, .load 1 false (.t 64)⟩,
  ⟨(some 66), none, .call 69 [(.c .nils), (.t 63), (.t 65)]⟩,
  ⟨(some 67), none, .ext 0 (.t 66)⟩,
  ⟨(some 68), none, .ext 1 (.t 66)⟩,
  ⟨(some 2), none, .mov (.t 67)⟩,
  ⟨(some 3), none, .mov (.t 68)⟩]
@[go_sem] def scriptingref32_Reads_r24 : List AI := [
  ⟨(some 70), none, .bin .eql (.t 8) (.c (.int .i64 23))⟩,
  ⟨(some 69), none, .mov (.t 70)⟩]
@[go_sem] def scriptingref32_Reads_r25 : List AI := [
  ⟨(some 71), none, .bin .eql (.t 8) (.c (.int .i64 24))⟩,
  ⟨(some 69), none, .mov (.t 71)⟩]
@[go_sem] def scriptingref32_Reads_r26 : List AI := [
  ⟨(some 72), none, .bin .eql (.t 8) (.c (.int .i64 25))⟩,
  ⟨(some 69), none, .mov (.t 72)⟩]
@[go_sem] def scriptingref32_Reads_r27 : List AI := [
  ⟨(some 73), none, .faddr 1 (.t 1)⟩,
  ⟨(some 74), none, .load 1 false (.t 73)⟩,
  ⟨(some 75), none, .faddr 1 (.t 1)⟩,
  ⟨(some 76), none, .load 1 false (.t 75)⟩,
  ⟨(some 77), none, .bin .add (.t 76) (.c (.int .i64 1))⟩,
  ⟨(some 78), none, .faddr 1 (.t 1)⟩,
  ⟨(some 79), none, .load 1 false (.t 78)⟩,
  ⟨(some 80), none, .bin .add (.t 79) (.c (.int .i64 2))⟩,
  ⟨(some 81), none, .mkrow 470081 1 [(.t 74), (.t 77), (.t 80)]⟩,
  ⟨(some 82), none, .call 68 [(.t 81)]⟩,
  ⟨(some 2), none, .mov (.t 82)⟩,
  ⟨(some 3), none, .mov (.c (.int .i64 (-1)))⟩]
@[go_sem] def scriptingref32_Reads_r28 : List AI := [
  ⟨(some 84), none, .bin .eql (.t 8) (.c (.int .i64 26))⟩,
  ⟨(some 83), none, .mov (.t 84)⟩]
@[go_sem] def scriptingref32_Reads_r29 : List AI := [
  ⟨(some 85), none, .faddr 1 (.t 1)⟩,
  ⟨(some 86), none, .load 1 false (.t 85)⟩,
  ⟨(some 87), none, .bin .add (.t 86) (.c (.int .i64 3))⟩,
  ⟨(some 88), none, .mkrow 470088 1 [(.t 87)]⟩,
  ⟨(some 89), none, .call 68 [(.t 88)]⟩,
  ⟨(some 2), none, .mov (.t 89)⟩,
  ⟨(some 3), none, .mov (.c (.int .i64 (-1)))⟩]
@[go_sem] def scriptingref32_Reads_r30 : List AI := [
  ⟨(some 2), none, .mov (.c .nils)⟩,
  ⟨(some 3), none, .mov (.c (.int .i64 (-1)))⟩]
@[go_sem] def scriptingref32_Reads_c : AC := .seq (.ops [scriptingref32_Reads_r0]) (.seq (.seq (.ops [scriptingref32_Reads_r1]) (.cond (.t 6) (.seq (.ops [scriptingref32_Reads_r2]) (.ret)) (.skip))) (.seq (.seq (.ops [scriptingref32_Reads_r3]) (.block 0 (.seq (.seq (.ops [scriptingref32_Reads_r4]) (.cond (.t 9) (.skip) (.seq (.ops [scriptingref32_Reads_r5]) (.cond (.t 9) (.skip) (.seq (.ops [scriptingref32_Reads_r6]) (.cond (.t 9) (.skip) (.seq (.ops [scriptingref32_Reads_r7]) (.cond (.t 9) (.skip) (.ops [scriptingref32_Reads_r8]))))))))) (.cond (.t 9) (.seq (.ops [scriptingref32_Reads_r9]) (.ret)) (.seq (.seq (.ops [scriptingref32_Reads_r10]) (.cond (.t 19) (.skip) (.ops [scriptingref32_Reads_r11]))) (.cond (.t 19) (.seq (.ops [scriptingref32_Reads_r12]) (.ret)) (.seq (.ops [scriptingref32_Reads_r13]) (.cond (.t 28) (.seq (.ops [scriptingref32_Reads_r14]) (.ret)) (.seq (.seq (.ops [scriptingref32_Reads_r15]) (.cond (.t 38) (.skip) (.ops [scriptingref32_Reads_r16]))) (.cond (.t 38) (.seq (.ops [scriptingref32_Reads_r17]) (.ret)) (.seq (.seq (.ops [scriptingref32_Reads_r18]) (.cond (.t 45) (.skip) (.seq (.ops [scriptingref32_Reads_r19]) (.cond (.t 45) (.skip) (.ops [scriptingref32_Reads_r20]))))) (.cond (.t 45) (.seq (.ops [scriptingref32_Reads_r21]) (.ret)) (.seq (.ops [scriptingref32_Reads_r22]) (.cond (.t 60) (.seq (.ops [scriptingref32_Reads_r23]) (.ret)) (.seq (.seq (.ops [scriptingref32_Reads_r24]) (.cond (.t 69) (.skip) (.seq (.ops [scriptingref32_Reads_r25]) (.cond (.t 69) (.skip) (.ops [scriptingref32_Reads_r26]))))) (.cond (.t 69) (.seq (.ops [scriptingref32_Reads_r27]) (.ret)) (.seq (.ops [scriptingref32_Reads_r28]) (.cond (.t 83) (.seq (.ops [scriptingref32_Reads_r29]) (.ret)) (.skip))))))))))))))))))) (.seq (.ops [scriptingref32_Reads_r30]) (.ret))))
theorem scriptingref32_Reads_ok : compF Tryz.prog 47 = some (90, scriptingref32_Reads_c, [.t 2, .t 3]) := by kernel_rfl

@[go_sem] def scriptingref32_Writes_r0 : List AI := [
  ⟨(some 1), none, .box 480001 5 (.t 0)⟩,
  ⟨(some 2), none, .mov (.c .nils)⟩,
  ⟨(some 3), none, .mov (.c (.int .i64 0))⟩]
@[go_sem] def scriptingref32_Writes_r1 : List AI := [
  ⟨(some 4), none, .load 5 true (.t 1)⟩,
  ⟨(some 5), none, .call 46 [(.t 4)]⟩,
  ⟨(some 6), none, .bin .neq (.t 5) (.c (.int .i64 0))⟩]
@[go_sem] def scriptingref32_Writes_r2 : List AI := [
  ⟨(some 2), none, .mov (.c .nils)⟩,
  ⟨(some 3), none, .mov (.c (.int .i64 (-1)))⟩]
@[go_sem] def scriptingref32_Writes_r3 : List AI := [
  ⟨(some 7), none, .faddr 0 (.t 1)⟩,
  ⟨(some 8), none, .load 1 false (.t 7)⟩]
@[go_sem] def scriptingref32_Writes_r4 : List AI := [
  ⟨(some 10), none, .bin .eql (.t 8) (.c (.int .i64 1))⟩,
  ⟨(some 9), none, .mov (.t 10)⟩]
@[go_sem] def scriptingref32_Writes_r5 : List AI := [
  ⟨(some 11), none, .bin .eql (.t 8) (.c (.int .i64 2))⟩,
  ⟨(some 9), none, .mov (.t 11)⟩]
@[go_sem] def scriptingref32_Writes_r6 : List AI := [
  ⟨(some 12), none, .bin .eql (.t 8) (.c (.int .i64 4))⟩,
  ⟨(some 9), none, .mov (.t 12)⟩]
@[go_sem] def scriptingref32_Writes_r7 : List AI := [
  ⟨(some 13), none, .bin .eql (.t 8) (.c (.int .i64 5))⟩,
  ⟨(some 9), none, .mov (.t 13)⟩]
@[go_sem] def scriptingref32_Writes_r8 : List AI := [
  ⟨(some 14), none, .bin .eql (.t 8) (.c (.int .i64 7))⟩,
  ⟨(some 9), none, .mov (.t 14)⟩]
@[go_sem] def scriptingref32_Writes_r9 : List AI := [
  ⟨(some 15), none, .bin .eql (.t 8) (.c (.int .i64 9))⟩,
  ⟨(some 9), none, .mov (.t 15)⟩]
@[go_sem] def scriptingref32_Writes_r10 : List AI := [
  ⟨(some 16), none, .bin .eql (.t 8) (.c (.int .i64 12))⟩,
  ⟨(some 9), none, .mov (.t 16)⟩]
@[go_sem] def scriptingref32_Writes_r11 : List AI := [
  ⟨(some 17), none, .bin .eql (.t 8) (.c (.int .i64 13))⟩,
  ⟨(some 9), none, .mov (.t 17)⟩]
@[go_sem] def scriptingref32_Writes_r12 : List AI := [
  ⟨(some 18), none, .bin .eql (.t 8) (.c (.int .i64 20))⟩,
  ⟨(some 9), none, .mov (.t 18)⟩]
@[go_sem] def scriptingref32_Writes_r13 : List AI := [
  ⟨(some 19), none, .bin .eql (.t 8) (.c (.int .i64 22))⟩,
  ⟨(some 9), none, .mov (.t 19)⟩]
@[go_sem] def scriptingref32_Writes_r14 : List AI := [
  ⟨(some 20), none, .faddr 1 (.t 1)⟩,
  ⟨(some 21), none, .load 1 false (.t 20)⟩,
  ⟨(some 22), none, .mkrow 480022 1 [(.t 21)]⟩,
  ⟨(some 23), none, .call 68 [(.t 22)]⟩,
  ⟨(some 2), none, .mov (.t 23)⟩,
  ⟨(some 3), none, .mov (.c (.int .i64 (-1)))⟩]
@[go_sem] def scriptingref32_Writes_r15 : List AI := [
  ⟨(some 25), none, .bin .eql (.t 8) (.c (.int .i64 3))⟩,
  ⟨(some 24), none, .mov (.t 25)⟩]
@[go_sem] def scriptingref32_Writes_r16 : List AI := [
  ⟨(some 26), none, .faddr 1 (.t 1)⟩,
  ⟨(some 27), none, .load 1 false (.t 26)⟩,
  ⟨(some 28), none, .faddr 2 (.t 1)⟩,
  ⟨(some 29), none, .load 1 false (.t 28)⟩,
  ⟨(some 30), none, .faddr 1 (.t 1)⟩,
  ⟨(some 31), none, .load 1 false (.t 30)⟩,
  ⟨(some 32), none, .bin .sub (.t 29) (.t 31)⟩,
  ⟨(some 33), none, .bin .add (.t 32) (.c (.int .i64 1))⟩,
  ⟨(some 34), none, .call 70 [(.c .nils), (.t 27), (.t 33)]⟩,
  ⟨(some 2), none, .mov (.t 34)⟩,
  ⟨(some 3), none, .mov (.c (.int .i64 (-1)))⟩]
@[go_sem] def scriptingref32_Writes_r17 : List AI := [
  ⟨(some 36), none, .bin .eql (.t 8) (.c (.int .i64 11))⟩,
  ⟨(some 35), none, .mov (.t 36)⟩]
@[go_sem] def scriptingref32_Writes_r18 : List AI := [
  ⟨(some 37), none, .faddr 1 (.t 1)⟩,
  ⟨(some 38), none, .load 1 false (.t 37)⟩,
  ⟨(some 39), none, .faddr 1 (.t 1)⟩,
  ⟨(some 40), none, .load 1 false (.t 39)⟩,
  ⟨(some 41), none, .bin .add (.t 40) (.c (.int .i64 1))⟩,
  ⟨(some 42), none, .mkrow 480042 1 [(.t 38), (.t 41)]⟩,
  ⟨(some 43), none, .call 68 [(.t 42)]⟩,
  ⟨(some 2), none, .mov (.t 43)⟩,
  ⟨(some 3), none, .mov (.c (.int .i64 (-1)))⟩]
@[go_sem] def scriptingref32_Writes_r19 : List AI := [
  ⟨(some 45), none, .bin .eql (.t 8) (.c (.int .i64 16))⟩,
  ⟨(some 44), none, .mov (.t 45)⟩]
@[go_sem] def scriptingref32_Writes_r20 : List AI := [
  ⟨(some 46), none, .faddr 1 (.t 1)⟩,
  ⟨(some 47), none, .load 1 false (.t 46)⟩,
  ⟨(some 48), none, .faddr 3 (.t 1)⟩,
  ⟨(some 49), none, .load 1 false (.t 48)⟩,
  ⟨(some 50), none, .call 69 [(.c .nils), (.t 47), (.t 49)]⟩,
  ⟨(some 51), none, .ext 0 (.t 50)⟩,
  ⟨(some 52), none, .ext 1 (.t 50)⟩,
  ⟨(some 2), none, .mov (.t 51)⟩,
  ⟨(some 3), none, .mov (.t 52)⟩]
@[go_sem] def scriptingref32_Writes_r21 : List AI := [
  ⟨(some 54), none, .bin .eql (.t 8) (.c (.int .i64 19))⟩,
  ⟨(some 53), none, .mov (.t 54)⟩]
@[go_sem] def scriptingref32_Writes_r22 : List AI := [
  ⟨(some 55), none, .faddr 1 (.t 1)⟩,
  ⟨(some 56), none, .load 1 false (.t 55)⟩,
  ⟨(some 57), none, .faddr 2 (.t 1)⟩,
  ⟨(some 58), none, .load 1 false (.t 57)⟩,
  ⟨(some 59), none, .call 69 [(.c .nils), (.t 56), (.t 58)]⟩,
  ⟨(some 60), none, .ext 0 (.t 59)⟩,
  ⟨(some 61), none, .ext 1 (.t 59)⟩,
  ⟨(some 2), none, .mov (.t 60)⟩,
  ⟨(some 3), none, .mov (.t 61)⟩]
@[go_sem] def scriptingref32_Writes_r23 : List AI := [
  ⟨(some 63), none, .bin .eql (.t 8) (.c (.int .i64 23))⟩,
  ⟨(some 62), none, .mov (.t 63)⟩]
@[go_sem] def scriptingref32_Writes_r24 : List AI := [
  ⟨(some 64), none, .faddr 1 (.t 1)⟩,
  ⟨(some 65), none, .load 1 false (.t 64)⟩,
  ⟨(some 66), none, .bin .add (.t 65) (.c (.int .i64 3))⟩,
  ⟨(some 67), none, .mkrow 480067 1 [(.t 66)]⟩,
  ⟨(some 68), none, .call 68 [(.t 67)]⟩,
  ⟨(some 2), none, .mov (.t 68)⟩,
  ⟨(some 3), none, .mov (.c (.int .i64 (-1)))⟩]
@[go_sem] def scriptingref32_Writes_r25 : List AI := [
  ⟨(some 70), none, .bin .eql (.t 8) (.c (.int .i64 24))⟩,
  ⟨(some 69), none, .mov (.t 70)⟩]
@[go_sem] def scriptingref32_Writes_r26 : List AI := [
  ⟨(some 71), none, .faddr 1 (.t 1)⟩,
  ⟨(some 72), none, .load 1 false (.t 71)⟩,
  ⟨(some 73), none, .faddr 1 (.t 1)⟩,
  ⟨(some 74), none, .load 1 false (.t 73)⟩,
  ⟨(some 75), none, .bin .add (.t 74) (.c (.int .i64 3))⟩,
  ⟨(some 76), none, .mkrow 480076 1 [(.t 72), (.t 75)]⟩,
  ⟨(some 77), none, .call 68 [(.t 76)]⟩,
  ⟨(some 2), none, .mov (.t 77)⟩,
  ⟨(some 3), none, .mov (.c (.int .i64 (-1)))⟩]
@[go_sem] def scriptingref32_Writes_r27 : List AI := [
  ⟨(some 79), none, .bin .eql (.t 8) (.c (.int .i64 25))⟩,
  ⟨(some 78), none, .mov (.t 79)⟩]
@[go_sem] def scriptingref32_Writes_r28 : List AI := [
  ⟨(some 80), none, .faddr 1 (.t 1)⟩,
  ⟨(some 81), none, .load 1 false (.t 80)⟩,
  ⟨(some 82), none, .bin .add (.t 81) (.c (.int .i64 3))⟩,
  ⟨(some 83), none, .faddr 3 (.t 1)⟩,
  ⟨(some 84), none, .load 1 false (.t 83)⟩,
  ⟨(some 85), none, .call 70 [(.c .nils), (.t 82), (.t 84)]⟩,
  ⟨(some 2), none, .mov (.t 85)⟩,
  ⟨(some 3), none, .mov (.c (.int .i64 (-1)))⟩]
@[go_sem] def scriptingref32_Writes_r29 : List AI := [
  ⟨(some 87), none, .bin .eql (.t 8) (.c (.int .i64 26))⟩,
  ⟨(some 86), none, .mov (.t 87)⟩]
@[go_sem] def scriptingref32_Writes_r30 : List AI := [
  ⟨(some 88), none, .faddr 1 (.t 1)⟩,
  ⟨(some 89), none, .load 1 false (.t 88)⟩,
  ⟨(some 90), none, .bin .add (.t 89) (.c (.int .i64 2))⟩,
  ⟨(some 91), none, .mkrow 480091 1 [(.t 90)]⟩,
  ⟨(some 92), none, .call 68 [(.t 91)]⟩,
  ⟨(some 2), none, .mov (.t 92)⟩,
  ⟨(some 3), none, .mov (.c (.int .i64 (-1)))⟩]
@[go_sem] def scriptingref32_Writes_r31 : List AI := [
  ⟨(some 2), none, .mov (.c .nils)⟩,
  ⟨(some 3), none, .mov (.c (.int .i64 (-1)))⟩]
@[go_sem] def scriptingref32_Writes_c : AC := .seq (.ops [scriptingref32_Writes_r0]) (.seq (.seq (.ops [scriptingref32_Writes_r1]) (.cond (.t 6) (.seq (.ops [scriptingref32_Writes_r2]) (.ret)) (.skip))) (.seq (.seq (.ops [scriptingref32_Writes_r3]) (.block 0 (.seq (.seq (.ops [scriptingref32_Writes_r4]) (.cond (.t 9) (.skip) (.seq (.ops [scriptingref32_Writes_r5]) (.cond (.t 9) (.skip) (.seq (.ops [scriptingref32_Writes_r6]) (.cond (.t 9) (.skip) (.seq (.ops [scriptingref32_Writes_r7]) (.cond (.t 9) (.skip) (.seq (.ops [scriptingref32_Writes_r8]) (.cond (.t 9) (.skip) (.seq (.ops [scriptingref32_Writes_r9]) (.cond (.t 9) (.skip) (.seq (.ops [scriptingref32_Writes_r10]) (.cond (.t 9) (.skip) (.seq (.ops [scriptingref32_Writes_r11]) (.cond (.t 9) (.skip) (.seq (.ops [scriptingref32_Writes_r12]) (.cond (.t 9) (.skip) (.ops [scriptingref32_Writes_r13]))))))))))))))))))) (.cond (.t 9) (.seq (.ops [scriptingref32_Writes_r14]) (.ret)) (.seq (.ops [scriptingref32_Writes_r15]) (.cond (.t 24) (.seq (.ops [scriptingref32_Writes_r16]) (.ret)) (.seq (.ops [scriptingref32_Writes_r17]) (.cond (.t 35) (.seq (.ops [scriptingref32_Writes_r18]) (.ret)) (.seq (.ops [scriptingref32_Writes_r19]) (.cond (.t 44) (.seq (.ops [scriptingref32_Writes_r20]) (.ret)) (.seq (.ops [scriptingref32_Writes_r21]) (.cond (.t 53) (.seq (.ops [scriptingref32_Writes_r22]) (.ret)) (.seq (.ops [scriptingref32_Writes_r23]) (.cond (.t 62) (.seq (.ops [scriptingref32_Writes_r24]) (.ret)) (.seq (.ops [scriptingref32_Writes_r25]) (.cond (.t 69) (.seq (.ops [scriptingref32_Writes_r26]) (.ret)) (.seq (.ops [scriptingref32_Writes_r27]) (.cond (.t 78) (.seq (.ops [scriptingref32_Writes_r28]) (.ret)) (.seq (.ops [scriptingref32_Writes_r29]) (.cond (.t 86) (.seq (.ops [scriptingref32_Writes_r30]) (.ret)) (.skip))))))))))))))))))))) (.seq (.ops [scriptingref32_Writes_r31]) (.ret))))
theorem scriptingref32_Writes_ok : compF Tryz.prog 48 = some (93, scriptingref32_Writes_c, [.t 2, .t 3]) := by kernel_rfl

@[go_sem] def scriptingref33_below_r0 : List AI := [
  ⟨(some 6), none, .mov (.c (.bool false))⟩]
@[go_sem] def scriptingref33_below_r1 : List AI := [
  ⟨(some 7), none, .mov (.c (.int .i64 0))⟩]
@[go_sem] def scriptingref33_below_r2 : List AI := [
  ⟨(some 8), none, .mov (.t 7)⟩,
  ⟨(some 9), none, .mov (.t 0)⟩,
  ⟨(some 10), none, .len 0 (.t 9)⟩,
  ⟨(some 11), none, .bin .lss (.t 8) (.t 10)⟩]
@[go_sem] def scriptingref33_below_r3 : List AI := [
  ⟨(some 14), none, .mov (.t 0)⟩,
  ⟨(some 15), none, .mov (.t 7)⟩,
  ⟨(some 16), none, .iaddr 1 (.t 14) (.t 15)⟩,
  ⟨(some 17), none, .load 1 false (.t 16)⟩,
  ⟨(some 18), none, .mov (.t 2)⟩,
  ⟨(some 19), none, .bin .geq (.t 17) (.t 18)⟩]
@[go_sem] def scriptingref33_below_r4 : List AI := [
  ⟨(some 6), none, .mov (.c (.bool false))⟩]
@[go_sem] def scriptingref33_below_r5 : List AI := [
  ⟨(some 12), none, .mov (.t 7)⟩,
  ⟨(some 13), none, .bin .add (.t 12) (.c (.int .i64 1))⟩,
  ⟨(some 7), none, .mov (.t 13)⟩]
def scriptingref33_below_l0 : AC := .seq (.seq (.ops [scriptingref33_below_r2]) (.cond (.t 11) (.skip) (.exit 0))) (.seq (.block 1 (.seq (.ops [scriptingref33_below_r3]) (.cond (.t 19) (.seq (.ops [scriptingref33_below_r4]) (.ret)) (.skip)))) (.ops [scriptingref33_below_r5]))
theorem scriptingref33_below_l0_eq : scriptingref33_below_l0 = .seq (.seq (.ops [scriptingref33_below_r2]) (.cond (.t 11) (.skip) (.exit 0))) (.seq (.block 1 (.seq (.ops [scriptingref33_below_r3]) (.cond (.t 19) (.seq (.ops [scriptingref33_below_r4]) (.ret)) (.skip)))) (.ops [scriptingref33_below_r5])) := rfl
@[go_sem] def scriptingref33_below_r6 : List AI := [
  ⟨(some 20), none, .mov (.t 1)⟩,
  ⟨(some 21), none, .mov (.t 2)⟩,
  ⟨(some 22), none, .bin .leq (.t 20) (.t 21)⟩,
  ⟨(some 6), none, .mov (.t 22)⟩]
@[go_sem] def scriptingref33_below_c : AC := .seq (.ops [scriptingref33_below_r0]) (.seq (.seq (.ops [scriptingref33_below_r1]) (.block 0 (.loop scriptingref33_below_l0))) (.seq (.ops [scriptingref33_below_r6]) (.ret)))
theorem scriptingref33_below_ok : compF Tryz.prog 49 = some (23, scriptingref33_below_c, [.t 6]) := by kernel_rfl

@[go_sem] def scriptingref32_Target_r0 : List AI := [
  ⟨(some 1), none, .box 500001 5 (.t 0)⟩,
  ⟨(some 2), none, .mov (.c (.int .i64 0))⟩,
  ⟨(some 3), none, .mov (.c (.bool false))⟩]
@[go_sem] def scriptingref32_Target_r1 : List AI := [
  ⟨(some 4), none, .faddr 0 (.t 1)⟩,
  ⟨(some 5), none, .load 1 false (.t 4)⟩]
@[go_sem] def scriptingref32_Target_r2 : List AI := [
  ⟨(some 7), none, .bin .eql (.t 5) (.c (.int .i64 14))⟩,
  ⟨(some 6), none, .mov (.t 7)⟩]
@[go_sem] def scriptingref32_Target_r3 : List AI := [
  ⟨(some 8), none, .bin .eql (.t 5) (.c (.int .i64 15))⟩,
  ⟨(some 6), none, .mov (.t 8)⟩]
@[go_sem] def scriptingref32_Target_r4 : List AI := [
  ⟨(some 9), none, .bin .eql (.t 5) (.c (.int .i64 23))⟩,
  ⟨(some 6), none, .mov (.t 9)⟩]
@[go_sem] def scriptingref32_Target_r5 : List AI := [
  ⟨(some 10), none, .bin .eql (.t 5) (.c (.int .i64 24))⟩,
  ⟨(some 6), none, .mov (.t 10)⟩]
@[go_sem] def scriptingref32_Target_r6 : List AI := [
  ⟨(some 11), none, .bin .eql (.t 5) (.c (.int .i64 26))⟩,
  ⟨(some 6), none, .mov (.t 11)⟩]
@[go_sem] def scriptingref32_Target_r7 : List AI := [
  ⟨(some 12), none, .faddr 2 (.t 1)⟩,
  ⟨(some 13), none, .load 1 false (.t 12)⟩,
  ⟨(some 2), none, .mov (.t 13)⟩,
  ⟨(some 3), none, .mov (.c (.bool true))⟩]
@[go_sem] def scriptingref32_Target_r8 : List AI := [
  ⟨(some 2), none, .mov (.c (.int .i64 0))⟩,
  ⟨(some 3), none, .mov (.c (.bool false))⟩]
@[go_sem] def scriptingref32_Target_c : AC := .seq (.ops [scriptingref32_Target_r0]) (.seq (.seq (.ops [scriptingref32_Target_r1]) (.block 0 (.seq (.seq (.ops [scriptingref32_Target_r2]) (.cond (.t 6) (.skip) (.seq (.ops [scriptingref32_Target_r3]) (.cond (.t 6) (.skip) (.seq (.ops [scriptingref32_Target_r4]) (.cond (.t 6) (.skip) (.seq (.ops [scriptingref32_Target_r5]) (.cond (.t 6) (.skip) (.ops [scriptingref32_Target_r6]))))))))) (.cond (.t 6) (.seq (.ops [scriptingref32_Target_r7]) (.ret)) (.skip))))) (.seq (.ops [scriptingref32_Target_r8]) (.ret)))
theorem scriptingref32_Target_ok : compF Tryz.prog 50 = some (14, scriptingref32_Target_c, [.t 2, .t 3]) := by kernel_rfl

@[go_sem] def scriptingref33_refers_r0 : List AI := [
  ⟨(some 2), none, .box 510002 11 (.t 0)⟩,
  ⟨(some 3), none, .box 510003 5 (.t 1)⟩,
  ⟨(some 4), none, .mov (.c (.bool false))⟩]
@[go_sem] def scriptingref33_refers_r1 : List AI := [
  ⟨(some 5), none, .faddr 0 (.t 3)⟩,
  ⟨(some 6), none, .load 1 false (.t 5)⟩]
@[go_sem] def scriptingref33_refers_r2 : List AI := [
  ⟨(some 8), none, .bin .eql (.t 6) (.c (.int .i64 2))⟩,
  ⟨(some 7), none, .mov (.t 8)⟩]
@[go_sem] def scriptingref33_refers_r3 : List AI := [
  ⟨(some 9), none, .faddr 2 (.t 3)⟩,
  ⟨(some 10), none, .load 1 false (.t 9)⟩,
  ⟨(some 11), none, .faddr 7 (.t 2)⟩,
  ⟨(some 12), none, .load 1 false (.t 11)⟩,
  ⟨(some 13), none, .len 0 (.t 12)⟩,
  ⟨(some 14), none, .bin .lss (.t 10) (.t 13)⟩,
  ⟨(some 4), none, .mov (.t 14)⟩]
@[go_sem] def scriptingref33_refers_r4 : List AI := [
  ⟨(some 16), none, .bin .eql (.t 6) (.c (.int .i64 5))⟩,
  ⟨(some 15), none, .mov (.t 16)⟩]
@[go_sem] def scriptingref33_refers_r5 : List AI := [
  ⟨(some 17), none, .faddr 2 (.t 3)⟩,
  ⟨(some 18), none, .load 1 false (.t 17)⟩,
  ⟨(some 19), none, .faddr 9 (.t 2)⟩,
  ⟨(some 20), none, .load 1 false (.t 19)⟩,
  ⟨(some 21), none, .len 0 (.t 20)⟩,
  ⟨(some 22), none, .bin .lss (.t 18) (.t 21)⟩,
  ⟨(some 4), none, .mov (.t 22)⟩]
@[go_sem] def scriptingref33_refers_r6 : List AI := [
  ⟨(some 24), none, .bin .eql (.t 6) (.c (.int .i64 6))⟩,
  ⟨(some 23), none, .mov (.t 24)⟩]
@[go_sem] def scriptingref33_refers_r7 : List AI := [
  ⟨(some 25), none, .faddr 1 (.t 3)⟩,
  ⟨(some 26), none, .load 1 false (.t 25)⟩,
  ⟨(some 27), none, .faddr 9 (.t 2)⟩,
  ⟨(some 28), none, .load 1 false (.t 27)⟩,
  ⟨(some 29), none, .len 0 (.t 28)⟩,
  ⟨(some 30), none, .bin .lss (.t 26) (.t 29)⟩,
  ⟨(some 4), none, .mov (.t 30)⟩]
@[go_sem] def scriptingref33_refers_r8 : List AI := [
  ⟨(some 32), none, .bin .eql (.t 6) (.c (.int .i64 7))⟩,
  ⟨(some 31), none, .mov (.t 32)⟩]
@[go_sem] def scriptingref33_refers_r9 : List AI := [
  ⟨(some 33), none, .load 11 true (.t 2)⟩,
  ⟨(some 34), none, .faddr 2 (.t 3)⟩,
  ⟨(some 35), none, .load 1 false (.t 34)⟩,
  ⟨(some 36), none, .call 71 [(.t 33), (.t 35)]⟩,
  ⟨(some 4), none, .mov (.t 36)⟩]
@[go_sem] def scriptingref33_refers_r10 : List AI := [
  ⟨(some 38), none, .bin .eql (.t 6) (.c (.int .i64 8))⟩,
  ⟨(some 37), none, .mov (.t 38)⟩]
@[go_sem] def scriptingref33_refers_r11 : List AI := [
  ⟨(some 39), none, .load 11 true (.t 2)⟩,
  ⟨(some 40), none, .faddr 1 (.t 3)⟩,
  ⟨(some 41), none, .load 1 false (.t 40)⟩,
  ⟨(some 42), none, .call 71 [(.t 39), (.t 41)]⟩,
  ⟨(some 4), none, .mov (.t 42)⟩]
@[go_sem] def scriptingref33_refers_r12 : List AI := [
  ⟨(some 44), none, .bin .eql (.t 6) (.c (.int .i64 11))⟩,
  ⟨(some 43), none, .mov (.t 44)⟩]
@[go_sem] def scriptingref33_refers_r13 : List AI := [
  ⟨(some 45), none, .load 11 true (.t 2)⟩,
  ⟨(some 46), none, .faddr 3 (.t 3)⟩,
  ⟨(some 47), none, .load 1 false (.t 46)⟩,
  ⟨(some 48), none, .call 71 [(.t 45), (.t 47)]⟩,
  ⟨(some 4), none, .mov (.t 48)⟩]
@[go_sem] def scriptingref33_refers_r14 : List AI := [
  ⟨(some 50), none, .bin .eql (.t 6) (.c (.int .i64 22))⟩,
  ⟨(some 49), none, .mov (.t 50)⟩]
@[go_sem] def scriptingref33_refers_r15 : List AI := [
  ⟨(some 51), none, .faddr 2 (.t 3)⟩,
  ⟨(some 52), none, .load 1 false (.t 51)⟩,
  ⟨(some 53), none, .faddr 8 (.t 2)⟩,
  ⟨(some 54), none, .load 1 false (.t 53)⟩,
  ⟨(some 55), none, .len 0 (.t 54)⟩,
  ⟨(some 56), none, .bin .lss (.t 52) (.t 55)⟩,
  ⟨(some 4), none, .mov (.t 56)⟩]
@[go_sem] def scriptingref33_refers_r16 : List AI := [
  ⟨(some 58), none, .bin .eql (.t 6) (.c (.int .i64 19))⟩,
  ⟨(some 57), none, .mov (.t 58)⟩]
@[go_sem] def scriptingref33_refers_r17 : List AI := [
  ⟨(some 59), none, .faddr 3 (.t 2)⟩,
  ⟨(some 60), none, .load 1 false (.t 59)⟩,
  ⟨(some 4), none, .mov (.t 60)⟩]
@[go_sem] def scriptingref33_refers_r18 : List AI := [
  ⟨(some 4), none, .mov (.c (.bool true))⟩]
@[go_sem] def scriptingref33_refers_c : AC := .seq (.ops [scriptingref33_refers_r0]) (.seq (.seq (.ops [scriptingref33_refers_r1]) (.block 0 (.seq (.ops [scriptingref33_refers_r2]) (.cond (.t 7) (.seq (.ops [scriptingref33_refers_r3]) (.ret)) (.seq (.ops [scriptingref33_refers_r4]) (.cond (.t 15) (.seq (.ops [scriptingref33_refers_r5]) (.ret)) (.seq (.ops [scriptingref33_refers_r6]) (.cond (.t 23) (.seq (.ops [scriptingref33_refers_r7]) (.ret)) (.seq (.ops [scriptingref33_refers_r8]) (.cond (.t 31) (.seq (.ops [scriptingref33_refers_r9]) (.ret)) (.seq (.ops [scriptingref33_refers_r10]) (.cond (.t 37) (.seq (.ops [scriptingref33_refers_r11]) (.ret)) (.seq (.ops [scriptingref33_refers_r12]) (.cond (.t 43) (.seq (.ops [scriptingref33_refers_r13]) (.ret)) (.seq (.ops [scriptingref33_refers_r14]) (.cond (.t 49) (.seq (.ops [scriptingref33_refers_r15]) (.ret)) (.seq (.ops [scriptingref33_refers_r16]) (.cond (.t 57) (.seq (.ops [scriptingref33_refers_r17]) (.ret)) (.skip))))))))))))))))))) (.seq (.ops [scriptingref33_refers_r18]) (.ret)))
theorem scriptingref33_refers_ok : compF Tryz.prog 51 = some (61, scriptingref33_refers_c, [.t 4]) := by kernel_rfl

@[go_sem] def slices_IndexFunc_api_Up_api_Up_r0 : List AI := [
  ⟨(some 4), none, .mov (.c (.int .i64 0))⟩]
@[go_sem] def slices_IndexFunc_api_Up_api_Up_r1 : List AI := [
  ⟨(some 6), none, .mov (.t 0)⟩,
  ⟨(some 7), none, .len 0 (.t 6)⟩,
  ⟨(some 8), none, .mov (.c (.int .i64 0))⟩]
@[go_sem] def slices_IndexFunc_api_Up_api_Up_r2 : List AI := [
  ⟨(some 9), none, .bin .lss (.t 8) (.t 7)⟩]
@[go_sem] def slices_IndexFunc_api_Up_api_Up_r3 : List AI := [
  ⟨(some 10), none, .mov (.t 8)⟩,
  ⟨(some 5), none, .mov (.t 10)⟩]
@[go_sem] def slices_IndexFunc_api_Up_api_Up_r4 : List AI := [
  ⟨(some 11), none, .mov (.t 1)⟩,
  ⟨(some 12), none, .mov (.t 0)⟩,
  ⟨(some 13), none, .mov (.t 5)⟩,
  ⟨(some 14), none, .iaddr 3 (.t 12) (.t 13)⟩,
  ⟨(some 15), none, .load 3 true (.t 14)⟩,
  ⟨(some 16), none, .callv (.t 11) [(.t 15)]⟩]
@[go_sem] def slices_IndexFunc_api_Up_api_Up_r5 : List AI := [
  ⟨(some 17), none, .mov (.t 5)⟩,
  ⟨(some 4), none, .mov (.t 17)⟩]
@[go_sem] def slices_IndexFunc_api_Up_api_Up_r6 : List AI := [
  ⟨(some 18), none, .bin .add (.t 8) (.c (.int .i64 1))⟩,
  ⟨(some 8), none, .mov (.t 18)⟩]
def slices_IndexFunc_api_Up_api_Up_l0 : AC := .seq (.ops [slices_IndexFunc_api_Up_api_Up_r2]) (.seq (.cond (.t 9) (.skip) (.exit 0)) (.seq (.block 1 (.seq (.ops [slices_IndexFunc_api_Up_api_Up_r3]) (.seq (.ops [slices_IndexFunc_api_Up_api_Up_r4]) (.cond (.t 16) (.seq (.ops [slices_IndexFunc_api_Up_api_Up_r5]) (.ret)) (.skip))))) (.ops [slices_IndexFunc_api_Up_api_Up_r6])))
theorem slices_IndexFunc_api_Up_api_Up_l0_eq : slices_IndexFunc_api_Up_api_Up_l0 = .seq (.ops [slices_IndexFunc_api_Up_api_Up_r2]) (.seq (.cond (.t 9) (.skip) (.exit 0)) (.seq (.block 1 (.seq (.ops [slices_IndexFunc_api_Up_api_Up_r3]) (.seq (.ops [slices_IndexFunc_api_Up_api_Up_r4]) (.cond (.t 16) (.seq (.ops [slices_IndexFunc_api_Up_api_Up_r5]) (.ret)) (.skip))))) (.ops [slices_IndexFunc_api_Up_api_Up_r6]))) := rfl
@[go_sem] def slices_IndexFunc_api_Up_api_Up_r7 : List AI := [
  ⟨(some 4), none, .mov (.c (.int .i64 (-1)))⟩]
@[go_sem] def slices_IndexFunc_api_Up_api_Up_c : AC := .seq (.ops [slices_IndexFunc_api_Up_api_Up_r0]) (.seq (.seq (.ops [slices_IndexFunc_api_Up_api_Up_r1]) (.block 0 (.loop slices_IndexFunc_api_Up_api_Up_l0))) (.seq (.ops [slices_IndexFunc_api_Up_api_Up_r7]) (.ret)))
theorem slices_IndexFunc_api_Up_api_Up_ok : compF Tryz.prog 52 = some (19, slices_IndexFunc_api_Up_api_Up_c, [.t 4]) := by kernel_rfl

@[go_sem] def slices_IndexFunc_api_Var_api_Var_r0 : List AI := [
  ⟨(some 4), none, .mov (.c (.int .i64 0))⟩]
@[go_sem] def slices_IndexFunc_api_Var_api_Var_r1 : List AI := [
  ⟨(some 6), none, .mov (.t 0)⟩,
  ⟨(some 7), none, .len 0 (.t 6)⟩,
  ⟨(some 8), none, .mov (.c (.int .i64 0))⟩]
@[go_sem] def slices_IndexFunc_api_Var_api_Var_r2 : List AI := [
  ⟨(some 9), none, .bin .lss (.t 8) (.t 7)⟩]
@[go_sem] def slices_IndexFunc_api_Var_api_Var_r3 : List AI := [
  ⟨(some 10), none, .mov (.t 8)⟩,
  ⟨(some 5), none, .mov (.t 10)⟩]
@[go_sem] def slices_IndexFunc_api_Var_api_Var_r4 : List AI := [
  ⟨(some 11), none, .mov (.t 1)⟩,
  ⟨(some 12), none, .mov (.t 0)⟩,
  ⟨(some 13), none, .mov (.t 5)⟩,
  ⟨(some 14), none, .iaddr 5 (.t 12) (.t 13)⟩,
  ⟨(some 15), none, .load 5 true (.t 14)⟩,
  ⟨(some 16), none, .callv (.t 11) [(.t 15)]⟩]
@[go_sem] def slices_IndexFunc_api_Var_api_Var_r5 : List AI := [
  ⟨(some 17), none, .mov (.t 5)⟩,
  ⟨(some 4), none, .mov (.t 17)⟩]
@[go_sem] def slices_IndexFunc_api_Var_api_Var_r6 : List AI := [
  ⟨(some 18), none, .bin .add (.t 8) (.c (.int .i64 1))⟩,
  ⟨(some 8), none, .mov (.t 18)⟩]
def slices_IndexFunc_api_Var_api_Var_l0 : AC := .seq (.ops [slices_IndexFunc_api_Var_api_Var_r2]) (.seq (.cond (.t 9) (.skip) (.exit 0)) (.seq (.block 1 (.seq (.ops [slices_IndexFunc_api_Var_api_Var_r3]) (.seq (.ops [slices_IndexFunc_api_Var_api_Var_r4]) (.cond (.t 16) (.seq (.ops [slices_IndexFunc_api_Var_api_Var_r5]) (.ret)) (.skip))))) (.ops [slices_IndexFunc_api_Var_api_Var_r6])))
theorem slices_IndexFunc_api_Var_api_Var_l0_eq : slices_IndexFunc_api_Var_api_Var_l0 = .seq (.ops [slices_IndexFunc_api_Var_api_Var_r2]) (.seq (.cond (.t 9) (.skip) (.exit 0)) (.seq (.block 1 (.seq (.ops [slices_IndexFunc_api_Var_api_Var_r3]) (.seq (.ops [slices_IndexFunc_api_Var_api_Var_r4]) (.cond (.t 16) (.seq (.ops [slices_IndexFunc_api_Var_api_Var_r5]) (.ret)) (.skip))))) (.ops [slices_IndexFunc_api_Var_api_Var_r6]))) := rfl
@[go_sem] def slices_IndexFunc_api_Var_api_Var_r7 : List AI := [
  ⟨(some 4), none, .mov (.c (.int .i64 (-1)))⟩]
@[go_sem] def slices_IndexFunc_api_Var_api_Var_c : AC := .seq (.ops [slices_IndexFunc_api_Var_api_Var_r0]) (.seq (.seq (.ops [slices_IndexFunc_api_Var_api_Var_r1]) (.block 0 (.loop slices_IndexFunc_api_Var_api_Var_l0))) (.seq (.ops [slices_IndexFunc_api_Var_api_Var_r7]) (.ret)))
theorem slices_IndexFunc_api_Var_api_Var_ok : compF Tryz.prog 53 = some (19, slices_IndexFunc_api_Var_api_Var_c, [.t 4]) := by kernel_rfl

@[go_sem] def slices_IndexFunc_int_int_r0 : List AI := [
  ⟨(some 4), none, .mov (.c (.int .i64 0))⟩]
@[go_sem] def slices_IndexFunc_int_int_r1 : List AI := [
  ⟨(some 6), none, .mov (.t 0)⟩,
  ⟨(some 7), none, .len 0 (.t 6)⟩,
  ⟨(some 8), none, .mov (.c (.int .i64 0))⟩]
@[go_sem] def slices_IndexFunc_int_int_r2 : List AI := [
  ⟨(some 9), none, .bin .lss (.t 8) (.t 7)⟩]
@[go_sem] def slices_IndexFunc_int_int_r3 : List AI := [
  ⟨(some 10), none, .mov (.t 8)⟩,
  ⟨(some 5), none, .mov (.t 10)⟩]
@[go_sem] def slices_IndexFunc_int_int_r4 : List AI := [
  ⟨(some 11), none, .mov (.t 1)⟩,
  ⟨(some 12), none, .mov (.t 0)⟩,
  ⟨(some 13), none, .mov (.t 5)⟩,
  ⟨(some 14), none, .iaddr 1 (.t 12) (.t 13)⟩,
  ⟨(some 15), none, .load 1 false (.t 14)⟩,
  ⟨(some 16), none, .callv (.t 11) [(.t 15)]⟩]
@[go_sem] def slices_IndexFunc_int_int_r5 : List AI := [
  ⟨(some 17), none, .mov (.t 5)⟩,
  ⟨(some 4), none, .mov (.t 17)⟩]
@[go_sem] def slices_IndexFunc_int_int_r6 : List AI := [
  ⟨(some 18), none, .bin .add (.t 8) (.c (.int .i64 1))⟩,
  ⟨(some 8), none, .mov (.t 18)⟩]
def slices_IndexFunc_int_int_l0 : AC := .seq (.ops [slices_IndexFunc_int_int_r2]) (.seq (.cond (.t 9) (.skip) (.exit 0)) (.seq (.block 1 (.seq (.ops [slices_IndexFunc_int_int_r3]) (.seq (.ops [slices_IndexFunc_int_int_r4]) (.cond (.t 16) (.seq (.ops [slices_IndexFunc_int_int_r5]) (.ret)) (.skip))))) (.ops [slices_IndexFunc_int_int_r6])))
theorem slices_IndexFunc_int_int_l0_eq : slices_IndexFunc_int_int_l0 = .seq (.ops [slices_IndexFunc_int_int_r2]) (.seq (.cond (.t 9) (.skip) (.exit 0)) (.seq (.block 1 (.seq (.ops [slices_IndexFunc_int_int_r3]) (.seq (.ops [slices_IndexFunc_int_int_r4]) (.cond (.t 16) (.seq (.ops [slices_IndexFunc_int_int_r5]) (.ret)) (.skip))))) (.ops [slices_IndexFunc_int_int_r6]))) := rfl
@[go_sem] def slices_IndexFunc_int_int_r7 : List AI := [
  ⟨(some 4), none, .mov (.c (.int .i64 (-1)))⟩]
@[go_sem] def slices_IndexFunc_int_int_c : AC := .seq (.ops [slices_IndexFunc_int_int_r0]) (.seq (.seq (.ops [slices_IndexFunc_int_int_r1]) (.block 0 (.loop slices_IndexFunc_int_int_l0))) (.seq (.ops [slices_IndexFunc_int_int_r7]) (.ret)))
theorem slices_IndexFunc_int_int_ok : compF Tryz.prog 54 = some (19, slices_IndexFunc_int_int_c, [.t 4]) := by kernel_rfl

@[go_sem] def rational_Valid_r0 : List AI := [
  ⟨(some 1), none, .box 550001 2 (.t 0)⟩,
  ⟨(some 2), none, .mov (.c (.bool false))⟩]
@[go_sem] def rational_Valid_r1 : List AI := [
  ⟨(some 3), none, .faddr 1 (.t 1)⟩,
  ⟨(some 4), none, .load 1 false (.t 3)⟩,
  ⟨(some 5), none, .bin .geq (.t 4) (.c (.int .i64 1))⟩,
  ⟨(some 6), none, .mov (.t 5)⟩,
  ⟨(some 7), (some (6, true)), .faddr 1 (.t 1)⟩,
  ⟨(some 8), (some (6, true)), .load 1 false (.t 7)⟩,
  ⟨(some 9), (some (6, true)), .bin .leq (.t 8) (.c (.int .i64 2147483647))⟩,
  ⟨(some 10), none, .pick (.t 6) (.t 9) (.c (.bool false))⟩,
  ⟨(some 11), none, .mov (.t 10)⟩,
  ⟨(some 12), (some (11, true)), .faddr 0 (.t 1)⟩,
  ⟨(some 13), (some (11, true)), .load 1 false (.t 12)⟩,
  ⟨(some 14), (some (11, true)), .bin .geq (.t 13) (.c (.int .i64 (-2147483647)))⟩,
  ⟨(some 15), none, .pick (.t 11) (.t 14) (.c (.bool false))⟩,
  ⟨(some 16), none, .mov (.t 15)⟩,
  ⟨(some 17), (some (16, true)), .faddr 0 (.t 1)⟩,
  ⟨(some 18), (some (16, true)), .load 1 false (.t 17)⟩,
  ⟨(some 19), (some (16, true)), .bin .leq (.t 18) (.c (.int .i64 2147483647))⟩,
  ⟨(some 20), none, .pick (.t 16) (.t 19) (.c (.bool false))⟩,
  ⟨(some 21), none, .mov (.t 20)⟩,
  ⟨(some 22), (some (21, true)), .faddr 0 (.t 1)⟩,
  ⟨(some 23), (some (21, true)), .load 1 false (.t 22)⟩,
  ⟨(some 24), (some (21, true)), .faddr 0 (.t 1)⟩,
  ⟨(some 25), (some (21, true)), .load 1 false (.t 24)⟩,
  ⟨(some 26), (some (21, true)), .un .neg (.t 25)⟩,
  ⟨(some 27), (some (21, true)), .mm true [(.t 23), (.t 26)]⟩,
  ⟨(some 28), (some (21, true)), .faddr 1 (.t 1)⟩,
  ⟨(some 29), (some (21, true)), .load 1 false (.t 28)⟩,
  ⟨(some 30), (some (21, true)), .call 72 [(.t 27), (.t 29)]⟩,
  ⟨(some 31), (some (21, true)), .bin .eql (.t 30) (.c (.int .i64 1))⟩,
  ⟨(some 32), none, .pick (.t 21) (.t 31) (.c (.bool false))⟩,
  ⟨(some 2), none, .mov (.t 32)⟩]
@[go_sem] def rational_Valid_c : AC := .seq (.ops [rational_Valid_r0]) (.seq (.ops [rational_Valid_r1]) (.ret))
theorem rational_Valid_ok : compF Tryz.prog 55 = some (33, rational_Valid_c, [.t 2]) := by kernel_rfl

@[go_sem] def opcode_of_r0 : List AI := [
  ⟨(some 2), none, .box 560002 6 (.c (.agg [(.str []), (.int .i64 0), (.int .i64 0), (.int .i64 0), (.int .i64 0), (.int .i64 0)]))⟩,
  ⟨(some 3), none, .mov (.c (.bool false))⟩]
@[go_sem] def opcode_of_r1 : List AI := [
  ⟨(some 6), none, .call 73 [(.c (.str [109, 111, 118, 101, 32, 99, 111, 110, 115, 116, 32, 110, 105, 108, 32, 98, 111, 111, 108, 32, 117, 112, 103, 101, 116, 32, 117, 112, 115, 101, 116, 32, 103, 108, 111, 98, 97, 108, 32, 115, 101, 116, 103, 108, 111, 98, 32, 103, 101, 116, 32, 115, 101, 116, 32, 115, 101, 108, 102, 32, 117, 110, 97, 114, 121, 32, 98, 105, 110, 97, 114, 121, 32, 106, 117, 109, 112, 32, 116, 101, 115, 116, 32, 99, 97, 108, 108, 32, 116, 97, 105, 108, 32, 114, 101, 116, 117, 114, 110, 32, 118, 97, 114, 97, 114, 103, 32, 116, 97, 98, 108, 101, 32, 97, 112, 112, 101, 110, 100, 32, 99, 108, 111, 115, 117, 114, 101, 32, 112, 114, 101, 112, 32, 108, 111, 111, 112, 32, 105, 116, 101, 114, 32, 110, 101, 120, 116, 32, 99, 108, 111, 115, 101, 32, 109, 97, 114, 107, 32, 115, 116, 97, 116]))]⟩,
  ⟨(some 4), none, .mov (.t 6)⟩]
@[go_sem] def opcode_of_r2 : List AI := [
  ⟨(some 7), none, .mov (.t 0)⟩,
  ⟨(some 8), none, .bin .lss (.t 7) (.c (.int .i64 1))⟩,
  ⟨(some 9), none, .mov (.t 8)⟩,
  ⟨(some 10), (some (9, false)), .mov (.t 0)⟩,
  ⟨(some 11), (some (9, false)), .mov (.t 4)⟩,
  ⟨(some 12), (some (9, false)), .len 0 (.t 11)⟩,
  ⟨(some 13), (some (9, false)), .bin .gtr (.t 10) (.t 12)⟩,
  ⟨(some 14), none, .pick (.t 9) (.c (.bool true)) (.t 13)⟩]
@[go_sem] def opcode_of_r3 : List AI := [
  ⟨(some 15), none, .build [(.str []), (.int .i64 0), (.int .i64 0), (.int .i64 0), (.int .i64 0), (.int .i64 0)] []⟩,
  ⟨none, none, .store 6 (.t 2) (.t 15)⟩,
  ⟨(some 3), none, .mov (.c (.bool false))⟩]
@[go_sem] def opcode_of_r4 : List AI := [
  ⟨(some 16), none, .mov (.t 0)⟩,
  ⟨(some 17), none, .call 74 [(.t 16)]⟩,
  ⟨(some 5), none, .box 560005 6 (.c (.agg [(.str []), (.int .i64 0), (.int .i64 0), (.int .i64 0), (.int .i64 0), (.int .i64 0)]))⟩,
  ⟨none, none, .store 6 (.t 5) (.t 17)⟩]
@[go_sem] def opcode_of_r5 : List AI := [
  ⟨(some 18), none, .mov (.t 4)⟩,
  ⟨(some 19), none, .mov (.t 0)⟩,
  ⟨(some 20), none, .bin .sub (.t 19) (.c (.int .i64 1))⟩,
  ⟨(some 21), none, .iaddr 1 (.t 18) (.t 20)⟩,
  ⟨(some 22), none, .load 1 false (.t 21)⟩,
  ⟨(some 23), none, .faddr 0 (.t 5)⟩,
  ⟨none, none, .store 1 (.t 23) (.t 22)⟩]
@[go_sem] def opcode_of_r6 : List AI := [
  ⟨(some 24), none, .load 6 true (.t 5)⟩,
  ⟨none, none, .store 6 (.t 2) (.t 24)⟩,
  ⟨(some 3), none, .mov (.c (.bool true))⟩]
@[go_sem] def opcode_of_c : AC := .seq (.ops [opcode_of_r0]) (.seq (.ops [opcode_of_r1]) (.seq (.seq (.ops [opcode_of_r2]) (.cond (.t 14) (.seq (.ops [opcode_of_r3]) (.ret)) (.skip))) (.seq (.ops [opcode_of_r4]) (.seq (.ops [opcode_of_r5]) (.seq (.ops [opcode_of_r6]) (.ret))))))
theorem opcode_of_ok : compF Tryz.prog 56 = some (25, opcode_of_c, [.c 2 6 true, .t 3]) := by kernel_rfl

@[go_sem] def opcode_fields_r0 : List AI := [
  ⟨(some 2), none, .box 570002 6 (.t 0)⟩,
  ⟨(some 3), none, .box 570003 5 (.t 1)⟩,
  ⟨(some 4), none, .box 570004 4 (.c (.agg [(.int .i64 0), (.int .i64 0), (.int .i64 0), (.int .i64 0)]))⟩,
  ⟨(some 5), none, .box 570005 4 (.c (.agg [(.int .i64 0), (.int .i64 0), (.int .i64 0), (.int .i64 0)]))⟩]
@[go_sem] def opcode_fields_r1_0 : List AI := [
  ⟨(some 6), none, .faddr 1 (.t 2)⟩,
  ⟨(some 7), none, .load 1 false (.t 6)⟩,
  ⟨(some 8), none, .faddr 2 (.t 2)⟩,
  ⟨(some 9), none, .load 1 false (.t 8)⟩,
  ⟨(some 10), none, .faddr 3 (.t 2)⟩,
  ⟨(some 11), none, .load 1 false (.t 10)⟩,
  ⟨(some 12), none, .faddr 4 (.t 2)⟩,
  ⟨(some 13), none, .load 1 false (.t 12)⟩,
  ⟨(some 14), none, .build [(.int .i64 0), (.int .i64 0), (.int .i64 0), (.int .i64 0)] [(0, 1, (.t 7)), (1, 1, (.t 9)), (2, 1, (.t 11)), (3, 1, (.t 13))]⟩,
  ⟨(some 15), none, .faddr 1 (.t 3)⟩,
  ⟨(some 16), none, .load 1 false (.t 15)⟩,
  ⟨(some 17), none, .faddr 2 (.t 3)⟩,
  ⟨(some 18), none, .load 1 false (.t 17)⟩,
  ⟨(some 19), none, .faddr 3 (.t 3)⟩,
  ⟨(some 20), none, .load 1 false (.t 19)⟩,
  ⟨(some 21), none, .faddr 4 (.t 3)⟩,
  ⟨(some 22), none, .load 1 false (.t 21)⟩,
  ⟨(some 23), none, .build [(.int .i64 0), (.int .i64 0), (.int .i64 0), (.int .i64 0)] [(0, 1, (.t 16)), (1, 1, (.t 18)), (2, 1, (.t 20)), (3, 1, (.t 22))]⟩,
  ⟨none, none, .store 4 (.t 4) (.t 14)⟩,
  ⟨none, none, .store 4 (.t 5) (.t 23)⟩]
@[go_sem] def opcode_fields_r1_1 : List AI := [
  ⟨(some 6), none, .faddr 1 (.t 2)⟩,
  ⟨(some 7), none, .load 1 false (.t 6)⟩,
  ⟨(some 8), none, .faddr 2 (.t 2)⟩,
  ⟨(some 9), none, .load 1 false (.t 8)⟩,
  ⟨(some 10), none, .faddr 3 (.t 2)⟩,
  ⟨(some 11), none, .load 1 false (.t 10)⟩,
  ⟨(some 12), none, .faddr 4 (.t 2)⟩,
  ⟨(some 13), none, .load 1 false (.t 12)⟩,
  ⟨(some 14), none, .build [(.int .i64 0), (.int .i64 0), (.int .i64 0), (.int .i64 0)] [(0, 1, (.t 7)), (1, 1, (.t 9)), (2, 1, (.t 11)), (3, 1, (.t 13))]⟩,
  ⟨(some 15), none, .faddr 1 (.t 3)⟩,
  ⟨(some 16), none, .load 1 false (.t 15)⟩,
  ⟨(some 17), none, .faddr 2 (.t 3)⟩,
  ⟨(some 18), none, .load 1 false (.t 17)⟩,
  ⟨(some 19), none, .faddr 3 (.t 3)⟩,
  ⟨(some 20), none, .load 1 false (.t 19)⟩,
  ⟨(some 21), none, .faddr 4 (.t 3)⟩,
  ⟨none, none, .store 4 (.t 4) (.t 14)⟩,
  ⟨(some 22), none, .load 1 false (.t 21)⟩,
  ⟨(some 23), none, .build [(.int .i64 0), (.int .i64 0), (.int .i64 0), (.int .i64 0)] [(0, 1, (.t 16)), (1, 1, (.t 18)), (2, 1, (.t 20)), (3, 1, (.t 22))]⟩,
  ⟨none, none, .store 4 (.t 5) (.t 23)⟩]
@[go_sem] def opcode_fields_r1_2 : List AI := [
  ⟨(some 6), none, .faddr 1 (.t 2)⟩,
  ⟨(some 7), none, .load 1 false (.t 6)⟩,
  ⟨(some 8), none, .faddr 2 (.t 2)⟩,
  ⟨(some 9), none, .load 1 false (.t 8)⟩,
  ⟨(some 10), none, .faddr 3 (.t 2)⟩,
  ⟨(some 11), none, .load 1 false (.t 10)⟩,
  ⟨(some 12), none, .faddr 4 (.t 2)⟩,
  ⟨(some 13), none, .load 1 false (.t 12)⟩,
  ⟨(some 14), none, .build [(.int .i64 0), (.int .i64 0), (.int .i64 0), (.int .i64 0)] [(0, 1, (.t 7)), (1, 1, (.t 9)), (2, 1, (.t 11)), (3, 1, (.t 13))]⟩,
  ⟨(some 15), none, .faddr 1 (.t 3)⟩,
  ⟨(some 16), none, .load 1 false (.t 15)⟩,
  ⟨(some 17), none, .faddr 2 (.t 3)⟩,
  ⟨(some 18), none, .load 1 false (.t 17)⟩,
  ⟨(some 19), none, .faddr 3 (.t 3)⟩,
  ⟨(some 21), none, .faddr 4 (.t 3)⟩,
  ⟨(some 22), none, .load 1 false (.t 21)⟩,
  ⟨none, none, .store 4 (.t 4) (.t 14)⟩,
  ⟨(some 20), none, .load 1 false (.t 19)⟩,
  ⟨(some 23), none, .build [(.int .i64 0), (.int .i64 0), (.int .i64 0), (.int .i64 0)] [(0, 1, (.t 16)), (1, 1, (.t 18)), (2, 1, (.t 20)), (3, 1, (.t 22))]⟩,
  ⟨none, none, .store 4 (.t 5) (.t 23)⟩]
@[go_sem] def opcode_fields_r1_3 : List AI := [
  ⟨(some 6), none, .faddr 1 (.t 2)⟩,
  ⟨(some 7), none, .load 1 false (.t 6)⟩,
  ⟨(some 8), none, .faddr 2 (.t 2)⟩,
  ⟨(some 9), none, .load 1 false (.t 8)⟩,
  ⟨(some 10), none, .faddr 3 (.t 2)⟩,
  ⟨(some 11), none, .load 1 false (.t 10)⟩,
  ⟨(some 12), none, .faddr 4 (.t 2)⟩,
  ⟨(some 13), none, .load 1 false (.t 12)⟩,
  ⟨(some 14), none, .build [(.int .i64 0), (.int .i64 0), (.int .i64 0), (.int .i64 0)] [(0, 1, (.t 7)), (1, 1, (.t 9)), (2, 1, (.t 11)), (3, 1, (.t 13))]⟩,
  ⟨(some 15), none, .faddr 1 (.t 3)⟩,
  ⟨(some 16), none, .load 1 false (.t 15)⟩,
  ⟨(some 17), none, .faddr 2 (.t 3)⟩,
  ⟨(some 18), none, .load 1 false (.t 17)⟩,
  ⟨(some 19), none, .faddr 3 (.t 3)⟩,
  ⟨(some 21), none, .faddr 4 (.t 3)⟩,
  ⟨none, none, .store 4 (.t 4) (.t 14)⟩,
  ⟨(some 20), none, .load 1 false (.t 19)⟩,
  ⟨(some 22), none, .load 1 false (.t 21)⟩,
  ⟨(some 23), none, .build [(.int .i64 0), (.int .i64 0), (.int .i64 0), (.int .i64 0)] [(0, 1, (.t 16)), (1, 1, (.t 18)), (2, 1, (.t 20)), (3, 1, (.t 22))]⟩,
  ⟨none, none, .store 4 (.t 5) (.t 23)⟩]
@[go_sem] def opcode_fields_r1_4 : List AI := [
  ⟨(some 6), none, .faddr 1 (.t 2)⟩,
  ⟨(some 7), none, .load 1 false (.t 6)⟩,
  ⟨(some 8), none, .faddr 2 (.t 2)⟩,
  ⟨(some 9), none, .load 1 false (.t 8)⟩,
  ⟨(some 10), none, .faddr 3 (.t 2)⟩,
  ⟨(some 11), none, .load 1 false (.t 10)⟩,
  ⟨(some 12), none, .faddr 4 (.t 2)⟩,
  ⟨(some 13), none, .load 1 false (.t 12)⟩,
  ⟨(some 14), none, .build [(.int .i64 0), (.int .i64 0), (.int .i64 0), (.int .i64 0)] [(0, 1, (.t 7)), (1, 1, (.t 9)), (2, 1, (.t 11)), (3, 1, (.t 13))]⟩,
  ⟨(some 15), none, .faddr 1 (.t 3)⟩,
  ⟨(some 16), none, .load 1 false (.t 15)⟩,
  ⟨(some 17), none, .faddr 2 (.t 3)⟩,
  ⟨(some 19), none, .faddr 3 (.t 3)⟩,
  ⟨(some 20), none, .load 1 false (.t 19)⟩,
  ⟨(some 21), none, .faddr 4 (.t 3)⟩,
  ⟨(some 22), none, .load 1 false (.t 21)⟩,
  ⟨none, none, .store 4 (.t 4) (.t 14)⟩,
  ⟨(some 18), none, .load 1 false (.t 17)⟩,
  ⟨(some 23), none, .build [(.int .i64 0), (.int .i64 0), (.int .i64 0), (.int .i64 0)] [(0, 1, (.t 16)), (1, 1, (.t 18)), (2, 1, (.t 20)), (3, 1, (.t 22))]⟩,
  ⟨none, none, .store 4 (.t 5) (.t 23)⟩]
@[go_sem] def opcode_fields_r1_5 : List AI := [
  ⟨(some 6), none, .faddr 1 (.t 2)⟩,
  ⟨(some 7), none, .load 1 false (.t 6)⟩,
  ⟨(some 8), none, .faddr 2 (.t 2)⟩,
  ⟨(some 9), none, .load 1 false (.t 8)⟩,
  ⟨(some 10), none, .faddr 3 (.t 2)⟩,
  ⟨(some 11), none, .load 1 false (.t 10)⟩,
  ⟨(some 12), none, .faddr 4 (.t 2)⟩,
  ⟨(some 13), none, .load 1 false (.t 12)⟩,
  ⟨(some 14), none, .build [(.int .i64 0), (.int .i64 0), (.int .i64 0), (.int .i64 0)] [(0, 1, (.t 7)), (1, 1, (.t 9)), (2, 1, (.t 11)), (3, 1, (.t 13))]⟩,
  ⟨(some 15), none, .faddr 1 (.t 3)⟩,
  ⟨(some 16), none, .load 1 false (.t 15)⟩,
  ⟨(some 17), none, .faddr 2 (.t 3)⟩,
  ⟨(some 19), none, .faddr 3 (.t 3)⟩,
  ⟨(some 20), none, .load 1 false (.t 19)⟩,
  ⟨(some 21), none, .faddr 4 (.t 3)⟩,
  ⟨none, none, .store 4 (.t 4) (.t 14)⟩,
  ⟨(some 18), none, .load 1 false (.t 17)⟩,
  ⟨(some 22), none, .load 1 false (.t 21)⟩,
  ⟨(some 23), none, .build [(.int .i64 0), (.int .i64 0), (.int .i64 0), (.int .i64 0)] [(0, 1, (.t 16)), (1, 1, (.t 18)), (2, 1, (.t 20)), (3, 1, (.t 22))]⟩,
  ⟨none, none, .store 4 (.t 5) (.t 23)⟩]
@[go_sem] def opcode_fields_r1_6 : List AI := [
  ⟨(some 6), none, .faddr 1 (.t 2)⟩,
  ⟨(some 7), none, .load 1 false (.t 6)⟩,
  ⟨(some 8), none, .faddr 2 (.t 2)⟩,
  ⟨(some 9), none, .load 1 false (.t 8)⟩,
  ⟨(some 10), none, .faddr 3 (.t 2)⟩,
  ⟨(some 11), none, .load 1 false (.t 10)⟩,
  ⟨(some 12), none, .faddr 4 (.t 2)⟩,
  ⟨(some 13), none, .load 1 false (.t 12)⟩,
  ⟨(some 14), none, .build [(.int .i64 0), (.int .i64 0), (.int .i64 0), (.int .i64 0)] [(0, 1, (.t 7)), (1, 1, (.t 9)), (2, 1, (.t 11)), (3, 1, (.t 13))]⟩,
  ⟨(some 15), none, .faddr 1 (.t 3)⟩,
  ⟨(some 16), none, .load 1 false (.t 15)⟩,
  ⟨(some 17), none, .faddr 2 (.t 3)⟩,
  ⟨(some 19), none, .faddr 3 (.t 3)⟩,
  ⟨(some 21), none, .faddr 4 (.t 3)⟩,
  ⟨(some 22), none, .load 1 false (.t 21)⟩,
  ⟨none, none, .store 4 (.t 4) (.t 14)⟩,
  ⟨(some 18), none, .load 1 false (.t 17)⟩,
  ⟨(some 20), none, .load 1 false (.t 19)⟩,
  ⟨(some 23), none, .build [(.int .i64 0), (.int .i64 0), (.int .i64 0), (.int .i64 0)] [(0, 1, (.t 16)), (1, 1, (.t 18)), (2, 1, (.t 20)), (3, 1, (.t 22))]⟩,
  ⟨none, none, .store 4 (.t 5) (.t 23)⟩]
@[go_sem] def opcode_fields_r1_7 : List AI := [
  ⟨(some 6), none, .faddr 1 (.t 2)⟩,
  ⟨(some 7), none, .load 1 false (.t 6)⟩,
  ⟨(some 8), none, .faddr 2 (.t 2)⟩,
  ⟨(some 9), none, .load 1 false (.t 8)⟩,
  ⟨(some 10), none, .faddr 3 (.t 2)⟩,
  ⟨(some 11), none, .load 1 false (.t 10)⟩,
  ⟨(some 12), none, .faddr 4 (.t 2)⟩,
  ⟨(some 13), none, .load 1 false (.t 12)⟩,
  ⟨(some 14), none, .build [(.int .i64 0), (.int .i64 0), (.int .i64 0), (.int .i64 0)] [(0, 1, (.t 7)), (1, 1, (.t 9)), (2, 1, (.t 11)), (3, 1, (.t 13))]⟩,
  ⟨(some 15), none, .faddr 1 (.t 3)⟩,
  ⟨(some 16), none, .load 1 false (.t 15)⟩,
  ⟨(some 17), none, .faddr 2 (.t 3)⟩,
  ⟨(some 19), none, .faddr 3 (.t 3)⟩,
  ⟨(some 21), none, .faddr 4 (.t 3)⟩,
  ⟨none, none, .store 4 (.t 4) (.t 14)⟩,
  ⟨(some 18), none, .load 1 false (.t 17)⟩,
  ⟨(some 20), none, .load 1 false (.t 19)⟩,
  ⟨(some 22), none, .load 1 false (.t 21)⟩,
  ⟨(some 23), none, .build [(.int .i64 0), (.int .i64 0), (.int .i64 0), (.int .i64 0)] [(0, 1, (.t 16)), (1, 1, (.t 18)), (2, 1, (.t 20)), (3, 1, (.t 22))]⟩,
  ⟨none, none, .store 4 (.t 5) (.t 23)⟩]
@[go_sem] def opcode_fields_r1_8 : List AI := [
  ⟨(some 6), none, .faddr 1 (.t 2)⟩,
  ⟨(some 7), none, .load 1 false (.t 6)⟩,
  ⟨(some 8), none, .faddr 2 (.t 2)⟩,
  ⟨(some 9), none, .load 1 false (.t 8)⟩,
  ⟨(some 10), none, .faddr 3 (.t 2)⟩,
  ⟨(some 11), none, .load 1 false (.t 10)⟩,
  ⟨(some 12), none, .faddr 4 (.t 2)⟩,
  ⟨(some 13), none, .load 1 false (.t 12)⟩,
  ⟨(some 14), none, .build [(.int .i64 0), (.int .i64 0), (.int .i64 0), (.int .i64 0)] [(0, 1, (.t 7)), (1, 1, (.t 9)), (2, 1, (.t 11)), (3, 1, (.t 13))]⟩,
  ⟨(some 15), none, .faddr 1 (.t 3)⟩,
  ⟨(some 17), none, .faddr 2 (.t 3)⟩,
  ⟨(some 18), none, .load 1 false (.t 17)⟩,
  ⟨(some 19), none, .faddr 3 (.t 3)⟩,
  ⟨(some 20), none, .load 1 false (.t 19)⟩,
  ⟨(some 21), none, .faddr 4 (.t 3)⟩,
  ⟨(some 22), none, .load 1 false (.t 21)⟩,
  ⟨none, none, .store 4 (.t 4) (.t 14)⟩,
  ⟨(some 16), none, .load 1 false (.t 15)⟩,
  ⟨(some 23), none, .build [(.int .i64 0), (.int .i64 0), (.int .i64 0), (.int .i64 0)] [(0, 1, (.t 16)), (1, 1, (.t 18)), (2, 1, (.t 20)), (3, 1, (.t 22))]⟩,
  ⟨none, none, .store 4 (.t 5) (.t 23)⟩]
@[go_sem] def opcode_fields_r1_9 : List AI := [
  ⟨(some 6), none, .faddr 1 (.t 2)⟩,
  ⟨(some 7), none, .load 1 false (.t 6)⟩,
  ⟨(some 8), none, .faddr 2 (.t 2)⟩,
  ⟨(some 9), none, .load 1 false (.t 8)⟩,
  ⟨(some 10), none, .faddr 3 (.t 2)⟩,
  ⟨(some 11), none, .load 1 false (.t 10)⟩,
  ⟨(some 12), none, .faddr 4 (.t 2)⟩,
  ⟨(some 13), none, .load 1 false (.t 12)⟩,
  ⟨(some 14), none, .build [(.int .i64 0), (.int .i64 0), (.int .i64 0), (.int .i64 0)] [(0, 1, (.t 7)), (1, 1, (.t 9)), (2, 1, (.t 11)), (3, 1, (.t 13))]⟩,
  ⟨(some 15), none, .faddr 1 (.t 3)⟩,
  ⟨(some 17), none, .faddr 2 (.t 3)⟩,
  ⟨(some 18), none, .load 1 false (.t 17)⟩,
  ⟨(some 19), none, .faddr 3 (.t 3)⟩,
  ⟨(some 20), none, .load 1 false (.t 19)⟩,
  ⟨(some 21), none, .faddr 4 (.t 3)⟩,
  ⟨none, none, .store 4 (.t 4) (.t 14)⟩,
  ⟨(some 16), none, .load 1 false (.t 15)⟩,
  ⟨(some 22), none, .load 1 false (.t 21)⟩,
  ⟨(some 23), none, .build [(.int .i64 0), (.int .i64 0), (.int .i64 0), (.int .i64 0)] [(0, 1, (.t 16)), (1, 1, (.t 18)), (2, 1, (.t 20)), (3, 1, (.t 22))]⟩,
  ⟨none, none, .store 4 (.t 5) (.t 23)⟩]
@[go_sem] def opcode_fields_r1_10 : List AI := [
  ⟨(some 6), none, .faddr 1 (.t 2)⟩,
  ⟨(some 7), none, .load 1 false (.t 6)⟩,
  ⟨(some 8), none, .faddr 2 (.t 2)⟩,
  ⟨(some 9), none, .load 1 false (.t 8)⟩,
  ⟨(some 10), none, .faddr 3 (.t 2)⟩,
  ⟨(some 11), none, .load 1 false (.t 10)⟩,
  ⟨(some 12), none, .faddr 4 (.t 2)⟩,
  ⟨(some 13), none, .load 1 false (.t 12)⟩,
  ⟨(some 14), none, .build [(.int .i64 0), (.int .i64 0), (.int .i64 0), (.int .i64 0)] [(0, 1, (.t 7)), (1, 1, (.t 9)), (2, 1, (.t 11)), (3, 1, (.t 13))]⟩,
  ⟨(some 15), none, .faddr 1 (.t 3)⟩,
  ⟨(some 17), none, .faddr 2 (.t 3)⟩,
  ⟨(some 18), none, .load 1 false (.t 17)⟩,
  ⟨(some 19), none, .faddr 3 (.t 3)⟩,
  ⟨(some 21), none, .faddr 4 (.t 3)⟩,
  ⟨(some 22), none, .load 1 false (.t 21)⟩,
  ⟨none, none, .store 4 (.t 4) (.t 14)⟩,
  ⟨(some 16), none, .load 1 false (.t 15)⟩,
  ⟨(some 20), none, .load 1 false (.t 19)⟩,
  ⟨(some 23), none, .build [(.int .i64 0), (.int .i64 0), (.int .i64 0), (.int .i64 0)] [(0, 1, (.t 16)), (1, 1, (.t 18)), (2, 1, (.t 20)), (3, 1, (.t 22))]⟩,
  ⟨none, none, .store 4 (.t 5) (.t 23)⟩]
@[go_sem] def opcode_fields_r1_11 : List AI := [
  ⟨(some 6), none, .faddr 1 (.t 2)⟩,
  ⟨(some 7), none, .load 1 false (.t 6)⟩,
  ⟨(some 8), none, .faddr 2 (.t 2)⟩,
  ⟨(some 9), none, .load 1 false (.t 8)⟩,
  ⟨(some 10), none, .faddr 3 (.t 2)⟩,
  ⟨(some 11), none, .load 1 false (.t 10)⟩,
  ⟨(some 12), none, .faddr 4 (.t 2)⟩,
  ⟨(some 13), none, .load 1 false (.t 12)⟩,
  ⟨(some 14), none, .build [(.int .i64 0), (.int .i64 0), (.int .i64 0), (.int .i64 0)] [(0, 1, (.t 7)), (1, 1, (.t 9)), (2, 1, (.t 11)), (3, 1, (.t 13))]⟩,
  ⟨(some 15), none, .faddr 1 (.t 3)⟩,
  ⟨(some 17), none, .faddr 2 (.t 3)⟩,
  ⟨(some 18), none, .load 1 false (.t 17)⟩,
  ⟨(some 19), none, .faddr 3 (.t 3)⟩,
  ⟨(some 21), none, .faddr 4 (.t 3)⟩,
  ⟨none, none, .store 4 (.t 4) (.t 14)⟩,
  ⟨(some 16), none, .load 1 false (.t 15)⟩,
  ⟨(some 20), none, .load 1 false (.t 19)⟩,
  ⟨(some 22), none, .load 1 false (.t 21)⟩,
  ⟨(some 23), none, .build [(.int .i64 0), (.int .i64 0), (.int .i64 0), (.int .i64 0)] [(0, 1, (.t 16)), (1, 1, (.t 18)), (2, 1, (.t 20)), (3, 1, (.t 22))]⟩,
  ⟨none, none, .store 4 (.t 5) (.t 23)⟩]
@[go_sem] def opcode_fields_r1_12 : List AI := [
  ⟨(some 6), none, .faddr 1 (.t 2)⟩,
  ⟨(some 7), none, .load 1 false (.t 6)⟩,
  ⟨(some 8), none, .faddr 2 (.t 2)⟩,
  ⟨(some 9), none, .load 1 false (.t 8)⟩,
  ⟨(some 10), none, .faddr 3 (.t 2)⟩,
  ⟨(some 11), none, .load 1 false (.t 10)⟩,
  ⟨(some 12), none, .faddr 4 (.t 2)⟩,
  ⟨(some 13), none, .load 1 false (.t 12)⟩,
  ⟨(some 14), none, .build [(.int .i64 0), (.int .i64 0), (.int .i64 0), (.int .i64 0)] [(0, 1, (.t 7)), (1, 1, (.t 9)), (2, 1, (.t 11)), (3, 1, (.t 13))]⟩,
  ⟨(some 15), none, .faddr 1 (.t 3)⟩,
  ⟨(some 17), none, .faddr 2 (.t 3)⟩,
  ⟨(some 19), none, .faddr 3 (.t 3)⟩,
  ⟨(some 20), none, .load 1 false (.t 19)⟩,
  ⟨(some 21), none, .faddr 4 (.t 3)⟩,
  ⟨(some 22), none, .load 1 false (.t 21)⟩,
  ⟨none, none, .store 4 (.t 4) (.t 14)⟩,
  ⟨(some 16), none, .load 1 false (.t 15)⟩,
  ⟨(some 18), none, .load 1 false (.t 17)⟩,
  ⟨(some 23), none, .build [(.int .i64 0), (.int .i64 0), (.int .i64 0), (.int .i64 0)] [(0, 1, (.t 16)), (1, 1, (.t 18)), (2, 1, (.t 20)), (3, 1, (.t 22))]⟩,
  ⟨none, none, .store 4 (.t 5) (.t 23)⟩]
@[go_sem] def opcode_fields_r1_13 : List AI := [
  ⟨(some 6), none, .faddr 1 (.t 2)⟩,
  ⟨(some 7), none, .load 1 false (.t 6)⟩,
  ⟨(some 8), none, .faddr 2 (.t 2)⟩,
  ⟨(some 9), none, .load 1 false (.t 8)⟩,
  ⟨(some 10), none, .faddr 3 (.t 2)⟩,
  ⟨(some 11), none, .load 1 false (.t 10)⟩,
  ⟨(some 12), none, .faddr 4 (.t 2)⟩,
  ⟨(some 13), none, .load 1 false (.t 12)⟩,
  ⟨(some 14), none, .build [(.int .i64 0), (.int .i64 0), (.int .i64 0), (.int .i64 0)] [(0, 1, (.t 7)), (1, 1, (.t 9)), (2, 1, (.t 11)), (3, 1, (.t 13))]⟩,
  ⟨(some 15), none, .faddr 1 (.t 3)⟩,
  ⟨(some 17), none, .faddr 2 (.t 3)⟩,
  ⟨(some 19), none, .faddr 3 (.t 3)⟩,
  ⟨(some 20), none, .load 1 false (.t 19)⟩,
  ⟨(some 21), none, .faddr 4 (.t 3)⟩,
  ⟨none, none, .store 4 (.t 4) (.t 14)⟩,
  ⟨(some 16), none, .load 1 false (.t 15)⟩,
  ⟨(some 18), none, .load 1 false (.t 17)⟩,
  ⟨(some 22), none, .load 1 false (.t 21)⟩,
  ⟨(some 23), none, .build [(.int .i64 0), (.int .i64 0), (.int .i64 0), (.int .i64 0)] [(0, 1, (.t 16)), (1, 1, (.t 18)), (2, 1, (.t 20)), (3, 1, (.t 22))]⟩,
  ⟨none, none, .store 4 (.t 5) (.t 23)⟩]
@[go_sem] def opcode_fields_r1_14 : List AI := [
  ⟨(some 6), none, .faddr 1 (.t 2)⟩,
  ⟨(some 7), none, .load 1 false (.t 6)⟩,
  ⟨(some 8), none, .faddr 2 (.t 2)⟩,
  ⟨(some 9), none, .load 1 false (.t 8)⟩,
  ⟨(some 10), none, .faddr 3 (.t 2)⟩,
  ⟨(some 11), none, .load 1 false (.t 10)⟩,
  ⟨(some 12), none, .faddr 4 (.t 2)⟩,
  ⟨(some 13), none, .load 1 false (.t 12)⟩,
  ⟨(some 14), none, .build [(.int .i64 0), (.int .i64 0), (.int .i64 0), (.int .i64 0)] [(0, 1, (.t 7)), (1, 1, (.t 9)), (2, 1, (.t 11)), (3, 1, (.t 13))]⟩,
  ⟨(some 15), none, .faddr 1 (.t 3)⟩,
  ⟨(some 17), none, .faddr 2 (.t 3)⟩,
  ⟨(some 19), none, .faddr 3 (.t 3)⟩,
  ⟨(some 21), none, .faddr 4 (.t 3)⟩,
  ⟨(some 22), none, .load 1 false (.t 21)⟩,
  ⟨none, none, .store 4 (.t 4) (.t 14)⟩,
  ⟨(some 16), none, .load 1 false (.t 15)⟩,
  ⟨(some 18), none, .load 1 false (.t 17)⟩,
  ⟨(some 20), none, .load 1 false (.t 19)⟩,
  ⟨(some 23), none, .build [(.int .i64 0), (.int .i64 0), (.int .i64 0), (.int .i64 0)] [(0, 1, (.t 16)), (1, 1, (.t 18)), (2, 1, (.t 20)), (3, 1, (.t 22))]⟩,
  ⟨none, none, .store 4 (.t 5) (.t 23)⟩]
@[go_sem] def opcode_fields_r1_15 : List AI := [
  ⟨(some 6), none, .faddr 1 (.t 2)⟩,
  ⟨(some 7), none, .load 1 false (.t 6)⟩,
  ⟨(some 8), none, .faddr 2 (.t 2)⟩,
  ⟨(some 9), none, .load 1 false (.t 8)⟩,
  ⟨(some 10), none, .faddr 3 (.t 2)⟩,
  ⟨(some 11), none, .load 1 false (.t 10)⟩,
  ⟨(some 12), none, .faddr 4 (.t 2)⟩,
  ⟨(some 13), none, .load 1 false (.t 12)⟩,
  ⟨(some 14), none, .build [(.int .i64 0), (.int .i64 0), (.int .i64 0), (.int .i64 0)] [(0, 1, (.t 7)), (1, 1, (.t 9)), (2, 1, (.t 11)), (3, 1, (.t 13))]⟩,
  ⟨(some 15), none, .faddr 1 (.t 3)⟩,
  ⟨(some 17), none, .faddr 2 (.t 3)⟩,
  ⟨(some 19), none, .faddr 3 (.t 3)⟩,
  ⟨(some 21), none, .faddr 4 (.t 3)⟩,
  ⟨none, none, .store 4 (.t 4) (.t 14)⟩,
  ⟨(some 16), none, .load 1 false (.t 15)⟩,
  ⟨(some 18), none, .load 1 false (.t 17)⟩,
  ⟨(some 20), none, .load 1 false (.t 19)⟩,
  ⟨(some 22), none, .load 1 false (.t 21)⟩,
  ⟨(some 23), none, .build [(.int .i64 0), (.int .i64 0), (.int .i64 0), (.int .i64 0)] [(0, 1, (.t 16)), (1, 1, (.t 18)), (2, 1, (.t 20)), (3, 1, (.t 22))]⟩,
  ⟨none, none, .store 4 (.t 5) (.t 23)⟩]
@[go_sem] def opcode_fields_c : AC := .seq (.ops [opcode_fields_r0]) (.seq (.ops [opcode_fields_r1_0, opcode_fields_r1_1, opcode_fields_r1_2, opcode_fields_r1_3, opcode_fields_r1_4, opcode_fields_r1_5, opcode_fields_r1_6, opcode_fields_r1_7, opcode_fields_r1_8, opcode_fields_r1_9, opcode_fields_r1_10, opcode_fields_r1_11, opcode_fields_r1_12, opcode_fields_r1_13, opcode_fields_r1_14, opcode_fields_r1_15]) (.ret))
theorem opcode_fields_ok : compF Tryz.prog 57 = some (24, opcode_fields_c, [.c 4 4 true, .c 5 4 true]) := by kernel_rfl

end Go.Proofs.YtmbidaochjjcfaaGreatDoor
