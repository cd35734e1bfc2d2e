/-
  The code of the functions that this seat reaches, translated into abstract code (printed by a program, each proved to be the translation). No condition.
-/
import Derived.Test.YtlfnbfllnlkaiaaDoorExe
import Derived.Test.YtlfnbfllnlkaiaaDoorChecked
set_option maxRecDepth 1000000
namespace Go.Proofs.YtlfnbfllnlkaiaaDoor
open Go.Abs

@[go_sem] def scriptinglaw36_VerifyWithin_r0 : List AI := [
  ⟨(some 1), none, .box 30001 11 (.t 0)⟩,
  ⟨(some 2), none, .mov (.c (.bool false))⟩]
@[go_sem] def scriptinglaw36_VerifyWithin_r1 : List AI := [
  ⟨(some 5), none, .load 11 true (.t 1)⟩,
  ⟨(some 6), none, .call 5 [(.t 5)]⟩,
  ⟨(some 7), none, .mov (.t 6)⟩,
  ⟨(some 8), (some (7, false)), .load 11 true (.t 1)⟩,
  ⟨(some 9), (some (7, false)), .call 6 [(.t 8)]⟩,
  ⟨(some 10), (some (7, false)), .bin .neq (.t 9) (.c (.int .i64 0))⟩,
  ⟨(some 11), none, .pick (.t 7) (.c (.bool true)) (.t 10)⟩]
@[go_sem] def scriptinglaw36_VerifyWithin_r2 : List AI := [
  ⟨(some 12), none, .call 7 []⟩,
  ⟨(some 2), none, .mov (.t 12)⟩]
@[go_sem] def scriptinglaw36_VerifyWithin_r3 : List AI := [
  ⟨(some 13), none, .load 11 true (.t 1)⟩,
  ⟨(some 14), none, .call 8 [(.t 13)]⟩,
  ⟨(some 3), none, .mov (.t 14)⟩]
@[go_sem] def scriptinglaw36_VerifyWithin_r4 : List AI := [
  ⟨(some 4), none, .mov (.c (.int .i64 0))⟩]
@[go_sem] def scriptinglaw36_VerifyWithin_r5 : List AI := [
  ⟨(some 15), none, .mov (.t 4)⟩,
  ⟨(some 16), none, .mov (.t 3)⟩,
  ⟨(some 17), none, .len 0 (.t 16)⟩,
  ⟨(some 18), none, .bin .lss (.t 15) (.t 17)⟩]
@[go_sem] def scriptinglaw36_VerifyWithin_r6 : List AI := [
  ⟨(some 21), none, .mov (.t 3)⟩,
  ⟨(some 22), none, .mov (.t 4)⟩,
  ⟨(some 23), none, .iaddr 11 (.t 21) (.t 22)⟩,
  ⟨(some 24), none, .load 11 true (.t 23)⟩,
  ⟨(some 25), none, .call 6 [(.t 24)]⟩,
  ⟨(some 26), none, .bin .neq (.t 25) (.c (.int .i64 0))⟩]
@[go_sem] def scriptinglaw36_VerifyWithin_r7 : List AI := [
  ⟨(some 2), none, .mov (.c (.bool false))⟩]
@[go_sem] def scriptinglaw36_VerifyWithin_r8 : List AI := [
  ⟨(some 19), none, .mov (.t 4)⟩,
  ⟨(some 20), none, .bin .add (.t 19) (.c (.int .i64 1))⟩,
  ⟨(some 4), none, .mov (.t 20)⟩]
def scriptinglaw36_VerifyWithin_l0 : AC := .seq (.seq (.ops [scriptinglaw36_VerifyWithin_r5]) (.cond (.t 18) (.skip) (.exit 0))) (.seq (.block 1 (.seq (.ops [scriptinglaw36_VerifyWithin_r6]) (.cond (.t 26) (.seq (.ops [scriptinglaw36_VerifyWithin_r7]) (.ret)) (.skip)))) (.ops [scriptinglaw36_VerifyWithin_r8]))
theorem scriptinglaw36_VerifyWithin_l0_eq : scriptinglaw36_VerifyWithin_l0 = .seq (.seq (.ops [scriptinglaw36_VerifyWithin_r5]) (.cond (.t 18) (.skip) (.exit 0))) (.seq (.block 1 (.seq (.ops [scriptinglaw36_VerifyWithin_r6]) (.cond (.t 26) (.seq (.ops [scriptinglaw36_VerifyWithin_r7]) (.ret)) (.skip)))) (.ops [scriptinglaw36_VerifyWithin_r8])) := rfl
@[go_sem] def scriptinglaw36_VerifyWithin_r9 : List AI := [
  ⟨(some 27), none, .load 11 true (.t 1)⟩,
  ⟨(some 28), none, .call 9 [(.t 27)]⟩,
  ⟨(some 29), none, .call 6 [(.t 28)]⟩,
  ⟨(some 30), none, .bin .eql (.t 29) (.c (.int .i64 0))⟩,
  ⟨(some 31), none, .mov (.t 30)⟩,
  ⟨(some 32), (some (31, true)), .call 7 []⟩,
  ⟨(some 33), none, .pick (.t 31) (.t 32) (.c (.bool false))⟩,
  ⟨(some 2), none, .mov (.t 33)⟩]
@[go_sem] def scriptinglaw36_VerifyWithin_c : AC := .seq (.ops [scriptinglaw36_VerifyWithin_r0]) (.seq (.seq (.ops [scriptinglaw36_VerifyWithin_r1]) (.cond (.t 11) (.seq (.ops [scriptinglaw36_VerifyWithin_r2]) (.ret)) (.skip))) (.seq (.ops [scriptinglaw36_VerifyWithin_r3]) (.seq (.seq (.ops [scriptinglaw36_VerifyWithin_r4]) (.block 0 (.loop scriptinglaw36_VerifyWithin_l0))) (.seq (.ops [scriptinglaw36_VerifyWithin_r9]) (.ret)))))
theorem scriptinglaw36_VerifyWithin_ok : compF Tryd.prog 3 = some (34, scriptinglaw36_VerifyWithin_c, [.t 2]) := by kernel_rfl

@[go_sem] def scriptinglaw36_VerifyMarks_r0 : List AI := [
  ⟨(some 1), none, .box 40001 11 (.t 0)⟩,
  ⟨(some 2), none, .mov (.c (.bool false))⟩]
@[go_sem] def scriptinglaw36_VerifyMarks_r1 : List AI := [
  ⟨(some 8), none, .load 11 true (.t 1)⟩,
  ⟨(some 9), none, .call 5 [(.t 8)]⟩,
  ⟨(some 10), none, .mov (.t 9)⟩,
  ⟨(some 11), (some (10, false)), .load 11 true (.t 1)⟩,
  ⟨(some 12), (some (10, false)), .call 6 [(.t 11)]⟩,
  ⟨(some 13), (some (10, false)), .bin .neq (.t 12) (.c (.int .i64 0))⟩,
  ⟨(some 14), none, .pick (.t 10) (.c (.bool true)) (.t 13)⟩]
@[go_sem] def scriptinglaw36_VerifyMarks_r2 : List AI := [
  ⟨(some 15), none, .call 7 []⟩,
  ⟨(some 2), none, .mov (.t 15)⟩]
@[go_sem] def scriptinglaw36_VerifyMarks_r3 : List AI := [
  ⟨(some 17), none, .load 11 true (.t 1)⟩,
  ⟨(some 18), none, .call 10 [(.t 17)]⟩,
  ⟨(some 16), none, .mov (.t 18)⟩,
  ⟨(some 19), none, .ext 0 (.t 16)⟩,
  ⟨(some 20), none, .ext 1 (.t 16)⟩,
  ⟨(some 3), none, .mov (.t 19)⟩,
  ⟨(some 4), none, .mov (.t 20)⟩]
@[go_sem] def scriptinglaw36_VerifyMarks_r4 : List AI := [
  ⟨(some 21), none, .mov (.t 4)⟩,
  ⟨(some 22), none, .bin .neq (.t 21) (.c (.int .i64 0))⟩,
  ⟨(some 23), none, .mov (.t 22)⟩,
  ⟨(some 24), (some (23, false)), .mov (.t 3)⟩,
  ⟨(some 25), (some (23, false)), .len 0 (.t 24)⟩,
  ⟨(some 26), (some (23, false)), .faddr 5 (.t 1)⟩,
  ⟨(some 27), (some (23, false)), .load 1 false (.t 26)⟩,
  ⟨(some 28), (some (23, false)), .len 0 (.t 27)⟩,
  ⟨(some 29), (some (23, false)), .bin .neq (.t 25) (.t 28)⟩,
  ⟨(some 30), none, .pick (.t 23) (.c (.bool true)) (.t 29)⟩]
@[go_sem] def scriptinglaw36_VerifyMarks_r5 : List AI := [
  ⟨(some 2), none, .mov (.c (.bool false))⟩]
@[go_sem] def scriptinglaw36_VerifyMarks_r6 : List AI := [
  ⟨(some 5), none, .mov (.c (.int .i64 0))⟩]
@[go_sem] def scriptinglaw36_VerifyMarks_r7 : List AI := [
  ⟨(some 31), none, .mov (.t 5)⟩,
  ⟨(some 32), none, .mov (.t 3)⟩,
  ⟨(some 33), none, .len 0 (.t 32)⟩,
  ⟨(some 34), none, .bin .lss (.t 31) (.t 33)⟩]
@[go_sem] def scriptinglaw36_VerifyMarks_r8 : List AI := [
  ⟨(some 37), none, .mov (.t 3)⟩,
  ⟨(some 38), none, .mov (.t 5)⟩,
  ⟨(some 39), none, .iaddr 3 (.t 37) (.t 38)⟩,
  ⟨(some 40), none, .faddr 2 (.t 39)⟩,
  ⟨(some 41), none, .load 1 false (.t 40)⟩,
  ⟨(some 6), none, .mov (.t 41)⟩]
@[go_sem] def scriptinglaw36_VerifyMarks_r9 : List AI := [
  ⟨(some 7), none, .mov (.c (.int .i64 0))⟩]
@[go_sem] def scriptinglaw36_VerifyMarks_r10 : List AI := [
  ⟨(some 42), none, .mov (.t 7)⟩,
  ⟨(some 43), none, .mov (.t 6)⟩,
  ⟨(some 44), none, .len 0 (.t 43)⟩,
  ⟨(some 45), none, .bin .lss (.t 42) (.t 44)⟩]
@[go_sem] def scriptinglaw36_VerifyMarks_r11 : List AI := [
  ⟨(some 48), none, .mov (.t 6)⟩,
  ⟨(some 49), none, .mov (.t 7)⟩,
  ⟨(some 50), none, .iaddr 1 (.t 48) (.t 49)⟩,
  ⟨(some 51), none, .load 1 false (.t 50)⟩,
  ⟨(some 52), none, .bin .lss (.t 51) (.c (.int .i64 0))⟩,
  ⟨(some 53), none, .mov (.t 52)⟩,
  ⟨(some 54), (some (53, false)), .mov (.t 6)⟩,
  ⟨(some 55), (some (53, false)), .mov (.t 7)⟩,
  ⟨(some 56), (some (53, false)), .iaddr 1 (.t 54) (.t 55)⟩,
  ⟨(some 57), (some (53, false)), .load 1 false (.t 56)⟩,
  ⟨(some 58), (some (53, false)), .faddr 4 (.t 1)⟩,
  ⟨(some 59), (some (53, false)), .load 1 false (.t 58)⟩,
  ⟨(some 60), (some (53, false)), .bin .geq (.t 57) (.t 59)⟩,
  ⟨(some 61), none, .pick (.t 53) (.c (.bool true)) (.t 60)⟩,
  ⟨(some 62), none, .mov (.t 61)⟩,
  ⟨(some 63), (some (62, false)), .mov (.t 7)⟩,
  ⟨(some 64), (some (62, false)), .bin .gtr (.t 63) (.c (.int .i64 0))⟩,
  ⟨(some 65), (some (62, false)), .mov (.t 64)⟩,
  ⟨(some 66), (some (65, true)), .mov (.t 6)⟩,
  ⟨(some 67), (some (65, true)), .mov (.t 7)⟩,
  ⟨(some 68), (some (65, true)), .iaddr 1 (.t 66) (.t 67)⟩,
  ⟨(some 69), (some (65, true)), .load 1 false (.t 68)⟩,
  ⟨(some 70), (some (65, true)), .mov (.t 6)⟩,
  ⟨(some 71), (some (65, true)), .mov (.t 7)⟩,
  ⟨(some 72), (some (65, true)), .bin .sub (.t 71) (.c (.int .i64 1))⟩,
  ⟨(some 73), (some (65, true)), .iaddr 1 (.t 70) (.t 72)⟩,
  ⟨(some 74), (some (65, true)), .load 1 false (.t 73)⟩,
  ⟨(some 75), (some (65, true)), .bin .leq (.t 69) (.t 74)⟩,
  ⟨(some 76), (some (62, false)), .pick (.t 65) (.t 75) (.c (.bool false))⟩,
  ⟨(some 77), none, .pick (.t 62) (.c (.bool true)) (.t 76)⟩]
@[go_sem] def scriptinglaw36_VerifyMarks_r12 : List AI := [
  ⟨(some 2), none, .mov (.c (.bool false))⟩]
@[go_sem] def scriptinglaw36_VerifyMarks_r13 : List AI := [
  ⟨(some 46), none, .mov (.t 7)⟩,
  ⟨(some 47), none, .bin .add (.t 46) (.c (.int .i64 1))⟩,
  ⟨(some 7), none, .mov (.t 47)⟩]
def scriptinglaw36_VerifyMarks_l1 : AC := .seq (.seq (.ops [scriptinglaw36_VerifyMarks_r10]) (.cond (.t 45) (.skip) (.exit 2))) (.seq (.block 3 (.seq (.ops [scriptinglaw36_VerifyMarks_r11]) (.cond (.t 77) (.seq (.ops [scriptinglaw36_VerifyMarks_r12]) (.ret)) (.skip)))) (.ops [scriptinglaw36_VerifyMarks_r13]))
theorem scriptinglaw36_VerifyMarks_l1_eq : scriptinglaw36_VerifyMarks_l1 = .seq (.seq (.ops [scriptinglaw36_VerifyMarks_r10]) (.cond (.t 45) (.skip) (.exit 2))) (.seq (.block 3 (.seq (.ops [scriptinglaw36_VerifyMarks_r11]) (.cond (.t 77) (.seq (.ops [scriptinglaw36_VerifyMarks_r12]) (.ret)) (.skip)))) (.ops [scriptinglaw36_VerifyMarks_r13])) := rfl
@[go_sem] def scriptinglaw36_VerifyMarks_r14 : List AI := [
  ⟨(some 78), none, .mov (.t 6)⟩,
  ⟨(some 79), none, .len 0 (.t 78)⟩,
  ⟨(some 80), none, .bin .gtr (.t 79) (.c (.int .i64 0))⟩,
  ⟨(some 81), none, .mov (.t 80)⟩,
  ⟨(some 82), (some (81, true)), .faddr 5 (.t 1)⟩,
  ⟨(some 83), (some (81, true)), .load 1 false (.t 82)⟩,
  ⟨(some 84), (some (81, true)), .mov (.t 5)⟩,
  ⟨(some 85), (some (81, true)), .iaddr 5 (.t 83) (.t 84)⟩,
  ⟨(some 86), (some (81, true)), .faddr 0 (.t 85)⟩,
  ⟨(some 87), (some (81, true)), .load 1 false (.t 86)⟩,
  ⟨(some 88), (some (81, true)), .bin .eql (.t 87) (.c (.int .i64 17))⟩,
  ⟨(some 89), none, .pick (.t 81) (.t 88) (.c (.bool false))⟩]
@[go_sem] def scriptinglaw36_VerifyMarks_r15 : List AI := [
  ⟨(some 2), none, .mov (.c (.bool false))⟩]
@[go_sem] def scriptinglaw36_VerifyMarks_r16 : List AI := [
  ⟨(some 35), none, .mov (.t 5)⟩,
  ⟨(some 36), none, .bin .add (.t 35) (.c (.int .i64 1))⟩,
  ⟨(some 5), none, .mov (.t 36)⟩]
def scriptinglaw36_VerifyMarks_l0 : AC := .seq (.seq (.ops [scriptinglaw36_VerifyMarks_r7]) (.cond (.t 34) (.skip) (.exit 0))) (.seq (.block 1 (.seq (.ops [scriptinglaw36_VerifyMarks_r8]) (.seq (.seq (.ops [scriptinglaw36_VerifyMarks_r9]) (.block 2 (.loop scriptinglaw36_VerifyMarks_l1))) (.seq (.ops [scriptinglaw36_VerifyMarks_r14]) (.cond (.t 89) (.seq (.ops [scriptinglaw36_VerifyMarks_r15]) (.ret)) (.skip)))))) (.ops [scriptinglaw36_VerifyMarks_r16]))
theorem scriptinglaw36_VerifyMarks_l0_eq : scriptinglaw36_VerifyMarks_l0 = .seq (.seq (.ops [scriptinglaw36_VerifyMarks_r7]) (.cond (.t 34) (.skip) (.exit 0))) (.seq (.block 1 (.seq (.ops [scriptinglaw36_VerifyMarks_r8]) (.seq (.seq (.ops [scriptinglaw36_VerifyMarks_r9]) (.block 2 (.loop scriptinglaw36_VerifyMarks_l1))) (.seq (.ops [scriptinglaw36_VerifyMarks_r14]) (.cond (.t 89) (.seq (.ops [scriptinglaw36_VerifyMarks_r15]) (.ret)) (.skip)))))) (.ops [scriptinglaw36_VerifyMarks_r16])) := rfl
@[go_sem] def scriptinglaw36_VerifyMarks_r17 : List AI := [
  ⟨(some 90), none, .call 7 []⟩,
  ⟨(some 2), none, .mov (.t 90)⟩]
@[go_sem] def scriptinglaw36_VerifyMarks_c : AC := .seq (.ops [scriptinglaw36_VerifyMarks_r0]) (.seq (.seq (.ops [scriptinglaw36_VerifyMarks_r1]) (.cond (.t 14) (.seq (.ops [scriptinglaw36_VerifyMarks_r2]) (.ret)) (.skip))) (.seq (.ops [scriptinglaw36_VerifyMarks_r3]) (.seq (.seq (.ops [scriptinglaw36_VerifyMarks_r4]) (.cond (.t 30) (.seq (.ops [scriptinglaw36_VerifyMarks_r5]) (.ret)) (.skip))) (.seq (.seq (.ops [scriptinglaw36_VerifyMarks_r6]) (.block 0 (.loop scriptinglaw36_VerifyMarks_l0))) (.seq (.ops [scriptinglaw36_VerifyMarks_r17]) (.ret))))))
theorem scriptinglaw36_VerifyMarks_ok : compF Tryd.prog 4 = some (91, scriptinglaw36_VerifyMarks_c, [.t 2]) := by kernel_rfl

@[go_sem] def scriptinglaw36_large_r0 : List AI := [
  ⟨(some 1), none, .box 50001 11 (.t 0)⟩,
  ⟨(some 2), none, .mov (.c (.bool false))⟩]
@[go_sem] def scriptinglaw36_large_r1 : List AI := [
  ⟨(some 3), none, .load 11 true (.t 1)⟩,
  ⟨(some 4), none, .call 11 [(.t 3)]⟩,
  ⟨(some 5), none, .mov (.t 4)⟩,
  ⟨(some 6), (some (5, false)), .faddr 4 (.t 1)⟩,
  ⟨(some 7), (some (5, false)), .load 1 false (.t 6)⟩,
  ⟨(some 8), (some (5, false)), .bin .gtr (.t 7) (.c (.int .i64 60))⟩,
  ⟨(some 9), none, .pick (.t 5) (.c (.bool true)) (.t 8)⟩,
  ⟨(some 2), none, .mov (.t 9)⟩]
@[go_sem] def scriptinglaw36_large_c : AC := .seq (.ops [scriptinglaw36_large_r0]) (.seq (.ops [scriptinglaw36_large_r1]) (.ret))
theorem scriptinglaw36_large_ok : compF Tryd.prog 5 = some (10, scriptinglaw36_large_c, [.t 2]) := by kernel_rfl

@[go_sem] def verify_Check_r0 : List AI := [
  ⟨(some 1), none, .box 60001 11 (.t 0)⟩,
  ⟨(some 2), none, .mov (.c (.int .i64 0))⟩]
@[go_sem] def verify_Check_r1 : List AI := [
  ⟨(some 7), none, .load 11 true (.t 1)⟩,
  ⟨(some 8), none, .call 12 [(.t 7)]⟩,
  ⟨(some 6), none, .mov (.t 8)⟩,
  ⟨(some 9), none, .ext 0 (.t 6)⟩,
  ⟨(some 10), none, .ext 1 (.t 6)⟩,
  ⟨(some 11), none, .ext 2 (.t 6)⟩,
  ⟨(some 3), none, .mov (.t 9)⟩,
  ⟨(some 4), none, .mov (.t 10)⟩,
  ⟨(some 5), none, .mov (.t 11)⟩]
@[go_sem] def verify_Check_r2 : List AI := [
  ⟨(some 12), none, .mov (.t 5)⟩,
  ⟨(some 2), none, .mov (.t 12)⟩]
@[go_sem] def verify_Check_c : AC := .seq (.ops [verify_Check_r0]) (.seq (.ops [verify_Check_r1]) (.seq (.ops [verify_Check_r2]) (.ret)))
theorem verify_Check_ok : compF Tryd.prog 6 = some (13, verify_Check_c, [.t 2]) := by kernel_rfl

@[go_sem] def scriptinglaw36_lives_r0 : List AI := [
  ⟨(some 0), none, .mov (.c (.bool false))⟩]
@[go_sem] def scriptinglaw36_lives_r1 : List AI := [
  ⟨(some 3), none, .build [(.int .i64 0), (.int .i64 0), (.int .i64 0), (.int .i64 0), (.int .i64 0)] [(0, 1, (.c (.int .i64 18))), (2, 1, (.c (.int .i64 1)))]⟩,
  ⟨(some 4), none, .mkrow 70004 5 [(.t 3)]⟩,
  ⟨(some 5), none, .build [(.str []), (.int .i64 0), (.int .i64 0), (.bool false), (.int .i64 0), .nils, .nils, .nils, .nils, .nils, .nils] [(4, 1, (.c (.int .i64 1))), (5, 1, (.t 4))]⟩,
  ⟨(some 1), none, .box 70001 11 (.c (.agg [(.str []), (.int .i64 0), (.int .i64 0), (.bool false), (.int .i64 0), .nils, .nils, .nils, .nils, .nils, .nils]))⟩,
  ⟨none, none, .store 11 (.t 1) (.t 5)⟩]
@[go_sem] def scriptinglaw36_lives_r2 : List AI := [
  ⟨(some 6), none, .build [(.int .i64 0), (.int .i64 0), (.int .i64 0), (.int .i64 0), (.int .i64 0)] [(0, 1, (.c (.int .i64 3)))]⟩,
  ⟨(some 7), none, .build [(.int .i64 0), (.int .i64 0), (.int .i64 0), (.int .i64 0), (.int .i64 0)] [(0, 1, (.c (.int .i64 18))), (2, 1, (.c (.int .i64 1)))]⟩,
  ⟨(some 8), none, .mkrow 70008 5 [(.t 6), (.t 7)]⟩,
  ⟨(some 9), none, .build [(.str []), (.int .i64 0), (.int .i64 0), (.bool false), (.int .i64 0), .nils, .nils, .nils, .nils, .nils, .nils] [(4, 1, (.c (.int .i64 1))), (5, 1, (.t 8))]⟩,
  ⟨(some 2), none, .box 70002 11 (.c (.agg [(.str []), (.int .i64 0), (.int .i64 0), (.bool false), (.int .i64 0), .nils, .nils, .nils, .nils, .nils, .nils]))⟩,
  ⟨none, none, .store 11 (.t 2) (.t 9)⟩]
@[go_sem] def scriptinglaw36_lives_r3 : List AI := [
  ⟨(some 10), none, .load 11 true (.t 1)⟩,
  ⟨(some 11), none, .call 6 [(.t 10)]⟩,
  ⟨(some 12), none, .bin .eql (.t 11) (.c (.int .i64 21))⟩,
  ⟨(some 13), none, .mov (.t 12)⟩,
  ⟨(some 14), (some (13, true)), .load 11 true (.t 2)⟩,
  ⟨(some 15), (some (13, true)), .call 6 [(.t 14)]⟩,
  ⟨(some 16), (some (13, true)), .bin .eql (.t 15) (.c (.int .i64 0))⟩,
  ⟨(some 17), none, .pick (.t 13) (.t 16) (.c (.bool false))⟩,
  ⟨(some 0), none, .mov (.t 17)⟩]
@[go_sem] def scriptinglaw36_lives_c : AC := .seq (.ops [scriptinglaw36_lives_r0]) (.seq (.ops [scriptinglaw36_lives_r1]) (.seq (.ops [scriptinglaw36_lives_r2]) (.seq (.ops [scriptinglaw36_lives_r3]) (.ret))))
theorem scriptinglaw36_lives_ok : compF Tryd.prog 7 = some (18, scriptinglaw36_lives_c, [.t 0]) := by kernel_rfl

@[go_sem] def scriptingref33_Each_r0 : List AI := [
  ⟨(some 1), none, .box 80001 11 (.t 0)⟩,
  ⟨(some 2), none, .mov (.c .nils)⟩]
@[go_sem] def scriptingref33_Each_r1 : List AI := [
  ⟨(some 3), none, .mov (.c .nils)⟩]
@[go_sem] def scriptingref33_Each_r2 : List AI := [
  ⟨(some 8), none, .load 11 true (.t 1)⟩,
  ⟨(some 9), none, .mkrow 80009 11 [(.t 8)]⟩,
  ⟨(some 4), none, .mov (.t 9)⟩]
@[go_sem] def scriptingref33_Each_r3 : List AI := [
  ⟨(some 10), none, .mov (.t 4)⟩,
  ⟨(some 11), none, .len 0 (.t 10)⟩,
  ⟨(some 12), none, .bin .gtr (.t 11) (.c (.int .i64 0))⟩]
@[go_sem] def scriptingref33_Each_r4 : List AI := [
  ⟨(some 13), none, .mov (.t 4)⟩,
  ⟨(some 14), none, .len 0 (.t 13)⟩,
  ⟨(some 15), none, .bin .sub (.t 14) (.c (.int .i64 1))⟩,
  ⟨(some 5), none, .mov (.t 15)⟩]
@[go_sem] def scriptingref33_Each_r5 : List AI := [
  ⟨(some 16), none, .mov (.t 4)⟩,
  ⟨(some 17), none, .mov (.t 5)⟩,
  ⟨(some 18), none, .iaddr 11 (.t 16) (.t 17)⟩,
  ⟨(some 19), none, .load 11 true (.t 18)⟩,
  ⟨(some 6), none, .box 80006 11 (.c (.agg [(.str []), (.int .i64 0), (.int .i64 0), (.bool false), (.int .i64 0), .nils, .nils, .nils, .nils, .nils, .nils]))⟩,
  ⟨none, none, .store 11 (.t 6) (.t 19)⟩]
@[go_sem] def scriptingref33_Each_r6 : List AI := [
  ⟨(some 20), none, .mov (.t 4)⟩,
  ⟨(some 21), none, .mov (.t 5)⟩,
  ⟨(some 22), none, .slc 11 (.t 20) none (some (.t 21))⟩,
  ⟨(some 4), none, .mov (.t 22)⟩]
@[go_sem] def scriptingref33_Each_r7 : List AI := [
  ⟨(some 23), none, .mov (.t 3)⟩,
  ⟨(some 24), none, .load 11 true (.t 6)⟩,
  ⟨(some 25), none, .mkisl 11 [(.t 24)]⟩,
  ⟨(some 26), none, .app 80026 11 (.t 23) (.t 25)⟩,
  ⟨(some 3), none, .mov (.t 26)⟩]
@[go_sem] def scriptingref33_Each_r8 : List AI := [
  ⟨(some 27), none, .faddr 8 (.t 6)⟩,
  ⟨(some 28), none, .load 1 false (.t 27)⟩,
  ⟨(some 29), none, .len 0 (.t 28)⟩,
  ⟨(some 30), none, .bin .sub (.t 29) (.c (.int .i64 1))⟩,
  ⟨(some 7), none, .mov (.t 30)⟩]
@[go_sem] def scriptingref33_Each_r9 : List AI := [
  ⟨(some 31), none, .mov (.t 7)⟩,
  ⟨(some 32), none, .bin .geq (.t 31) (.c (.int .i64 0))⟩]
@[go_sem] def scriptingref33_Each_r10 : List AI := [
  ⟨(some 35), none, .mov (.t 4)⟩,
  ⟨(some 36), none, .faddr 8 (.t 6)⟩,
  ⟨(some 37), none, .load 1 false (.t 36)⟩,
  ⟨(some 38), none, .mov (.t 7)⟩,
  ⟨(some 39), none, .iaddr 11 (.t 37) (.t 38)⟩,
  ⟨(some 40), none, .load 11 true (.t 39)⟩,
  ⟨(some 41), none, .mkisl 11 [(.t 40)]⟩,
  ⟨(some 42), none, .app 80042 11 (.t 35) (.t 41)⟩,
  ⟨(some 4), none, .mov (.t 42)⟩]
@[go_sem] def scriptingref33_Each_r11 : List AI := [
  ⟨(some 33), none, .mov (.t 7)⟩,
  ⟨(some 34), none, .bin .sub (.t 33) (.c (.int .i64 1))⟩,
  ⟨(some 7), none, .mov (.t 34)⟩]
def scriptingref33_Each_l1 : AC := .seq (.seq (.ops [scriptingref33_Each_r9]) (.cond (.t 32) (.skip) (.exit 2))) (.seq (.block 3 (.ops [scriptingref33_Each_r10])) (.ops [scriptingref33_Each_r11]))
theorem scriptingref33_Each_l1_eq : scriptingref33_Each_l1 = .seq (.seq (.ops [scriptingref33_Each_r9]) (.cond (.t 32) (.skip) (.exit 2))) (.seq (.block 3 (.ops [scriptingref33_Each_r10])) (.ops [scriptingref33_Each_r11])) := rfl
def scriptingref33_Each_l0 : AC := .seq (.seq (.ops [scriptingref33_Each_r3]) (.cond (.t 12) (.skip) (.exit 0))) (.block 1 (.seq (.ops [scriptingref33_Each_r4]) (.seq (.ops [scriptingref33_Each_r5]) (.seq (.ops [scriptingref33_Each_r6]) (.seq (.ops [scriptingref33_Each_r7]) (.seq (.ops [scriptingref33_Each_r8]) (.block 2 (.loop scriptingref33_Each_l1))))))))
theorem scriptingref33_Each_l0_eq : scriptingref33_Each_l0 = .seq (.seq (.ops [scriptingref33_Each_r3]) (.cond (.t 12) (.skip) (.exit 0))) (.block 1 (.seq (.ops [scriptingref33_Each_r4]) (.seq (.ops [scriptingref33_Each_r5]) (.seq (.ops [scriptingref33_Each_r6]) (.seq (.ops [scriptingref33_Each_r7]) (.seq (.ops [scriptingref33_Each_r8]) (.block 2 (.loop scriptingref33_Each_l1)))))))) := rfl
@[go_sem] def scriptingref33_Each_r12 : List AI := [
  ⟨(some 43), none, .mov (.t 3)⟩,
  ⟨(some 2), none, .mov (.t 43)⟩]
@[go_sem] def scriptingref33_Each_c : AC := .seq (.ops [scriptingref33_Each_r0]) (.seq (.ops [scriptingref33_Each_r1]) (.seq (.ops [scriptingref33_Each_r2]) (.seq (.block 0 (.loop scriptingref33_Each_l0)) (.seq (.ops [scriptingref33_Each_r12]) (.ret)))))
theorem scriptingref33_Each_ok : compF Tryd.prog 8 = some (44, scriptingref33_Each_c, [.t 2]) := by kernel_rfl

@[go_sem] def scriptingref33_Strip_r0 : List AI := [
  ⟨(some 1), none, .box 90001 11 (.t 0)⟩,
  ⟨(some 2), none, .box 90002 11 (.c (.agg [(.str []), (.int .i64 0), (.int .i64 0), (.bool false), (.int .i64 0), .nils, .nils, .nils, .nils, .nils, .nils]))⟩]
@[go_sem] def scriptingref33_Strip_r1 : List AI := [
  ⟨(some 6), none, .load 11 true (.t 1)⟩,
  ⟨(some 3), none, .box 90003 11 (.c (.agg [(.str []), (.int .i64 0), (.int .i64 0), (.bool false), (.int .i64 0), .nils, .nils, .nils, .nils, .nils, .nils]))⟩,
  ⟨none, none, .store 11 (.t 3) (.t 6)⟩]
@[go_sem] def scriptingref33_Strip_r2 : List AI := [
  ⟨(some 7), none, .faddr 0 (.t 3)⟩,
  ⟨none, none, .store 1 (.t 7) (.c (.str []))⟩,
  ⟨(some 8), none, .faddr 1 (.t 3)⟩,
  ⟨none, none, .store 1 (.t 8) (.c (.int .i64 0))⟩,
  ⟨(some 9), none, .faddr 6 (.t 3)⟩,
  ⟨none, none, .store 1 (.t 9) (.c .nils)⟩,
  ⟨(some 10), none, .faddr 10 (.t 3)⟩,
  ⟨none, none, .store 1 (.t 10) (.c .nils)⟩]
@[go_sem] def scriptingref33_Strip_r3 : List AI := [
  ⟨(some 11), none, .faddr 9 (.t 3)⟩,
  ⟨none, none, .store 1 (.t 11) (.c .nils)⟩,
  ⟨(some 12), none, .faddr 8 (.t 3)⟩,
  ⟨none, none, .store 1 (.t 12) (.c .nils)⟩]
@[go_sem] def scriptingref33_Strip_r4 : List AI := [
  ⟨(some 4), none, .mov (.c (.int .i64 0))⟩]
@[go_sem] def scriptingref33_Strip_r5 : List AI := [
  ⟨(some 13), none, .mov (.t 4)⟩,
  ⟨(some 14), none, .faddr 9 (.t 1)⟩,
  ⟨(some 15), none, .load 1 false (.t 14)⟩,
  ⟨(some 16), none, .len 0 (.t 15)⟩,
  ⟨(some 17), none, .bin .lss (.t 13) (.t 16)⟩]
@[go_sem] def scriptingref33_Strip_r6 : List AI := [
  ⟨(some 20), none, .faddr 9 (.t 3)⟩,
  ⟨(some 21), none, .load 1 false (.t 20)⟩,
  ⟨(some 22), none, .faddr 9 (.t 1)⟩,
  ⟨(some 23), none, .load 1 false (.t 22)⟩,
  ⟨(some 24), none, .mov (.t 4)⟩,
  ⟨(some 25), none, .iaddr 3 (.t 23) (.t 24)⟩,
  ⟨(some 26), none, .faddr 1 (.t 25)⟩,
  ⟨(some 27), none, .load 1 false (.t 26)⟩,
  ⟨(some 28), none, .faddr 9 (.t 1)⟩,
  ⟨(some 29), none, .load 1 false (.t 28)⟩,
  ⟨(some 30), none, .mov (.t 4)⟩,
  ⟨(some 31), none, .iaddr 3 (.t 29) (.t 30)⟩,
  ⟨(some 32), none, .faddr 2 (.t 31)⟩,
  ⟨(some 33), none, .load 1 false (.t 32)⟩,
  ⟨(some 34), none, .build [(.str []), (.bool false), (.int .i64 0)] [(1, 1, (.t 27)), (2, 1, (.t 33))]⟩,
  ⟨(some 35), none, .mkisl 3 [(.t 34)]⟩,
  ⟨(some 36), none, .app 90036 3 (.t 21) (.t 35)⟩,
  ⟨(some 37), none, .faddr 9 (.t 3)⟩,
  ⟨none, none, .store 1 (.t 37) (.t 36)⟩]
@[go_sem] def scriptingref33_Strip_r7 : List AI := [
  ⟨(some 18), none, .mov (.t 4)⟩,
  ⟨(some 19), none, .bin .add (.t 18) (.c (.int .i64 1))⟩,
  ⟨(some 4), none, .mov (.t 19)⟩]
def scriptingref33_Strip_l0 : AC := .seq (.seq (.ops [scriptingref33_Strip_r5]) (.cond (.t 17) (.skip) (.exit 0))) (.seq (.block 1 (.ops [scriptingref33_Strip_r6])) (.ops [scriptingref33_Strip_r7]))
theorem scriptingref33_Strip_l0_eq : scriptingref33_Strip_l0 = .seq (.seq (.ops [scriptingref33_Strip_r5]) (.cond (.t 17) (.skip) (.exit 0))) (.seq (.block 1 (.ops [scriptingref33_Strip_r6])) (.ops [scriptingref33_Strip_r7])) := rfl
@[go_sem] def scriptingref33_Strip_r8 : List AI := [
  ⟨(some 5), none, .mov (.c (.int .i64 0))⟩]
@[go_sem] def scriptingref33_Strip_r9 : List AI := [
  ⟨(some 38), none, .mov (.t 5)⟩,
  ⟨(some 39), none, .faddr 8 (.t 1)⟩,
  ⟨(some 40), none, .load 1 false (.t 39)⟩,
  ⟨(some 41), none, .len 0 (.t 40)⟩,
  ⟨(some 42), none, .bin .lss (.t 38) (.t 41)⟩]
@[go_sem] def scriptingref33_Strip_r10_0 : List AI := [
  ⟨(some 45), none, .faddr 8 (.t 3)⟩,
  ⟨(some 46), none, .load 1 false (.t 45)⟩,
  ⟨(some 47), none, .faddr 8 (.t 1)⟩,
  ⟨(some 48), none, .load 1 false (.t 47)⟩,
  ⟨(some 49), none, .mov (.t 5)⟩,
  ⟨(some 50), none, .iaddr 11 (.t 48) (.t 49)⟩,
  ⟨(some 51), none, .load 11 true (.t 50)⟩,
  ⟨(some 52), none, .call 9 [(.t 51)]⟩,
  ⟨(some 53), none, .mkisl 11 [(.t 52)]⟩,
  ⟨(some 54), none, .app 90054 11 (.t 46) (.t 53)⟩,
  ⟨(some 55), none, .faddr 8 (.t 3)⟩,
  ⟨none, none, .store 1 (.t 55) (.t 54)⟩]
@[go_sem] def scriptingref33_Strip_r10_1 : List AI := [
  ⟨(some 45), none, .faddr 8 (.t 3)⟩,
  ⟨(some 47), none, .faddr 8 (.t 1)⟩,
  ⟨(some 48), none, .load 1 false (.t 47)⟩,
  ⟨(some 49), none, .mov (.t 5)⟩,
  ⟨(some 50), none, .iaddr 11 (.t 48) (.t 49)⟩,
  ⟨(some 51), none, .load 11 true (.t 50)⟩,
  ⟨(some 52), none, .call 9 [(.t 51)]⟩,
  ⟨(some 46), none, .load 1 false (.t 45)⟩,
  ⟨(some 53), none, .mkisl 11 [(.t 52)]⟩,
  ⟨(some 54), none, .app 90054 11 (.t 46) (.t 53)⟩,
  ⟨(some 55), none, .faddr 8 (.t 3)⟩,
  ⟨none, none, .store 1 (.t 55) (.t 54)⟩]
@[go_sem] def scriptingref33_Strip_r11 : List AI := [
  ⟨(some 43), none, .mov (.t 5)⟩,
  ⟨(some 44), none, .bin .add (.t 43) (.c (.int .i64 1))⟩,
  ⟨(some 5), none, .mov (.t 44)⟩]
def scriptingref33_Strip_l1 : AC := .seq (.seq (.ops [scriptingref33_Strip_r9]) (.cond (.t 42) (.skip) (.exit 2))) (.seq (.block 3 (.ops [scriptingref33_Strip_r10_0, scriptingref33_Strip_r10_1])) (.ops [scriptingref33_Strip_r11]))
theorem scriptingref33_Strip_l1_eq : scriptingref33_Strip_l1 = .seq (.seq (.ops [scriptingref33_Strip_r9]) (.cond (.t 42) (.skip) (.exit 2))) (.seq (.block 3 (.ops [scriptingref33_Strip_r10_0, scriptingref33_Strip_r10_1])) (.ops [scriptingref33_Strip_r11])) := rfl
@[go_sem] def scriptingref33_Strip_r12 : List AI := [
  ⟨(some 56), none, .load 11 true (.t 3)⟩,
  ⟨none, none, .store 11 (.t 2) (.t 56)⟩]
@[go_sem] def scriptingref33_Strip_c : AC := .seq (.ops [scriptingref33_Strip_r0]) (.seq (.ops [scriptingref33_Strip_r1]) (.seq (.ops [scriptingref33_Strip_r2]) (.seq (.ops [scriptingref33_Strip_r3]) (.seq (.seq (.ops [scriptingref33_Strip_r4]) (.block 0 (.loop scriptingref33_Strip_l0))) (.seq (.seq (.ops [scriptingref33_Strip_r8]) (.block 2 (.loop scriptingref33_Strip_l1))) (.seq (.ops [scriptingref33_Strip_r12]) (.ret)))))))
theorem scriptingref33_Strip_ok : compF Tryd.prog 9 = some (57, scriptingref33_Strip_c, [.c 2 11 true]) := by kernel_rfl

@[go_sem] def verify_States_r0 : List AI := [
  ⟨(some 1), none, .box 100001 11 (.t 0)⟩,
  ⟨(some 2), none, .mov (.c .nils)⟩,
  ⟨(some 3), none, .mov (.c (.int .i64 0))⟩]
@[go_sem] def verify_States_r1 : List AI := [
  ⟨(some 10), none, .load 11 true (.t 1)⟩,
  ⟨(some 11), none, .call 13 [(.t 10)]⟩,
  ⟨(some 4), none, .mov (.t 11)⟩]
@[go_sem] def verify_States_r2 : List AI := [
  ⟨(some 12), none, .mov (.t 4)⟩,
  ⟨(some 13), none, .bin .neq (.t 12) (.c (.int .i64 0))⟩]
@[go_sem] def verify_States_r3 : List AI := [
  ⟨(some 14), none, .mov (.t 4)⟩,
  ⟨(some 2), none, .mov (.c .nils)⟩,
  ⟨(some 3), none, .mov (.t 14)⟩]
@[go_sem] def verify_States_r4_0 : List AI := [
  ⟨(some 15), none, .load 11 true (.t 1)⟩,
  ⟨(some 16), none, .load 11 true (.t 1)⟩,
  ⟨(some 17), none, .call 15 [(.t 16)]⟩,
  ⟨(some 18), none, .call 14 [(.t 15), (.t 17)]⟩,
  ⟨(some 5), none, .mov (.t 18)⟩]
@[go_sem] def verify_States_r4_1 : List AI := [
  ⟨(some 16), none, .load 11 true (.t 1)⟩,
  ⟨(some 17), none, .call 15 [(.t 16)]⟩,
  ⟨(some 15), none, .load 11 true (.t 1)⟩,
  ⟨(some 18), none, .call 14 [(.t 15), (.t 17)]⟩,
  ⟨(some 5), none, .mov (.t 18)⟩]
@[go_sem] def verify_States_r5 : List AI := [
  ⟨(some 19), none, .faddr 5 (.t 1)⟩,
  ⟨(some 20), none, .load 1 false (.t 19)⟩,
  ⟨(some 21), none, .len 0 (.t 20)⟩,
  ⟨(some 22), none, .mksl 100022 [.nils, (.int .i64 0), .nils] (.t 21)⟩,
  ⟨(some 6), none, .mov (.t 22)⟩]
@[go_sem] def verify_States_r6 : List AI := [
  ⟨(some 23), none, .mov (.t 6)⟩,
  ⟨(some 24), none, .len 0 (.t 23)⟩,
  ⟨(some 25), none, .mov (.c (.int .i64 0))⟩]
@[go_sem] def verify_States_r7 : List AI := [
  ⟨(some 26), none, .bin .lss (.t 25) (.t 24)⟩]
@[go_sem] def verify_States_r8 : List AI := [
  ⟨(some 27), none, .mov (.t 25)⟩,
  ⟨(some 7), none, .mov (.t 27)⟩]
@[go_sem] def verify_States_r9 : List AI := [
  ⟨(some 29), none, .mov (.t 5)⟩,
  ⟨(some 30), none, .mov (.t 7)⟩,
  ⟨(some 31), none, .look 0 (.agg [.nils, (.int .i64 0), .nils]) true (.t 29) (.t 30)⟩,
  ⟨(some 28), none, .mov (.t 31)⟩,
  ⟨(some 32), none, .ext 0 (.t 28)⟩,
  ⟨(some 33), none, .ext 1 (.t 28)⟩,
  ⟨(some 8), none, .box 100008 3 (.c (.agg [.nils, (.int .i64 0), .nils]))⟩,
  ⟨none, none, .store 3 (.t 8) (.t 32)⟩,
  ⟨(some 9), none, .mov (.t 33)⟩]
@[go_sem] def verify_States_r10 : List AI := [
  ⟨(some 34), none, .mov (.t 9)⟩]
@[go_sem] def verify_States_r11 : List AI := [
  ⟨(some 35), none, .mov (.t 6)⟩,
  ⟨(some 36), none, .mov (.t 7)⟩,
  ⟨(some 37), none, .load 3 true (.t 8)⟩,
  ⟨(some 38), none, .iaddr 3 (.t 35) (.t 36)⟩,
  ⟨none, none, .store 3 (.t 38) (.t 37)⟩]
@[go_sem] def verify_States_r12 : List AI := [
  ⟨(some 39), none, .bin .add (.t 25) (.c (.int .i64 1))⟩,
  ⟨(some 25), none, .mov (.t 39)⟩]
def verify_States_l0 : AC := .seq (.ops [verify_States_r7]) (.seq (.cond (.t 26) (.skip) (.exit 0)) (.seq (.block 1 (.seq (.ops [verify_States_r8]) (.seq (.ops [verify_States_r9]) (.seq (.ops [verify_States_r10]) (.cond (.t 34) (.ops [verify_States_r11]) (.skip)))))) (.ops [verify_States_r12])))
theorem verify_States_l0_eq : verify_States_l0 = .seq (.ops [verify_States_r7]) (.seq (.cond (.t 26) (.skip) (.exit 0)) (.seq (.block 1 (.seq (.ops [verify_States_r8]) (.seq (.ops [verify_States_r9]) (.seq (.ops [verify_States_r10]) (.cond (.t 34) (.ops [verify_States_r11]) (.skip)))))) (.ops [verify_States_r12]))) := rfl
@[go_sem] def verify_States_r13 : List AI := [
  ⟨(some 40), none, .mov (.t 6)⟩,
  ⟨(some 2), none, .mov (.t 40)⟩,
  ⟨(some 3), none, .mov (.c (.int .i64 0))⟩]
@[go_sem] def verify_States_c : AC := .seq (.ops [verify_States_r0]) (.seq (.seq (.ops [verify_States_r1]) (.seq (.ops [verify_States_r2]) (.cond (.t 13) (.seq (.ops [verify_States_r3]) (.ret)) (.skip)))) (.seq (.ops [verify_States_r4_0, verify_States_r4_1]) (.seq (.ops [verify_States_r5]) (.seq (.seq (.ops [verify_States_r6]) (.block 0 (.loop verify_States_l0))) (.seq (.ops [verify_States_r13]) (.ret))))))
theorem verify_States_ok : compF Tryd.prog 10 = some (41, verify_States_c, [.t 2, .t 3]) := by kernel_rfl

@[go_sem] def scriptinglaw33_Large_r0 : List AI := [
  ⟨(some 1), none, .box 110001 11 (.t 0)⟩,
  ⟨(some 2), none, .mov (.c (.bool false))⟩]
@[go_sem] def scriptinglaw33_Large_r1 : List AI := [
  ⟨(some 6), none, .load 11 true (.t 1)⟩,
  ⟨(some 7), none, .mkrow 110007 11 [(.t 6)]⟩,
  ⟨(some 3), none, .mov (.t 7)⟩]
@[go_sem] def scriptinglaw33_Large_r2 : List AI := [
  ⟨(some 4), none, .mov (.c (.int .i64 0))⟩]
@[go_sem] def scriptinglaw33_Large_r3 : List AI := [
  ⟨(some 8), none, .mov (.t 4)⟩,
  ⟨(some 9), none, .mov (.t 3)⟩,
  ⟨(some 10), none, .len 0 (.t 9)⟩,
  ⟨(some 11), none, .bin .lss (.t 8) (.t 10)⟩]
@[go_sem] def scriptinglaw33_Large_r4 : List AI := [
  ⟨(some 14), none, .mov (.t 3)⟩,
  ⟨(some 15), none, .mov (.t 4)⟩,
  ⟨(some 16), none, .iaddr 11 (.t 14) (.t 15)⟩,
  ⟨(some 17), none, .load 11 true (.t 16)⟩,
  ⟨(some 5), none, .box 110005 11 (.c (.agg [(.str []), (.int .i64 0), (.int .i64 0), (.bool false), (.int .i64 0), .nils, .nils, .nils, .nils, .nils, .nils]))⟩,
  ⟨none, none, .store 11 (.t 5) (.t 17)⟩]
@[go_sem] def scriptinglaw33_Large_r5 : List AI := [
  ⟨(some 18), none, .faddr 5 (.t 5)⟩,
  ⟨(some 19), none, .load 1 false (.t 18)⟩,
  ⟨(some 20), none, .len 0 (.t 19)⟩,
  ⟨(some 21), none, .faddr 6 (.t 5)⟩,
  ⟨(some 22), none, .load 1 false (.t 21)⟩,
  ⟨(some 23), none, .len 0 (.t 22)⟩,
  ⟨(some 24), none, .bin .add (.t 20) (.t 23)⟩,
  ⟨(some 25), none, .faddr 7 (.t 5)⟩,
  ⟨(some 26), none, .load 1 false (.t 25)⟩,
  ⟨(some 27), none, .len 0 (.t 26)⟩,
  ⟨(some 28), none, .bin .add (.t 24) (.t 27)⟩,
  ⟨(some 29), none, .faddr 9 (.t 5)⟩,
  ⟨(some 30), none, .load 1 false (.t 29)⟩,
  ⟨(some 31), none, .len 0 (.t 30)⟩,
  ⟨(some 32), none, .bin .add (.t 28) (.t 31)⟩,
  ⟨(some 33), none, .faddr 10 (.t 5)⟩,
  ⟨(some 34), none, .load 1 false (.t 33)⟩,
  ⟨(some 35), none, .len 0 (.t 34)⟩,
  ⟨(some 36), none, .bin .add (.t 32) (.t 35)⟩,
  ⟨(some 37), none, .bin .gtr (.t 36) (.c (.int .i64 400))⟩,
  ⟨(some 38), none, .mov (.t 37)⟩,
  ⟨(some 39), (some (38, false)), .faddr 8 (.t 5)⟩,
  ⟨(some 40), (some (38, false)), .load 1 false (.t 39)⟩,
  ⟨(some 41), (some (38, false)), .len 0 (.t 40)⟩,
  ⟨(some 42), (some (38, false)), .bin .gtr (.t 41) (.c (.int .i64 40))⟩,
  ⟨(some 43), none, .pick (.t 38) (.c (.bool true)) (.t 42)⟩]
@[go_sem] def scriptinglaw33_Large_r6 : List AI := [
  ⟨(some 2), none, .mov (.c (.bool true))⟩]
@[go_sem] def scriptinglaw33_Large_r7 : List AI := [
  ⟨(some 44), none, .mov (.t 3)⟩,
  ⟨(some 45), none, .faddr 8 (.t 5)⟩,
  ⟨(some 46), none, .load 1 false (.t 45)⟩,
  ⟨(some 47), none, .app 110047 11 (.t 44) (.t 46)⟩,
  ⟨(some 3), none, .mov (.t 47)⟩]
@[go_sem] def scriptinglaw33_Large_r8 : List AI := [
  ⟨(some 48), none, .mov (.t 3)⟩,
  ⟨(some 49), none, .len 0 (.t 48)⟩,
  ⟨(some 50), none, .bin .gtr (.t 49) (.c (.int .i64 40))⟩]
@[go_sem] def scriptinglaw33_Large_r9 : List AI := [
  ⟨(some 2), none, .mov (.c (.bool true))⟩]
@[go_sem] def scriptinglaw33_Large_r10 : List AI := [
  ⟨(some 12), none, .mov (.t 4)⟩,
  ⟨(some 13), none, .bin .add (.t 12) (.c (.int .i64 1))⟩,
  ⟨(some 4), none, .mov (.t 13)⟩]
def scriptinglaw33_Large_l0 : AC := .seq (.seq (.ops [scriptinglaw33_Large_r3]) (.cond (.t 11) (.skip) (.exit 0))) (.seq (.block 1 (.seq (.ops [scriptinglaw33_Large_r4]) (.seq (.seq (.ops [scriptinglaw33_Large_r5]) (.cond (.t 43) (.seq (.ops [scriptinglaw33_Large_r6]) (.ret)) (.skip))) (.seq (.ops [scriptinglaw33_Large_r7]) (.seq (.ops [scriptinglaw33_Large_r8]) (.cond (.t 50) (.seq (.ops [scriptinglaw33_Large_r9]) (.ret)) (.skip))))))) (.ops [scriptinglaw33_Large_r10]))
theorem scriptinglaw33_Large_l0_eq : scriptinglaw33_Large_l0 = .seq (.seq (.ops [scriptinglaw33_Large_r3]) (.cond (.t 11) (.skip) (.exit 0))) (.seq (.block 1 (.seq (.ops [scriptinglaw33_Large_r4]) (.seq (.seq (.ops [scriptinglaw33_Large_r5]) (.cond (.t 43) (.seq (.ops [scriptinglaw33_Large_r6]) (.ret)) (.skip))) (.seq (.ops [scriptinglaw33_Large_r7]) (.seq (.ops [scriptinglaw33_Large_r8]) (.cond (.t 50) (.seq (.ops [scriptinglaw33_Large_r9]) (.ret)) (.skip))))))) (.ops [scriptinglaw33_Large_r10])) := rfl
@[go_sem] def scriptinglaw33_Large_r11 : List AI := [
  ⟨(some 2), none, .mov (.c (.bool false))⟩]
@[go_sem] def scriptinglaw33_Large_c : AC := .seq (.ops [scriptinglaw33_Large_r0]) (.seq (.ops [scriptinglaw33_Large_r1]) (.seq (.seq (.ops [scriptinglaw33_Large_r2]) (.block 0 (.loop scriptinglaw33_Large_l0))) (.seq (.ops [scriptinglaw33_Large_r11]) (.ret))))
theorem scriptinglaw33_Large_ok : compF Tryd.prog 11 = some (51, scriptinglaw33_Large_c, [.t 2]) := by kernel_rfl

@[go_sem] def verify_Explain_r0 : List AI := [
  ⟨(some 1), none, .box 120001 11 (.t 0)⟩,
  ⟨(some 2), none, .mov (.c .nils)⟩,
  ⟨(some 3), none, .mov (.c (.int .i64 0))⟩,
  ⟨(some 4), none, .mov (.c (.int .i64 0))⟩]
@[go_sem] def verify_Explain_r1 : List AI := [
  ⟨(some 9), none, .load 11 true (.t 1)⟩,
  ⟨(some 10), none, .call 13 [(.t 9)]⟩,
  ⟨(some 5), none, .mov (.t 10)⟩]
@[go_sem] def verify_Explain_r2 : List AI := [
  ⟨(some 11), none, .mov (.t 5)⟩,
  ⟨(some 12), none, .bin .neq (.t 11) (.c (.int .i64 0))⟩]
@[go_sem] def verify_Explain_r3 : List AI := [
  ⟨(some 13), none, .mov (.t 5)⟩,
  ⟨(some 2), none, .mov (.c .nils)⟩,
  ⟨(some 3), none, .mov (.c (.int .i64 0))⟩,
  ⟨(some 4), none, .mov (.t 13)⟩]
@[go_sem] def verify_Explain_r4 : List AI := [
  ⟨(some 15), none, .load 11 true (.t 1)⟩,
  ⟨(some 16), none, .call 16 [(.t 15), (.c .nils)]⟩,
  ⟨(some 14), none, .mov (.t 16)⟩,
  ⟨(some 17), none, .ext 0 (.t 14)⟩,
  ⟨(some 18), none, .ext 1 (.t 14)⟩,
  ⟨(some 19), none, .ext 2 (.t 14)⟩,
  ⟨(some 6), none, .mov (.t 17)⟩,
  ⟨(some 7), none, .mov (.t 18)⟩,
  ⟨(some 8), none, .mov (.t 19)⟩]
@[go_sem] def verify_Explain_r5 : List AI := [
  ⟨(some 20), none, .mov (.t 8)⟩]
@[go_sem] def verify_Explain_r6 : List AI := [
  ⟨(some 21), none, .mov (.t 6)⟩,
  ⟨(some 22), none, .mov (.t 7)⟩,
  ⟨(some 2), none, .mov (.t 21)⟩,
  ⟨(some 3), none, .mov (.t 22)⟩,
  ⟨(some 4), none, .mov (.c (.int .i64 21))⟩]
@[go_sem] def verify_Explain_r7 : List AI := [
  ⟨(some 2), none, .mov (.c .nils)⟩,
  ⟨(some 3), none, .mov (.c (.int .i64 0))⟩,
  ⟨(some 4), none, .mov (.c (.int .i64 0))⟩]
@[go_sem] def verify_Explain_c : AC := .seq (.ops [verify_Explain_r0]) (.seq (.seq (.ops [verify_Explain_r1]) (.seq (.ops [verify_Explain_r2]) (.cond (.t 12) (.seq (.ops [verify_Explain_r3]) (.ret)) (.skip)))) (.seq (.seq (.ops [verify_Explain_r4]) (.seq (.ops [verify_Explain_r5]) (.cond (.t 20) (.seq (.ops [verify_Explain_r6]) (.ret)) (.skip)))) (.seq (.ops [verify_Explain_r7]) (.ret))))
theorem verify_Explain_ok : compF Tryd.prog 12 = some (23, verify_Explain_c, [.t 2, .t 3, .t 4]) := by kernel_rfl

@[go_sem] def proto_Check_r0 : List AI := [
  ⟨(some 1), none, .box 130001 11 (.t 0)⟩,
  ⟨(some 2), none, .box 130002 1 (.c (.int .i64 0))⟩]
@[go_sem] def proto_Check_r1 : List AI := [
  ⟨(some 5), none, .load 11 true (.t 1)⟩,
  ⟨(some 6), none, .call 17 [(.t 5)]⟩,
  ⟨(some 7), none, .bin .gtr (.t 6) (.c (.int .i64 64))⟩]
@[go_sem] def proto_Check_r2 : List AI := [
  ⟨none, none, .store 1 (.t 2) (.c (.int .i64 3))⟩]
@[go_sem] def proto_Check_r3 : List AI := [
  ⟨(some 8), none, .load 11 true (.t 1)⟩,
  ⟨(some 9), none, .call 18 [(.t 8)]⟩]
@[go_sem] def proto_Check_r4 : List AI := [
  ⟨(some 3), none, .box 130003 11 (.c (.agg [(.str []), (.int .i64 0), (.int .i64 0), (.bool false), (.int .i64 0), .nils, .nils, .nils, .nils, .nils, .nils]))⟩,
  ⟨none, none, .store 11 (.t 3) (.t 10)⟩]
@[go_sem] def proto_Check_r5 : List AI := [
  ⟨(some 11), none, .load 11 true (.t 3)⟩,
  ⟨(some 12), none, .call 19 [(.t 11)]⟩,
  ⟨(some 4), none, .mov (.t 12)⟩]
@[go_sem] def proto_Check_r6 : List AI := [
  ⟨(some 13), none, .mov (.t 4)⟩,
  ⟨(some 14), none, .bin .neq (.t 13) (.c (.int .i64 0))⟩]
@[go_sem] def proto_Check_r7 : List AI := [
  ⟨(some 15), none, .mov (.t 4)⟩,
  ⟨none, none, .store 1 (.t 2) (.t 15)⟩]
def proto_Check_g0a : AC := .ops [proto_Check_r4]
theorem proto_Check_g0a_eq : proto_Check_g0a = .ops [proto_Check_r4] := rfl
def proto_Check_g0b : AC := .block 1 (.seq (.ops [proto_Check_r5]) (.seq (.ops [proto_Check_r6]) (.cond (.t 14) (.seq (.ops [proto_Check_r7]) (.ret)) (.skip))))
theorem proto_Check_g0b_eq : proto_Check_g0b = .block 1 (.seq (.ops [proto_Check_r5]) (.seq (.ops [proto_Check_r6]) (.cond (.t 14) (.seq (.ops [proto_Check_r7]) (.ret)) (.skip)))) := rfl
@[go_sem] def proto_Check_r8 : List AI := [
  ⟨none, none, .store 1 (.t 2) (.c (.int .i64 0))⟩]
@[go_sem] def proto_Check_c : AC := .seq (.ops [proto_Check_r0]) (.seq (.seq (.ops [proto_Check_r1]) (.cond (.t 7) (.seq (.ops [proto_Check_r2]) (.ret)) (.skip))) (.seq (.seq (.ops [proto_Check_r3]) (.block 0 (.rng 139010 (.t 9) [10] proto_Check_g0a proto_Check_g0b))) (.seq (.ops [proto_Check_r8]) (.ret))))
theorem proto_Check_ok : compF Tryd.prog 13 = some (16, proto_Check_c, [.c 2 1 false]) := by kernel_rfl

@[go_sem] def verify_states_r0 : List AI := [
  ⟨(some 2), none, .box 140002 11 (.t 0)⟩,
  ⟨(some 4), none, .mov (.c .nilm)⟩]
@[go_sem] def verify_states_r1 : List AI := [
  ⟨(some 14), none, .mkmap 140014⟩,
  ⟨(some 15), none, .load 11 true (.t 2)⟩,
  ⟨(some 16), none, .call 20 [(.t 15)]⟩,
  ⟨none, none, .mput 0 (.t 14) (.c (.int .i64 0)) (.t 16)⟩,
  ⟨(some 17), none, .mov (.t 14)⟩,
  ⟨(some 5), none, .mov (.t 17)⟩]
@[go_sem] def verify_states_r2 : List AI := [
  ⟨(some 6), none, .mov (.c (.bool true))⟩]
@[go_sem] def verify_states_r3 : List AI := [
  ⟨(some 18), none, .mov (.t 6)⟩]
@[go_sem] def verify_states_r4 : List AI := [
  ⟨(some 6), none, .mov (.c (.bool false))⟩]
@[go_sem] def verify_states_r5 : List AI := [
  ⟨(some 19), none, .mov (.t 1)⟩,
  ⟨(some 20), none, .len 0 (.t 19)⟩,
  ⟨(some 21), none, .mov (.c (.int .i64 0))⟩]
@[go_sem] def verify_states_r6 : List AI := [
  ⟨(some 22), none, .bin .lss (.t 21) (.t 20)⟩]
@[go_sem] def verify_states_r7 : List AI := [
  ⟨(some 23), none, .iaddr 2 (.t 19) (.t 21)⟩,
  ⟨(some 24), none, .load 2 true (.t 23)⟩,
  ⟨(some 8), none, .box 140008 2 (.c (.agg [(.int .i64 0), (.int .i64 0)]))⟩,
  ⟨none, none, .store 2 (.t 8) (.t 24)⟩]
@[go_sem] def verify_states_r8 : List AI := [
  ⟨(some 26), none, .mov (.t 5)⟩,
  ⟨(some 27), none, .iaddrA 2 1 (.t 8) (.c (.int .i64 0))⟩,
  ⟨(some 28), none, .load 1 false (.t 27)⟩,
  ⟨(some 29), none, .look 0 (.agg [.nils, (.int .i64 0), .nils]) true (.t 26) (.t 28)⟩,
  ⟨(some 25), none, .mov (.t 29)⟩,
  ⟨(some 30), none, .ext 0 (.t 25)⟩,
  ⟨(some 31), none, .ext 1 (.t 25)⟩,
  ⟨(some 9), none, .box 140009 3 (.c (.agg [.nils, (.int .i64 0), .nils]))⟩,
  ⟨none, none, .store 3 (.t 9) (.t 30)⟩,
  ⟨(some 10), none, .mov (.t 31)⟩]
@[go_sem] def verify_states_r9 : List AI := [
  ⟨(some 32), none, .mov (.t 10)⟩,
  ⟨(some 33), none, .un .not (.t 32)⟩]
@[go_sem] def verify_states_r10 : List AI := [
  ⟨(some 34), none, .load 11 true (.t 2)⟩,
  ⟨(some 35), none, .load 2 true (.t 8)⟩,
  ⟨(some 36), none, .load 3 true (.t 9)⟩,
  ⟨(some 37), none, .call 21 [(.t 34), (.t 35), (.t 36)]⟩,
  ⟨(some 11), none, .box 140011 3 (.c (.agg [.nils, (.int .i64 0), .nils]))⟩,
  ⟨none, none, .store 3 (.t 11) (.t 37)⟩]
@[go_sem] def verify_states_r11 : List AI := [
  ⟨(some 39), none, .mov (.t 5)⟩,
  ⟨(some 40), none, .iaddrA 2 1 (.t 8) (.c (.int .i64 1))⟩,
  ⟨(some 41), none, .load 1 false (.t 40)⟩,
  ⟨(some 42), none, .look 0 (.agg [.nils, (.int .i64 0), .nils]) true (.t 39) (.t 41)⟩,
  ⟨(some 38), none, .mov (.t 42)⟩,
  ⟨(some 43), none, .ext 0 (.t 38)⟩,
  ⟨(some 44), none, .ext 1 (.t 38)⟩,
  ⟨(some 12), none, .box 140012 3 (.c (.agg [.nils, (.int .i64 0), .nils]))⟩,
  ⟨none, none, .store 3 (.t 12) (.t 43)⟩,
  ⟨(some 13), none, .mov (.t 44)⟩]
@[go_sem] def verify_states_r12 : List AI := [
  ⟨(some 45), none, .mov (.t 13)⟩,
  ⟨(some 46), none, .un .not (.t 45)⟩]
@[go_sem] def verify_states_r13 : List AI := [
  ⟨(some 47), none, .mov (.t 5)⟩,
  ⟨(some 48), none, .iaddrA 2 1 (.t 8) (.c (.int .i64 1))⟩,
  ⟨(some 49), none, .load 1 false (.t 48)⟩,
  ⟨(some 50), none, .load 3 true (.t 11)⟩,
  ⟨none, none, .mput 0 (.t 47) (.t 49) (.t 50)⟩]
@[go_sem] def verify_states_r14 : List AI := [
  ⟨(some 6), none, .mov (.c (.bool true))⟩]
@[go_sem] def verify_states_r15 : List AI := [
  ⟨(some 51), none, .load 3 true (.t 12)⟩,
  ⟨(some 52), none, .load 3 true (.t 11)⟩,
  ⟨(some 53), none, .call 22 [(.t 51), (.t 52)]⟩]
@[go_sem] def verify_states_r16 : List AI := [
  ⟨(some 6), none, .mov (.c (.bool true))⟩]
@[go_sem] def verify_states_r17 : List AI := [
  ⟨(some 54), none, .bin .add (.t 21) (.c (.int .i64 1))⟩,
  ⟨(some 21), none, .mov (.t 54)⟩]
def verify_states_l1 : AC := .seq (.ops [verify_states_r6]) (.seq (.cond (.t 22) (.skip) (.exit 2)) (.seq (.block 3 (.seq (.ops [verify_states_r7]) (.seq (.ops [verify_states_r8]) (.seq (.seq (.ops [verify_states_r9]) (.cond (.t 33) (.exit 3) (.skip))) (.seq (.ops [verify_states_r10]) (.seq (.ops [verify_states_r11]) (.seq (.ops [verify_states_r12]) (.cond (.t 46) (.seq (.ops [verify_states_r13]) (.ops [verify_states_r14])) (.seq (.ops [verify_states_r15]) (.cond (.t 53) (.ops [verify_states_r16]) (.skip))))))))))) (.ops [verify_states_r17])))
theorem verify_states_l1_eq : verify_states_l1 = .seq (.ops [verify_states_r6]) (.seq (.cond (.t 22) (.skip) (.exit 2)) (.seq (.block 3 (.seq (.ops [verify_states_r7]) (.seq (.ops [verify_states_r8]) (.seq (.seq (.ops [verify_states_r9]) (.cond (.t 33) (.exit 3) (.skip))) (.seq (.ops [verify_states_r10]) (.seq (.ops [verify_states_r11]) (.seq (.ops [verify_states_r12]) (.cond (.t 46) (.seq (.ops [verify_states_r13]) (.ops [verify_states_r14])) (.seq (.ops [verify_states_r15]) (.cond (.t 53) (.ops [verify_states_r16]) (.skip))))))))))) (.ops [verify_states_r17]))) := rfl
def verify_states_l0 : AC := .seq (.seq (.ops [verify_states_r3]) (.cond (.t 18) (.skip) (.exit 0))) (.block 1 (.seq (.ops [verify_states_r4]) (.seq (.ops [verify_states_r5]) (.block 2 (.loop verify_states_l1)))))
theorem verify_states_l0_eq : verify_states_l0 = .seq (.seq (.ops [verify_states_r3]) (.cond (.t 18) (.skip) (.exit 0))) (.block 1 (.seq (.ops [verify_states_r4]) (.seq (.ops [verify_states_r5]) (.block 2 (.loop verify_states_l1))))) := rfl
@[go_sem] def verify_states_r18 : List AI := [
  ⟨(some 55), none, .mov (.t 5)⟩,
  ⟨(some 4), none, .mov (.t 55)⟩]
@[go_sem] def verify_states_c : AC := .seq (.ops [verify_states_r0]) (.seq (.ops [verify_states_r1]) (.seq (.seq (.ops [verify_states_r2]) (.block 0 (.loop verify_states_l0))) (.seq (.ops [verify_states_r18]) (.ret))))
theorem verify_states_ok : compF Tryd.prog 14 = some (56, verify_states_c, [.t 4]) := by kernel_rfl

@[go_sem] def verify_edges_r0 : List AI := [
  ⟨(some 1), none, .box 150001 11 (.t 0)⟩,
  ⟨(some 2), none, .mov (.c .nils)⟩]
@[go_sem] def verify_edges_r1 : List AI := [
  ⟨(some 3), none, .mov (.c .nils)⟩]
@[go_sem] def verify_edges_r2 : List AI := [
  ⟨(some 7), none, .faddr 5 (.t 1)⟩,
  ⟨(some 8), none, .load 1 false (.t 7)⟩,
  ⟨(some 9), none, .len 0 (.t 8)⟩,
  ⟨(some 10), none, .mov (.c (.int .i64 0))⟩]
@[go_sem] def verify_edges_r3 : List AI := [
  ⟨(some 11), none, .bin .lss (.t 10) (.t 9)⟩]
@[go_sem] def verify_edges_r4 : List AI := [
  ⟨(some 12), none, .mov (.t 10)⟩,
  ⟨(some 4), none, .mov (.t 12)⟩]
@[go_sem] def verify_edges_r5 : List AI := [
  ⟨(some 13), none, .load 11 true (.t 1)⟩,
  ⟨(some 14), none, .mov (.t 4)⟩,
  ⟨(some 15), none, .call 23 [(.t 13), (.t 14)]⟩,
  ⟨(some 16), none, .len 0 (.t 15)⟩,
  ⟨(some 17), none, .mov (.c (.int .i64 0))⟩]
@[go_sem] def verify_edges_r6 : List AI := [
  ⟨(some 18), none, .bin .lss (.t 17) (.t 16)⟩]
@[go_sem] def verify_edges_r7 : List AI := [
  ⟨(some 19), none, .iaddr 1 (.t 15) (.t 17)⟩,
  ⟨(some 20), none, .load 1 false (.t 19)⟩,
  ⟨(some 6), none, .mov (.t 20)⟩]
@[go_sem] def verify_edges_r8 : List AI := [
  ⟨(some 21), none, .mov (.t 3)⟩,
  ⟨(some 22), none, .mov (.t 4)⟩,
  ⟨(some 23), none, .mov (.t 6)⟩,
  ⟨(some 24), none, .build [(.int .i64 0), (.int .i64 0)] [(0, 1, (.t 22)), (1, 1, (.t 23))]⟩,
  ⟨(some 25), none, .mkisl 2 [(.t 24)]⟩,
  ⟨(some 26), none, .app 150026 2 (.t 21) (.t 25)⟩,
  ⟨(some 3), none, .mov (.t 26)⟩]
@[go_sem] def verify_edges_r9 : List AI := [
  ⟨(some 27), none, .bin .add (.t 17) (.c (.int .i64 1))⟩,
  ⟨(some 17), none, .mov (.t 27)⟩]
def verify_edges_l1 : AC := .seq (.ops [verify_edges_r6]) (.seq (.cond (.t 18) (.skip) (.exit 2)) (.seq (.block 3 (.seq (.ops [verify_edges_r7]) (.ops [verify_edges_r8]))) (.ops [verify_edges_r9])))
theorem verify_edges_l1_eq : verify_edges_l1 = .seq (.ops [verify_edges_r6]) (.seq (.cond (.t 18) (.skip) (.exit 2)) (.seq (.block 3 (.seq (.ops [verify_edges_r7]) (.ops [verify_edges_r8]))) (.ops [verify_edges_r9]))) := rfl
@[go_sem] def verify_edges_r10 : List AI := [
  ⟨(some 28), none, .bin .add (.t 10) (.c (.int .i64 1))⟩,
  ⟨(some 10), none, .mov (.t 28)⟩]
def verify_edges_l0 : AC := .seq (.ops [verify_edges_r3]) (.seq (.cond (.t 11) (.skip) (.exit 0)) (.seq (.block 1 (.seq (.ops [verify_edges_r4]) (.seq (.ops [verify_edges_r5]) (.block 2 (.loop verify_edges_l1))))) (.ops [verify_edges_r10])))
theorem verify_edges_l0_eq : verify_edges_l0 = .seq (.ops [verify_edges_r3]) (.seq (.cond (.t 11) (.skip) (.exit 0)) (.seq (.block 1 (.seq (.ops [verify_edges_r4]) (.seq (.ops [verify_edges_r5]) (.block 2 (.loop verify_edges_l1))))) (.ops [verify_edges_r10]))) := rfl
@[go_sem] def verify_edges_r11 : List AI := [
  ⟨(some 29), none, .mov (.t 3)⟩,
  ⟨(some 2), none, .mov (.t 29)⟩]
@[go_sem] def verify_edges_c : AC := .seq (.ops [verify_edges_r0]) (.seq (.ops [verify_edges_r1]) (.seq (.seq (.ops [verify_edges_r2]) (.block 0 (.loop verify_edges_l0))) (.seq (.ops [verify_edges_r11]) (.ret))))
theorem verify_edges_ok : compF Tryd.prog 15 = some (30, verify_edges_c, [.t 2]) := by kernel_rfl

@[go_sem] def verify_search_r0 : List AI := [
  ⟨(some 2), none, .box 160002 11 (.t 0)⟩,
  ⟨(some 4), none, .mov (.c .nils)⟩,
  ⟨(some 5), none, .mov (.c (.int .i64 0))⟩,
  ⟨(some 6), none, .mov (.c (.bool false))⟩]
@[go_sem] def verify_search_r1 : List AI := [
  ⟨(some 13), none, .load 11 true (.t 2)⟩,
  ⟨(some 14), none, .call 24 [(.t 13)]⟩,
  ⟨(some 7), none, .mov (.t 14)⟩]
@[go_sem] def verify_search_r2 : List AI := [
  ⟨(some 15), none, .mov (.t 7)⟩,
  ⟨(some 16), none, .bin .geq (.t 15) (.c (.int .i64 0))⟩]
@[go_sem] def verify_search_r3 : List AI := [
  ⟨(some 17), none, .mov (.t 1)⟩,
  ⟨(some 18), none, .mov (.t 7)⟩,
  ⟨(some 4), none, .mov (.t 17)⟩,
  ⟨(some 5), none, .mov (.t 18)⟩,
  ⟨(some 6), none, .mov (.c (.bool true))⟩]
@[go_sem] def verify_search_r4 : List AI := [
  ⟨(some 19), none, .faddr 8 (.t 2)⟩,
  ⟨(some 20), none, .load 1 false (.t 19)⟩,
  ⟨(some 21), none, .len 0 (.t 20)⟩,
  ⟨(some 22), none, .mov (.c (.int .i64 0))⟩]
@[go_sem] def verify_search_r5 : List AI := [
  ⟨(some 23), none, .bin .lss (.t 22) (.t 21)⟩]
@[go_sem] def verify_search_r6 : List AI := [
  ⟨(some 24), none, .mov (.t 22)⟩,
  ⟨(some 25), none, .iaddr 11 (.t 20) (.t 22)⟩,
  ⟨(some 26), none, .load 11 true (.t 25)⟩,
  ⟨(some 9), none, .box 160009 11 (.c (.agg [(.str []), (.int .i64 0), (.int .i64 0), (.bool false), (.int .i64 0), .nils, .nils, .nils, .nils, .nils, .nils]))⟩,
  ⟨(some 8), none, .mov (.t 24)⟩,
  ⟨none, none, .store 11 (.t 9) (.t 26)⟩]
@[go_sem] def verify_search_r7_0 : List AI := [
  ⟨(some 28), none, .load 11 true (.t 9)⟩,
  ⟨(some 29), none, .mov (.t 1)⟩,
  ⟨(some 31), none, .mov (.t 8)⟩,
  ⟨(some 32), none, .mkisl 1 [(.t 31)]⟩,
  ⟨(some 30), none, .call 25 [(.t 29)]⟩,
  ⟨(some 33), none, .app 160033 1 (.t 30) (.t 32)⟩,
  ⟨(some 34), none, .call 16 [(.t 28), (.t 33)]⟩,
  ⟨(some 27), none, .mov (.t 34)⟩,
  ⟨(some 35), none, .ext 0 (.t 27)⟩,
  ⟨(some 36), none, .ext 1 (.t 27)⟩,
  ⟨(some 37), none, .ext 2 (.t 27)⟩,
  ⟨(some 10), none, .mov (.t 35)⟩,
  ⟨(some 11), none, .mov (.t 36)⟩,
  ⟨(some 12), none, .mov (.t 37)⟩]
@[go_sem] def verify_search_r7_1 : List AI := [
  ⟨(some 29), none, .mov (.t 1)⟩,
  ⟨(some 31), none, .mov (.t 8)⟩,
  ⟨(some 32), none, .mkisl 1 [(.t 31)]⟩,
  ⟨(some 30), none, .call 25 [(.t 29)]⟩,
  ⟨(some 28), none, .load 11 true (.t 9)⟩,
  ⟨(some 33), none, .app 160033 1 (.t 30) (.t 32)⟩,
  ⟨(some 34), none, .call 16 [(.t 28), (.t 33)]⟩,
  ⟨(some 27), none, .mov (.t 34)⟩,
  ⟨(some 35), none, .ext 0 (.t 27)⟩,
  ⟨(some 36), none, .ext 1 (.t 27)⟩,
  ⟨(some 37), none, .ext 2 (.t 27)⟩,
  ⟨(some 10), none, .mov (.t 35)⟩,
  ⟨(some 11), none, .mov (.t 36)⟩,
  ⟨(some 12), none, .mov (.t 37)⟩]
@[go_sem] def verify_search_r7_2 : List AI := [
  ⟨(some 29), none, .mov (.t 1)⟩,
  ⟨(some 31), none, .mov (.t 8)⟩,
  ⟨(some 32), none, .mkisl 1 [(.t 31)]⟩,
  ⟨(some 30), none, .call 25 [(.t 29)]⟩,
  ⟨(some 33), none, .app 160033 1 (.t 30) (.t 32)⟩,
  ⟨(some 28), none, .load 11 true (.t 9)⟩,
  ⟨(some 34), none, .call 16 [(.t 28), (.t 33)]⟩,
  ⟨(some 27), none, .mov (.t 34)⟩,
  ⟨(some 35), none, .ext 0 (.t 27)⟩,
  ⟨(some 36), none, .ext 1 (.t 27)⟩,
  ⟨(some 37), none, .ext 2 (.t 27)⟩,
  ⟨(some 10), none, .mov (.t 35)⟩,
  ⟨(some 11), none, .mov (.t 36)⟩,
  ⟨(some 12), none, .mov (.t 37)⟩]
@[go_sem] def verify_search_r8 : List AI := [
  ⟨(some 38), none, .mov (.t 12)⟩]
@[go_sem] def verify_search_r9 : List AI := [
  ⟨(some 39), none, .mov (.t 10)⟩,
  ⟨(some 40), none, .mov (.t 11)⟩,
  ⟨(some 4), none, .mov (.t 39)⟩,
  ⟨(some 5), none, .mov (.t 40)⟩,
  ⟨(some 6), none, .mov (.c (.bool true))⟩]
@[go_sem] def verify_search_r10 : List AI := [
  ⟨(some 41), none, .bin .add (.t 22) (.c (.int .i64 1))⟩,
  ⟨(some 22), none, .mov (.t 41)⟩]
def verify_search_l0 : AC := .seq (.ops [verify_search_r5]) (.seq (.cond (.t 23) (.skip) (.exit 0)) (.seq (.block 1 (.seq (.ops [verify_search_r6]) (.seq (.ops [verify_search_r7_0, verify_search_r7_1, verify_search_r7_2]) (.seq (.ops [verify_search_r8]) (.cond (.t 38) (.seq (.ops [verify_search_r9]) (.ret)) (.skip)))))) (.ops [verify_search_r10])))
theorem verify_search_l0_eq : verify_search_l0 = .seq (.ops [verify_search_r5]) (.seq (.cond (.t 23) (.skip) (.exit 0)) (.seq (.block 1 (.seq (.ops [verify_search_r6]) (.seq (.ops [verify_search_r7_0, verify_search_r7_1, verify_search_r7_2]) (.seq (.ops [verify_search_r8]) (.cond (.t 38) (.seq (.ops [verify_search_r9]) (.ret)) (.skip)))))) (.ops [verify_search_r10]))) := rfl
@[go_sem] def verify_search_r11 : List AI := [
  ⟨(some 4), none, .mov (.c .nils)⟩,
  ⟨(some 5), none, .mov (.c (.int .i64 0))⟩,
  ⟨(some 6), none, .mov (.c (.bool false))⟩]
@[go_sem] def verify_search_c : AC := .seq (.ops [verify_search_r0]) (.seq (.seq (.ops [verify_search_r1]) (.seq (.ops [verify_search_r2]) (.cond (.t 16) (.seq (.ops [verify_search_r3]) (.ret)) (.skip)))) (.seq (.seq (.ops [verify_search_r4]) (.block 0 (.loop verify_search_l0))) (.seq (.ops [verify_search_r11]) (.ret))))
theorem verify_search_ok : compF Tryd.prog 16 = some (42, verify_search_c, [.t 4, .t 5, .t 6]) := by kernel_rfl

@[go_sem] def proto_depth_r0 : List AI := [
  ⟨(some 1), none, .box 170001 11 (.t 0)⟩,
  ⟨(some 2), none, .mov (.c (.int .i64 0))⟩]
@[go_sem] def proto_depth_r1 : List AI := [
  ⟨(some 3), none, .mov (.c (.int .i64 0))⟩]
@[go_sem] def proto_depth_r2 : List AI := [
  ⟨(some 6), none, .faddr 8 (.t 1)⟩,
  ⟨(some 7), none, .load 1 false (.t 6)⟩,
  ⟨(some 8), none, .len 0 (.t 7)⟩,
  ⟨(some 9), none, .mov (.c (.int .i64 0))⟩]
@[go_sem] def proto_depth_r3 : List AI := [
  ⟨(some 10), none, .bin .lss (.t 9) (.t 8)⟩]
@[go_sem] def proto_depth_r4 : List AI := [
  ⟨(some 11), none, .iaddr 11 (.t 7) (.t 9)⟩,
  ⟨(some 12), none, .load 11 true (.t 11)⟩,
  ⟨(some 5), none, .box 170005 11 (.c (.agg [(.str []), (.int .i64 0), (.int .i64 0), (.bool false), (.int .i64 0), .nils, .nils, .nils, .nils, .nils, .nils]))⟩,
  ⟨none, none, .store 11 (.t 5) (.t 12)⟩]
@[go_sem] def proto_depth_r5 : List AI := [
  ⟨(some 13), none, .mov (.t 3)⟩,
  ⟨(some 14), none, .load 11 true (.t 5)⟩,
  ⟨(some 15), none, .call 17 [(.t 14)]⟩,
  ⟨(some 16), none, .mm true [(.t 13), (.t 15)]⟩,
  ⟨(some 3), none, .mov (.t 16)⟩]
@[go_sem] def proto_depth_r6 : List AI := [
  ⟨(some 17), none, .bin .add (.t 9) (.c (.int .i64 1))⟩,
  ⟨(some 9), none, .mov (.t 17)⟩]
def proto_depth_l0 : AC := .seq (.ops [proto_depth_r3]) (.seq (.cond (.t 10) (.skip) (.exit 0)) (.seq (.block 1 (.seq (.ops [proto_depth_r4]) (.ops [proto_depth_r5]))) (.ops [proto_depth_r6])))
theorem proto_depth_l0_eq : proto_depth_l0 = .seq (.ops [proto_depth_r3]) (.seq (.cond (.t 10) (.skip) (.exit 0)) (.seq (.block 1 (.seq (.ops [proto_depth_r4]) (.ops [proto_depth_r5]))) (.ops [proto_depth_r6]))) := rfl
@[go_sem] def proto_depth_r7 : List AI := [
  ⟨(some 18), none, .mov (.t 3)⟩,
  ⟨(some 19), none, .bin .add (.t 18) (.c (.int .i64 1))⟩,
  ⟨(some 2), none, .mov (.t 19)⟩]
@[go_sem] def proto_depth_c : AC := .seq (.ops [proto_depth_r0]) (.seq (.ops [proto_depth_r1]) (.seq (.seq (.ops [proto_depth_r2]) (.block 0 (.loop proto_depth_l0))) (.seq (.ops [proto_depth_r7]) (.ret))))
theorem proto_depth_ok : compF Tryd.prog 17 = some (20, proto_depth_c, [.t 2]) := by kernel_rfl

@[go_sem] def proto_Each_r0 : List AI := [
  ⟨(some 1), none, .box 180001 11 (.t 0)⟩,
  ⟨(some 2), none, .mov (.c (.cst .nilFunc))⟩]
@[go_sem] def proto_Each_r1 : List AI := [
  ⟨(some 3), none, .mkfn 26 [(.t 1)]⟩,
  ⟨(some 2), none, .mov (.t 3)⟩]
@[go_sem] def proto_Each_c : AC := .seq (.ops [proto_Each_r0]) (.seq (.ops [proto_Each_r1]) (.ret))
theorem proto_Each_ok : compF Tryd.prog 18 = some (4, proto_Each_c, [.t 2]) := by kernel_rfl

@[go_sem] def proto_single_r0 : List AI := [
  ⟨(some 1), none, .box 190001 11 (.t 0)⟩,
  ⟨(some 2), none, .mov (.c (.int .i64 0))⟩]
@[go_sem] def proto_single_r1 : List AI := [
  ⟨(some 12), none, .load 11 true (.t 1)⟩,
  ⟨(some 13), none, .call 29 [(.t 12)]⟩,
  ⟨(some 3), none, .mov (.t 13)⟩]
@[go_sem] def proto_single_r2 : List AI := [
  ⟨(some 14), none, .mov (.t 3)⟩,
  ⟨(some 15), none, .bin .neq (.t 14) (.c (.int .i64 0))⟩]
@[go_sem] def proto_single_r3 : List AI := [
  ⟨(some 16), none, .mov (.t 3)⟩,
  ⟨(some 2), none, .mov (.t 16)⟩]
@[go_sem] def proto_single_r4 : List AI := [
  ⟨(some 17), none, .load 11 true (.t 1)⟩,
  ⟨(some 18), none, .call 30 [(.t 17)]⟩,
  ⟨(some 4), none, .mov (.t 18)⟩]
@[go_sem] def proto_single_r5 : List AI := [
  ⟨(some 19), none, .mov (.t 4)⟩,
  ⟨(some 20), none, .bin .neq (.t 19) (.c (.int .i64 0))⟩]
@[go_sem] def proto_single_r6 : List AI := [
  ⟨(some 21), none, .mov (.t 4)⟩,
  ⟨(some 2), none, .mov (.t 21)⟩]
@[go_sem] def proto_single_r7 : List AI := [
  ⟨(some 22), none, .faddr 5 (.t 1)⟩,
  ⟨(some 23), none, .load 1 false (.t 22)⟩,
  ⟨(some 24), none, .len 0 (.t 23)⟩,
  ⟨(some 25), none, .mov (.c (.int .i64 0))⟩]
@[go_sem] def proto_single_r8 : List AI := [
  ⟨(some 26), none, .bin .lss (.t 25) (.t 24)⟩]
@[go_sem] def proto_single_r9 : List AI := [
  ⟨(some 27), none, .iaddr 5 (.t 23) (.t 25)⟩,
  ⟨(some 28), none, .load 5 true (.t 27)⟩,
  ⟨(some 6), none, .box 190006 5 (.c (.agg [(.int .i64 0), (.int .i64 0), (.int .i64 0), (.int .i64 0), (.int .i64 0)]))⟩,
  ⟨none, none, .store 5 (.t 6) (.t 28)⟩]
@[go_sem] def proto_single_r10 : List AI := [
  ⟨(some 29), none, .load 11 true (.t 1)⟩,
  ⟨(some 30), none, .load 5 true (.t 6)⟩,
  ⟨(some 31), none, .call 31 [(.t 29), (.t 30)]⟩,
  ⟨(some 7), none, .mov (.t 31)⟩]
@[go_sem] def proto_single_r11 : List AI := [
  ⟨(some 32), none, .mov (.t 7)⟩,
  ⟨(some 33), none, .bin .neq (.t 32) (.c (.int .i64 0))⟩]
@[go_sem] def proto_single_r12 : List AI := [
  ⟨(some 34), none, .mov (.t 7)⟩,
  ⟨(some 2), none, .mov (.t 34)⟩]
@[go_sem] def proto_single_r13 : List AI := [
  ⟨(some 35), none, .bin .add (.t 25) (.c (.int .i64 1))⟩,
  ⟨(some 25), none, .mov (.t 35)⟩]
def proto_single_l0 : AC := .seq (.ops [proto_single_r8]) (.seq (.cond (.t 26) (.skip) (.exit 0)) (.seq (.block 1 (.seq (.ops [proto_single_r9]) (.seq (.ops [proto_single_r10]) (.seq (.ops [proto_single_r11]) (.cond (.t 33) (.seq (.ops [proto_single_r12]) (.ret)) (.skip)))))) (.ops [proto_single_r13])))
theorem proto_single_l0_eq : proto_single_l0 = .seq (.ops [proto_single_r8]) (.seq (.cond (.t 26) (.skip) (.exit 0)) (.seq (.block 1 (.seq (.ops [proto_single_r9]) (.seq (.ops [proto_single_r10]) (.seq (.ops [proto_single_r11]) (.cond (.t 33) (.seq (.ops [proto_single_r12]) (.ret)) (.skip)))))) (.ops [proto_single_r13]))) := rfl
@[go_sem] def proto_single_r14 : List AI := [
  ⟨(some 36), none, .faddr 8 (.t 1)⟩,
  ⟨(some 37), none, .load 1 false (.t 36)⟩,
  ⟨(some 38), none, .len 0 (.t 37)⟩,
  ⟨(some 39), none, .mov (.c (.int .i64 0))⟩]
@[go_sem] def proto_single_r15 : List AI := [
  ⟨(some 40), none, .bin .lss (.t 39) (.t 38)⟩]
@[go_sem] def proto_single_r16 : List AI := [
  ⟨(some 41), none, .iaddr 11 (.t 37) (.t 39)⟩,
  ⟨(some 42), none, .load 11 true (.t 41)⟩,
  ⟨(some 9), none, .box 190009 11 (.c (.agg [(.str []), (.int .i64 0), (.int .i64 0), (.bool false), (.int .i64 0), .nils, .nils, .nils, .nils, .nils, .nils]))⟩,
  ⟨none, none, .store 11 (.t 9) (.t 42)⟩]
@[go_sem] def proto_single_r17 : List AI := [
  ⟨(some 43), none, .faddr 9 (.t 9)⟩,
  ⟨(some 44), none, .load 1 false (.t 43)⟩,
  ⟨(some 45), none, .len 0 (.t 44)⟩,
  ⟨(some 46), none, .mov (.c (.int .i64 0))⟩]
@[go_sem] def proto_single_r18 : List AI := [
  ⟨(some 47), none, .bin .lss (.t 46) (.t 45)⟩]
@[go_sem] def proto_single_r19 : List AI := [
  ⟨(some 48), none, .iaddr 3 (.t 44) (.t 46)⟩,
  ⟨(some 49), none, .load 3 true (.t 48)⟩,
  ⟨(some 11), none, .box 190011 3 (.c (.agg [(.str []), (.bool false), (.int .i64 0)]))⟩,
  ⟨none, none, .store 3 (.t 11) (.t 49)⟩]
@[go_sem] def proto_single_r20 : List AI := [
  ⟨(some 50), none, .faddr 1 (.t 11)⟩,
  ⟨(some 51), none, .load 1 false (.t 50)⟩,
  ⟨(some 52), none, .mov (.t 51)⟩,
  ⟨(some 53), (some (52, true)), .faddr 2 (.t 11)⟩,
  ⟨(some 54), (some (52, true)), .load 1 false (.t 53)⟩,
  ⟨(some 55), (some (52, true)), .faddr 4 (.t 1)⟩,
  ⟨(some 56), (some (52, true)), .load 1 false (.t 55)⟩,
  ⟨(some 57), (some (52, true)), .bin .geq (.t 54) (.t 56)⟩,
  ⟨(some 58), none, .pick (.t 52) (.t 57) (.c (.bool false))⟩,
  ⟨(some 59), none, .mov (.t 58)⟩,
  ⟨(some 60), (some (59, false)), .faddr 1 (.t 11)⟩,
  ⟨(some 61), (some (59, false)), .load 1 false (.t 60)⟩,
  ⟨(some 62), (some (59, false)), .un .not (.t 61)⟩,
  ⟨(some 63), (some (59, false)), .mov (.t 62)⟩,
  ⟨(some 64), (some (63, true)), .faddr 2 (.t 11)⟩,
  ⟨(some 65), (some (63, true)), .load 1 false (.t 64)⟩,
  ⟨(some 66), (some (63, true)), .faddr 9 (.t 1)⟩,
  ⟨(some 67), (some (63, true)), .load 1 false (.t 66)⟩,
  ⟨(some 68), (some (63, true)), .len 0 (.t 67)⟩,
  ⟨(some 69), (some (63, true)), .bin .geq (.t 65) (.t 68)⟩,
  ⟨(some 70), (some (59, false)), .pick (.t 63) (.t 69) (.c (.bool false))⟩,
  ⟨(some 71), none, .pick (.t 59) (.c (.bool true)) (.t 70)⟩]
@[go_sem] def proto_single_r21 : List AI := [
  ⟨(some 2), none, .mov (.c (.int .i64 4))⟩]
@[go_sem] def proto_single_r22 : List AI := [
  ⟨(some 72), none, .bin .add (.t 46) (.c (.int .i64 1))⟩,
  ⟨(some 46), none, .mov (.t 72)⟩]
def proto_single_l2 : AC := .seq (.ops [proto_single_r18]) (.seq (.cond (.t 47) (.skip) (.exit 4)) (.seq (.block 5 (.seq (.ops [proto_single_r19]) (.seq (.ops [proto_single_r20]) (.cond (.t 71) (.seq (.ops [proto_single_r21]) (.ret)) (.skip))))) (.ops [proto_single_r22])))
theorem proto_single_l2_eq : proto_single_l2 = .seq (.ops [proto_single_r18]) (.seq (.cond (.t 47) (.skip) (.exit 4)) (.seq (.block 5 (.seq (.ops [proto_single_r19]) (.seq (.ops [proto_single_r20]) (.cond (.t 71) (.seq (.ops [proto_single_r21]) (.ret)) (.skip))))) (.ops [proto_single_r22]))) := rfl
@[go_sem] def proto_single_r23 : List AI := [
  ⟨(some 73), none, .bin .add (.t 39) (.c (.int .i64 1))⟩,
  ⟨(some 39), none, .mov (.t 73)⟩]
def proto_single_l1 : AC := .seq (.ops [proto_single_r15]) (.seq (.cond (.t 40) (.skip) (.exit 2)) (.seq (.block 3 (.seq (.ops [proto_single_r16]) (.seq (.ops [proto_single_r17]) (.block 4 (.loop proto_single_l2))))) (.ops [proto_single_r23])))
theorem proto_single_l1_eq : proto_single_l1 = .seq (.ops [proto_single_r15]) (.seq (.cond (.t 40) (.skip) (.exit 2)) (.seq (.block 3 (.seq (.ops [proto_single_r16]) (.seq (.ops [proto_single_r17]) (.block 4 (.loop proto_single_l2))))) (.ops [proto_single_r23]))) := rfl
@[go_sem] def proto_single_r24 : List AI := [
  ⟨(some 2), none, .mov (.c (.int .i64 0))⟩]
@[go_sem] def proto_single_c : AC := .seq (.ops [proto_single_r0]) (.seq (.seq (.ops [proto_single_r1]) (.seq (.ops [proto_single_r2]) (.cond (.t 15) (.seq (.ops [proto_single_r3]) (.ret)) (.skip)))) (.seq (.seq (.ops [proto_single_r4]) (.seq (.ops [proto_single_r5]) (.cond (.t 20) (.seq (.ops [proto_single_r6]) (.ret)) (.skip)))) (.seq (.seq (.ops [proto_single_r7]) (.block 0 (.loop proto_single_l0))) (.seq (.seq (.ops [proto_single_r14]) (.block 2 (.loop proto_single_l1))) (.seq (.ops [proto_single_r24]) (.ret))))))
theorem proto_single_ok : compF Tryd.prog 19 = some (74, proto_single_c, [.t 2]) := by kernel_rfl

@[go_sem] def verify_entry_r0 : List AI := [
  ⟨(some 1), none, .box 200001 11 (.t 0)⟩,
  ⟨(some 2), none, .box 200002 3 (.c (.agg [.nils, (.int .i64 0), .nils]))⟩]
@[go_sem] def verify_entry_r1 : List AI := [
  ⟨(some 5), none, .faddr 4 (.t 1)⟩,
  ⟨(some 6), none, .load 1 false (.t 5)⟩,
  ⟨(some 7), none, .mksl 200007 [(.bool false)] (.t 6)⟩,
  ⟨(some 8), none, .build [.nils, (.int .i64 0), .nils] [(0, 1, (.t 7)), (1, 1, (.c (.int .i64 (-1))))]⟩,
  ⟨(some 3), none, .box 200003 3 (.c (.agg [.nils, (.int .i64 0), .nils]))⟩,
  ⟨none, none, .store 3 (.t 3) (.t 8)⟩]
@[go_sem] def verify_entry_r2 : List AI := [
  ⟨(some 9), none, .faddr 2 (.t 1)⟩,
  ⟨(some 10), none, .load 1 false (.t 9)⟩,
  ⟨(some 11), none, .mov (.c (.int .i64 0))⟩]
@[go_sem] def verify_entry_r3 : List AI := [
  ⟨(some 12), none, .bin .lss (.t 11) (.t 10)⟩]
@[go_sem] def verify_entry_r4 : List AI := [
  ⟨(some 13), none, .mov (.t 11)⟩,
  ⟨(some 4), none, .mov (.t 13)⟩]
@[go_sem] def verify_entry_r5 : List AI := [
  ⟨(some 14), none, .faddr 0 (.t 3)⟩,
  ⟨(some 15), none, .load 1 false (.t 14)⟩,
  ⟨(some 16), none, .mov (.t 4)⟩,
  ⟨(some 17), none, .iaddr 1 (.t 15) (.t 16)⟩,
  ⟨none, none, .store 1 (.t 17) (.c (.bool true))⟩]
@[go_sem] def verify_entry_r6 : List AI := [
  ⟨(some 18), none, .bin .add (.t 11) (.c (.int .i64 1))⟩,
  ⟨(some 11), none, .mov (.t 18)⟩]
def verify_entry_l0 : AC := .seq (.ops [verify_entry_r3]) (.seq (.cond (.t 12) (.skip) (.exit 0)) (.seq (.block 1 (.seq (.ops [verify_entry_r4]) (.ops [verify_entry_r5]))) (.ops [verify_entry_r6])))
theorem verify_entry_l0_eq : verify_entry_l0 = .seq (.ops [verify_entry_r3]) (.seq (.cond (.t 12) (.skip) (.exit 0)) (.seq (.block 1 (.seq (.ops [verify_entry_r4]) (.ops [verify_entry_r5]))) (.ops [verify_entry_r6]))) := rfl
@[go_sem] def verify_entry_r7 : List AI := [
  ⟨(some 19), none, .load 3 true (.t 3)⟩,
  ⟨none, none, .store 3 (.t 2) (.t 19)⟩]
@[go_sem] def verify_entry_c : AC := .seq (.ops [verify_entry_r0]) (.seq (.ops [verify_entry_r1]) (.seq (.seq (.ops [verify_entry_r2]) (.block 0 (.loop verify_entry_l0))) (.seq (.ops [verify_entry_r7]) (.ret))))
theorem verify_entry_ok : compF Tryd.prog 20 = some (20, verify_entry_c, [.c 2 3 true]) := by kernel_rfl

@[go_sem] def verify_passed_r0 : List AI := [
  ⟨(some 3), none, .box 210003 11 (.t 0)⟩,
  ⟨(some 4), none, .box 210004 2 (.t 1)⟩,
  ⟨(some 5), none, .box 210005 3 (.t 2)⟩,
  ⟨(some 6), none, .box 210006 3 (.c (.agg [.nils, (.int .i64 0), .nils]))⟩]
@[go_sem] def verify_passed_r1 : List AI := [
  ⟨(some 10), none, .faddr 5 (.t 3)⟩,
  ⟨(some 11), none, .load 1 false (.t 10)⟩,
  ⟨(some 12), none, .iaddrA 2 1 (.t 4) (.c (.int .i64 0))⟩,
  ⟨(some 13), none, .load 1 false (.t 12)⟩,
  ⟨(some 14), none, .iaddr 5 (.t 11) (.t 13)⟩,
  ⟨(some 15), none, .load 5 true (.t 14)⟩,
  ⟨(some 7), none, .box 210007 5 (.c (.agg [(.int .i64 0), (.int .i64 0), (.int .i64 0), (.int .i64 0), (.int .i64 0)]))⟩,
  ⟨none, none, .store 5 (.t 7) (.t 15)⟩]
@[go_sem] def verify_passed_r2 : List AI := [
  ⟨(some 16), none, .load 5 true (.t 7)⟩,
  ⟨(some 17), none, .load 3 true (.t 5)⟩,
  ⟨(some 18), none, .call 32 [(.t 16), (.t 17)]⟩,
  ⟨(some 8), none, .box 210008 3 (.c (.agg [.nils, (.int .i64 0), .nils]))⟩,
  ⟨none, none, .store 3 (.t 8) (.t 18)⟩]
@[go_sem] def verify_passed_r3 : List AI := [
  ⟨(some 19), none, .faddr 0 (.t 7)⟩,
  ⟨(some 20), none, .load 1 false (.t 19)⟩,
  ⟨(some 21), none, .bin .eql (.t 20) (.c (.int .i64 23))⟩,
  ⟨(some 22), none, .mov (.t 21)⟩,
  ⟨(some 23), (some (22, true)), .iaddrA 2 1 (.t 4) (.c (.int .i64 1))⟩,
  ⟨(some 24), (some (22, true)), .load 1 false (.t 23)⟩,
  ⟨(some 25), (some (22, true)), .faddr 2 (.t 7)⟩,
  ⟨(some 26), (some (22, true)), .load 1 false (.t 25)⟩,
  ⟨(some 27), (some (22, true)), .bin .eql (.t 24) (.t 26)⟩,
  ⟨(some 28), none, .pick (.t 22) (.t 27) (.c (.bool false))⟩,
  ⟨(some 29), none, .mov (.t 28)⟩,
  ⟨(some 30), (some (29, false)), .faddr 0 (.t 7)⟩,
  ⟨(some 31), (some (29, false)), .load 1 false (.t 30)⟩,
  ⟨(some 32), (some (29, false)), .bin .eql (.t 31) (.c (.int .i64 24))⟩,
  ⟨(some 33), (some (29, false)), .mov (.t 32)⟩,
  ⟨(some 34), (some (33, true)), .iaddrA 2 1 (.t 4) (.c (.int .i64 1))⟩,
  ⟨(some 35), (some (33, true)), .load 1 false (.t 34)⟩,
  ⟨(some 36), (some (33, true)), .faddr 2 (.t 7)⟩,
  ⟨(some 37), (some (33, true)), .load 1 false (.t 36)⟩,
  ⟨(some 38), (some (33, true)), .bin .neq (.t 35) (.t 37)⟩,
  ⟨(some 39), (some (33, true)), .mov (.t 38)⟩,
  ⟨(some 40), (some (39, false)), .faddr 2 (.t 7)⟩,
  ⟨(some 41), (some (39, false)), .load 1 false (.t 40)⟩,
  ⟨(some 42), (some (39, false)), .iaddrA 2 1 (.t 4) (.c (.int .i64 0))⟩,
  ⟨(some 43), (some (39, false)), .load 1 false (.t 42)⟩,
  ⟨(some 44), (some (39, false)), .bin .add (.t 43) (.c (.int .i64 1))⟩,
  ⟨(some 45), (some (39, false)), .bin .eql (.t 41) (.t 44)⟩,
  ⟨(some 46), (some (33, true)), .pick (.t 39) (.c (.bool true)) (.t 45)⟩,
  ⟨(some 47), (some (29, false)), .pick (.t 33) (.t 46) (.c (.bool false))⟩,
  ⟨(some 48), none, .pick (.t 29) (.c (.bool true)) (.t 47)⟩,
  ⟨(some 9), none, .mov (.t 48)⟩]
@[go_sem] def verify_passed_r4 : List AI := [
  ⟨(some 49), none, .mov (.t 9)⟩,
  ⟨(some 50), none, .mov (.t 49)⟩,
  ⟨(some 51), (some (50, true)), .faddr 0 (.t 5)⟩,
  ⟨(some 52), (some (50, true)), .load 1 false (.t 51)⟩,
  ⟨(some 53), (some (50, true)), .faddr 1 (.t 7)⟩,
  ⟨(some 54), (some (50, true)), .load 1 false (.t 53)⟩,
  ⟨(some 55), (some (50, true)), .bin .add (.t 54) (.c (.int .i64 3))⟩,
  ⟨(some 56), (some (50, true)), .iaddr 1 (.t 52) (.t 55)⟩,
  ⟨(some 57), (some (50, true)), .load 1 false (.t 56)⟩,
  ⟨(some 58), (some (50, true)), .un .not (.t 57)⟩,
  ⟨(some 59), none, .pick (.t 50) (.t 58) (.c (.bool false))⟩]
@[go_sem] def verify_passed_r5 : List AI := [
  ⟨(some 60), none, .faddr 0 (.t 8)⟩,
  ⟨(some 61), none, .load 1 false (.t 60)⟩,
  ⟨(some 62), none, .faddr 1 (.t 7)⟩,
  ⟨(some 63), none, .load 1 false (.t 62)⟩,
  ⟨(some 64), none, .bin .add (.t 63) (.c (.int .i64 3))⟩,
  ⟨(some 65), none, .iaddr 1 (.t 61) (.t 64)⟩,
  ⟨none, none, .store 1 (.t 65) (.c (.bool false))⟩]
@[go_sem] def verify_passed_r6 : List AI := [
  ⟨(some 66), none, .load 3 true (.t 8)⟩,
  ⟨none, none, .store 3 (.t 6) (.t 66)⟩]
@[go_sem] def verify_passed_c : AC := .seq (.ops [verify_passed_r0]) (.seq (.ops [verify_passed_r1]) (.seq (.ops [verify_passed_r2]) (.seq (.ops [verify_passed_r3]) (.seq (.seq (.ops [verify_passed_r4]) (.cond (.t 59) (.ops [verify_passed_r5]) (.skip))) (.seq (.ops [verify_passed_r6]) (.ret))))))
theorem verify_passed_ok : compF Tryd.prog 21 = some (67, verify_passed_c, [.c 6 3 true]) := by kernel_rfl

@[go_sem] def verify_join_r0 : List AI := [
  ⟨(some 2), none, .box 220002 3 (.t 0)⟩,
  ⟨(some 3), none, .box 220003 3 (.t 1)⟩,
  ⟨(some 4), none, .mov (.c (.bool false))⟩]
@[go_sem] def verify_join_r1 : List AI := [
  ⟨(some 5), none, .mov (.c (.bool false))⟩]
@[go_sem] def verify_join_r2 : List AI := [
  ⟨(some 7), none, .faddr 0 (.t 2)⟩,
  ⟨(some 8), none, .load 1 false (.t 7)⟩,
  ⟨(some 9), none, .len 0 (.t 8)⟩,
  ⟨(some 10), none, .mov (.c (.int .i64 0))⟩]
@[go_sem] def verify_join_r3 : List AI := [
  ⟨(some 11), none, .bin .lss (.t 10) (.t 9)⟩]
@[go_sem] def verify_join_r4 : List AI := [
  ⟨(some 12), none, .mov (.t 10)⟩,
  ⟨(some 6), none, .mov (.t 12)⟩]
@[go_sem] def verify_join_r5 : List AI := [
  ⟨(some 13), none, .faddr 0 (.t 2)⟩,
  ⟨(some 14), none, .load 1 false (.t 13)⟩,
  ⟨(some 15), none, .mov (.t 6)⟩,
  ⟨(some 16), none, .iaddr 1 (.t 14) (.t 15)⟩,
  ⟨(some 17), none, .load 1 false (.t 16)⟩,
  ⟨(some 18), none, .mov (.t 17)⟩,
  ⟨(some 19), (some (18, true)), .faddr 0 (.t 3)⟩,
  ⟨(some 20), (some (18, true)), .load 1 false (.t 19)⟩,
  ⟨(some 21), (some (18, true)), .mov (.t 6)⟩,
  ⟨(some 22), (some (18, true)), .iaddr 1 (.t 20) (.t 21)⟩,
  ⟨(some 23), (some (18, true)), .load 1 false (.t 22)⟩,
  ⟨(some 24), (some (18, true)), .un .not (.t 23)⟩,
  ⟨(some 25), none, .pick (.t 18) (.t 24) (.c (.bool false))⟩]
@[go_sem] def verify_join_r6 : List AI := [
  ⟨(some 26), none, .faddr 0 (.t 2)⟩,
  ⟨(some 27), none, .load 1 false (.t 26)⟩,
  ⟨(some 28), none, .mov (.t 6)⟩,
  ⟨(some 29), none, .iaddr 1 (.t 27) (.t 28)⟩,
  ⟨none, none, .store 1 (.t 29) (.c (.bool false))⟩]
@[go_sem] def verify_join_r7 : List AI := [
  ⟨(some 5), none, .mov (.c (.bool true))⟩]
@[go_sem] def verify_join_r8 : List AI := [
  ⟨(some 30), none, .bin .add (.t 10) (.c (.int .i64 1))⟩,
  ⟨(some 10), none, .mov (.t 30)⟩]
def verify_join_l0 : AC := .seq (.ops [verify_join_r3]) (.seq (.cond (.t 11) (.skip) (.exit 0)) (.seq (.block 1 (.seq (.ops [verify_join_r4]) (.seq (.ops [verify_join_r5]) (.cond (.t 25) (.seq (.ops [verify_join_r6]) (.ops [verify_join_r7])) (.skip))))) (.ops [verify_join_r8])))
theorem verify_join_l0_eq : verify_join_l0 = .seq (.ops [verify_join_r3]) (.seq (.cond (.t 11) (.skip) (.exit 0)) (.seq (.block 1 (.seq (.ops [verify_join_r4]) (.seq (.ops [verify_join_r5]) (.cond (.t 25) (.seq (.ops [verify_join_r6]) (.ops [verify_join_r7])) (.skip))))) (.ops [verify_join_r8]))) := rfl
@[go_sem] def verify_join_r9 : List AI := [
  ⟨(some 31), none, .mov (.t 5)⟩,
  ⟨(some 4), none, .mov (.t 31)⟩]
@[go_sem] def verify_join_c : AC := .seq (.ops [verify_join_r0]) (.seq (.ops [verify_join_r1]) (.seq (.seq (.ops [verify_join_r2]) (.block 0 (.loop verify_join_l0))) (.seq (.ops [verify_join_r9]) (.ret))))
theorem verify_join_ok : compF Tryd.prog 22 = some (32, verify_join_c, [.t 4]) := by kernel_rfl

@[go_sem] def flow_Next_r0 : List AI := [
  ⟨(some 2), none, .box 230002 11 (.t 0)⟩,
  ⟨(some 4), none, .mov (.c .nils)⟩]
@[go_sem] def flow_Next_r1 : List AI := [
  ⟨(some 8), none, .mov (.t 1)⟩,
  ⟨(some 9), none, .bin .lss (.t 8) (.c (.int .i64 0))⟩,
  ⟨(some 10), none, .mov (.t 9)⟩,
  ⟨(some 11), (some (10, false)), .mov (.t 1)⟩,
  ⟨(some 12), (some (10, false)), .faddr 5 (.t 2)⟩,
  ⟨(some 13), (some (10, false)), .load 1 false (.t 12)⟩,
  ⟨(some 14), (some (10, false)), .len 0 (.t 13)⟩,
  ⟨(some 15), (some (10, false)), .bin .geq (.t 11) (.t 14)⟩,
  ⟨(some 16), none, .pick (.t 10) (.c (.bool true)) (.t 15)⟩]
@[go_sem] def flow_Next_r2 : List AI := [
  ⟨(some 4), none, .mov (.c .nils)⟩]
@[go_sem] def flow_Next_r3 : List AI := [
  ⟨(some 5), none, .mov (.c .nils)⟩]
@[go_sem] def flow_Next_r4 : List AI := [
  ⟨(some 18), none, .faddr 5 (.t 2)⟩,
  ⟨(some 19), none, .load 1 false (.t 18)⟩,
  ⟨(some 20), none, .mov (.t 1)⟩,
  ⟨(some 21), none, .iaddr 5 (.t 19) (.t 20)⟩,
  ⟨(some 22), none, .load 5 true (.t 21)⟩,
  ⟨(some 23), none, .call 33 [(.t 22)]⟩,
  ⟨(some 17), none, .mov (.t 23)⟩,
  ⟨(some 24), none, .ext 0 (.t 17)⟩,
  ⟨(some 25), none, .ext 1 (.t 17)⟩,
  ⟨(some 6), none, .mov (.t 24)⟩,
  ⟨(some 7), none, .mov (.t 25)⟩]
@[go_sem] def flow_Next_r5 : List AI := [
  ⟨(some 26), none, .mov (.t 7)⟩,
  ⟨(some 27), none, .mov (.t 26)⟩,
  ⟨(some 28), (some (27, true)), .mov (.t 6)⟩,
  ⟨(some 29), (some (27, true)), .bin .geq (.t 28) (.c (.int .i64 0))⟩,
  ⟨(some 30), none, .pick (.t 27) (.t 29) (.c (.bool false))⟩,
  ⟨(some 31), none, .mov (.t 30)⟩,
  ⟨(some 32), (some (31, true)), .mov (.t 6)⟩,
  ⟨(some 33), (some (31, true)), .faddr 5 (.t 2)⟩,
  ⟨(some 34), (some (31, true)), .load 1 false (.t 33)⟩,
  ⟨(some 35), (some (31, true)), .len 0 (.t 34)⟩,
  ⟨(some 36), (some (31, true)), .bin .lss (.t 32) (.t 35)⟩,
  ⟨(some 37), none, .pick (.t 31) (.t 36) (.c (.bool false))⟩]
@[go_sem] def flow_Next_r6 : List AI := [
  ⟨(some 38), none, .mov (.t 5)⟩,
  ⟨(some 39), none, .mov (.t 6)⟩,
  ⟨(some 40), none, .mkisl 1 [(.t 39)]⟩,
  ⟨(some 41), none, .app 230041 1 (.t 38) (.t 40)⟩,
  ⟨(some 5), none, .mov (.t 41)⟩]
@[go_sem] def flow_Next_r7 : List AI := [
  ⟨(some 42), none, .faddr 5 (.t 2)⟩,
  ⟨(some 43), none, .load 1 false (.t 42)⟩,
  ⟨(some 44), none, .mov (.t 1)⟩,
  ⟨(some 45), none, .iaddr 5 (.t 43) (.t 44)⟩,
  ⟨(some 46), none, .load 5 true (.t 45)⟩,
  ⟨(some 47), none, .call 34 [(.t 46)]⟩,
  ⟨(some 48), none, .mov (.t 47)⟩,
  ⟨(some 49), (some (48, true)), .mov (.t 1)⟩,
  ⟨(some 50), (some (48, true)), .bin .add (.t 49) (.c (.int .i64 1))⟩,
  ⟨(some 51), (some (48, true)), .faddr 5 (.t 2)⟩,
  ⟨(some 52), (some (48, true)), .load 1 false (.t 51)⟩,
  ⟨(some 53), (some (48, true)), .len 0 (.t 52)⟩,
  ⟨(some 54), (some (48, true)), .bin .lss (.t 50) (.t 53)⟩,
  ⟨(some 55), none, .pick (.t 48) (.t 54) (.c (.bool false))⟩]
@[go_sem] def flow_Next_r8 : List AI := [
  ⟨(some 56), none, .mov (.t 5)⟩,
  ⟨(some 57), none, .mov (.t 1)⟩,
  ⟨(some 58), none, .bin .add (.t 57) (.c (.int .i64 1))⟩,
  ⟨(some 59), none, .mkisl 1 [(.t 58)]⟩,
  ⟨(some 60), none, .app 230060 1 (.t 56) (.t 59)⟩,
  ⟨(some 5), none, .mov (.t 60)⟩]
@[go_sem] def flow_Next_r9 : List AI := [
  ⟨(some 61), none, .mov (.t 5)⟩,
  ⟨(some 62), none, .call 35 [(.t 61)]⟩]
@[go_sem] def flow_Next_r10 : List AI := [
  ⟨(some 63), none, .mov (.t 5)⟩,
  ⟨(some 64), none, .call 36 [(.t 63)]⟩,
  ⟨(some 4), none, .mov (.t 64)⟩]
@[go_sem] def flow_Next_c : AC := .seq (.ops [flow_Next_r0]) (.seq (.seq (.ops [flow_Next_r1]) (.cond (.t 16) (.seq (.ops [flow_Next_r2]) (.ret)) (.skip))) (.seq (.ops [flow_Next_r3]) (.seq (.seq (.ops [flow_Next_r4]) (.seq (.ops [flow_Next_r5]) (.cond (.t 37) (.ops [flow_Next_r6]) (.skip)))) (.seq (.seq (.ops [flow_Next_r7]) (.cond (.t 55) (.ops [flow_Next_r8]) (.skip))) (.seq (.ops [flow_Next_r9]) (.seq (.ops [flow_Next_r10]) (.ret)))))))
theorem flow_Next_ok : compF Tryd.prog 23 = some (65, flow_Next_c, [.t 4]) := by kernel_rfl

@[go_sem] def verify_first_r0 : List AI := [
  ⟨(some 1), none, .box 240001 11 (.t 0)⟩,
  ⟨(some 2), none, .mov (.c (.int .i64 0))⟩]
@[go_sem] def verify_first_r1_0 : List AI := [
  ⟨(some 5), none, .load 11 true (.t 1)⟩,
  ⟨(some 6), none, .load 11 true (.t 1)⟩,
  ⟨(some 7), none, .call 15 [(.t 6)]⟩,
  ⟨(some 8), none, .call 14 [(.t 5), (.t 7)]⟩,
  ⟨(some 3), none, .mov (.t 8)⟩]
@[go_sem] def verify_first_r1_1 : List AI := [
  ⟨(some 6), none, .load 11 true (.t 1)⟩,
  ⟨(some 7), none, .call 15 [(.t 6)]⟩,
  ⟨(some 5), none, .load 11 true (.t 1)⟩,
  ⟨(some 8), none, .call 14 [(.t 5), (.t 7)]⟩,
  ⟨(some 3), none, .mov (.t 8)⟩]
@[go_sem] def verify_first_r2 : List AI := [
  ⟨(some 9), none, .faddr 5 (.t 1)⟩,
  ⟨(some 10), none, .load 1 false (.t 9)⟩,
  ⟨(some 11), none, .len 0 (.t 10)⟩,
  ⟨(some 12), none, .mov (.c (.int .i64 0))⟩]
@[go_sem] def verify_first_r3 : List AI := [
  ⟨(some 13), none, .bin .lss (.t 12) (.t 11)⟩]
@[go_sem] def verify_first_r4 : List AI := [
  ⟨(some 14), none, .mov (.t 12)⟩,
  ⟨(some 4), none, .mov (.t 14)⟩]
@[go_sem] def verify_first_r5 : List AI := [
  ⟨(some 15), none, .load 11 true (.t 1)⟩,
  ⟨(some 16), none, .mov (.t 4)⟩,
  ⟨(some 17), none, .mov (.t 3)⟩,
  ⟨(some 18), none, .call 37 [(.t 15), (.t 16), (.t 17)]⟩]
@[go_sem] def verify_first_r6 : List AI := [
  ⟨(some 19), none, .mov (.t 4)⟩,
  ⟨(some 2), none, .mov (.t 19)⟩]
@[go_sem] def verify_first_r7 : List AI := [
  ⟨(some 20), none, .bin .add (.t 12) (.c (.int .i64 1))⟩,
  ⟨(some 12), none, .mov (.t 20)⟩]
def verify_first_l0 : AC := .seq (.ops [verify_first_r3]) (.seq (.cond (.t 13) (.skip) (.exit 0)) (.seq (.block 1 (.seq (.ops [verify_first_r4]) (.seq (.ops [verify_first_r5]) (.cond (.t 18) (.seq (.ops [verify_first_r6]) (.ret)) (.skip))))) (.ops [verify_first_r7])))
theorem verify_first_l0_eq : verify_first_l0 = .seq (.ops [verify_first_r3]) (.seq (.cond (.t 13) (.skip) (.exit 0)) (.seq (.block 1 (.seq (.ops [verify_first_r4]) (.seq (.ops [verify_first_r5]) (.cond (.t 18) (.seq (.ops [verify_first_r6]) (.ret)) (.skip))))) (.ops [verify_first_r7]))) := rfl
@[go_sem] def verify_first_r8 : List AI := [
  ⟨(some 2), none, .mov (.c (.int .i64 (-1)))⟩]
@[go_sem] def verify_first_c : AC := .seq (.ops [verify_first_r0]) (.seq (.ops [verify_first_r1_0, verify_first_r1_1]) (.seq (.seq (.ops [verify_first_r2]) (.block 0 (.loop verify_first_l0))) (.seq (.ops [verify_first_r8]) (.ret))))
theorem verify_first_ok : compF Tryd.prog 24 = some (21, verify_first_c, [.t 2]) := by kernel_rfl

@[go_sem] def slices_Clone_int_int_r0 : List AI := [
  ⟨(some 2), none, .mov (.c .nils)⟩]
@[go_sem] def slices_Clone_int_int_r1 : List AI := [
  ⟨(some 3), none, .mov (.t 0)⟩,
  ⟨(some 4), none, .eqn false false (.t 3)⟩]
@[go_sem] def slices_Clone_int_int_r2 : List AI := [
  ⟨(some 2), none, .mov (.c .nils)⟩]
@[go_sem] def slices_Clone_int_int_r3 : List AI := [
  ⟨(some 5), none, .mkrow 250005 1 []⟩,
  ⟨(some 6), none, .mov (.t 0)⟩,
  ⟨(some 7), none, .app 250007 1 (.t 5) (.t 6)⟩,
  ⟨(some 2), none, .mov (.t 7)⟩]
@[go_sem] def slices_Clone_int_int_c : AC := .seq (.ops [slices_Clone_int_int_r0]) (.seq (.seq (.ops [slices_Clone_int_int_r1]) (.cond (.t 4) (.seq (.ops [slices_Clone_int_int_r2]) (.ret)) (.skip))) (.seq (.ops [slices_Clone_int_int_r3]) (.ret)))
theorem slices_Clone_int_int_ok : compF Tryd.prog 25 = some (8, slices_Clone_int_int_c, [.t 2]) := by kernel_rfl

@[go_sem] def proto_Each_1_r0 : List AI := [
  ⟨(some 3), none, .load 11 true (.t 1)⟩,
  ⟨(some 4), none, .call 28 [(.t 3)]⟩,
  ⟨(some 5), none, .mov (.t 0)⟩,
  ⟨(some 6), none, .call 27 [(.t 4), (.t 5)]⟩]
@[go_sem] def proto_Each_1_c : AC := .ops [proto_Each_1_r0]
theorem proto_Each_1_ok : compF Tryd.prog 26 = some (7, proto_Each_1_c, []) := by kernel_rfl

@[go_sem] def proto_walk_r0 : List AI := [
  ⟨(some 2), none, .box 270002 11 (.t 0)⟩,
  ⟨(some 4), none, .mov (.c (.bool false))⟩]
@[go_sem] def proto_walk_r1 : List AI := [
  ⟨(some 7), none, .mov (.t 1)⟩,
  ⟨(some 8), none, .load 11 true (.t 2)⟩,
  ⟨(some 9), none, .callv (.t 7) [(.t 8)]⟩,
  ⟨(some 10), none, .un .not (.t 9)⟩]
@[go_sem] def proto_walk_r2 : List AI := [
  ⟨(some 4), none, .mov (.c (.bool false))⟩]
@[go_sem] def proto_walk_r3 : List AI := [
  ⟨(some 11), none, .faddr 8 (.t 2)⟩,
  ⟨(some 12), none, .load 1 false (.t 11)⟩,
  ⟨(some 13), none, .len 0 (.t 12)⟩,
  ⟨(some 14), none, .mov (.c (.int .i64 0))⟩]
@[go_sem] def proto_walk_r4 : List AI := [
  ⟨(some 15), none, .bin .lss (.t 14) (.t 13)⟩]
@[go_sem] def proto_walk_r5 : List AI := [
  ⟨(some 16), none, .iaddr 11 (.t 12) (.t 14)⟩,
  ⟨(some 17), none, .load 11 true (.t 16)⟩,
  ⟨(some 6), none, .box 270006 11 (.c (.agg [(.str []), (.int .i64 0), (.int .i64 0), (.bool false), (.int .i64 0), .nils, .nils, .nils, .nils, .nils, .nils]))⟩,
  ⟨none, none, .store 11 (.t 6) (.t 17)⟩]
@[go_sem] def proto_walk_r6 : List AI := [
  ⟨(some 18), none, .load 11 true (.t 6)⟩,
  ⟨(some 19), none, .mov (.t 1)⟩,
  ⟨(some 20), none, .call 27 [(.t 18), (.t 19)]⟩,
  ⟨(some 21), none, .un .not (.t 20)⟩]
@[go_sem] def proto_walk_r7 : List AI := [
  ⟨(some 4), none, .mov (.c (.bool false))⟩]
@[go_sem] def proto_walk_r8 : List AI := [
  ⟨(some 22), none, .bin .add (.t 14) (.c (.int .i64 1))⟩,
  ⟨(some 14), none, .mov (.t 22)⟩]
def proto_walk_l0 : AC := .seq (.ops [proto_walk_r4]) (.seq (.cond (.t 15) (.skip) (.exit 0)) (.seq (.block 1 (.seq (.ops [proto_walk_r5]) (.seq (.ops [proto_walk_r6]) (.cond (.t 21) (.seq (.ops [proto_walk_r7]) (.ret)) (.skip))))) (.ops [proto_walk_r8])))
theorem proto_walk_l0_eq : proto_walk_l0 = .seq (.ops [proto_walk_r4]) (.seq (.cond (.t 15) (.skip) (.exit 0)) (.seq (.block 1 (.seq (.ops [proto_walk_r5]) (.seq (.ops [proto_walk_r6]) (.cond (.t 21) (.seq (.ops [proto_walk_r7]) (.ret)) (.skip))))) (.ops [proto_walk_r8]))) := rfl
@[go_sem] def proto_walk_r9 : List AI := [
  ⟨(some 4), none, .mov (.c (.bool true))⟩]
@[go_sem] def proto_walk_c : AC := .seq (.ops [proto_walk_r0]) (.seq (.seq (.ops [proto_walk_r1]) (.cond (.t 10) (.seq (.ops [proto_walk_r2]) (.ret)) (.skip))) (.seq (.seq (.ops [proto_walk_r3]) (.block 0 (.loop proto_walk_l0))) (.seq (.ops [proto_walk_r9]) (.ret))))
theorem proto_walk_ok : compF Tryd.prog 27 = some (23, proto_walk_c, [.t 4]) := by kernel_rfl

@[go_sem] def proto_copied_r0 : List AI := [
  ⟨(some 1), none, .box 280001 11 (.t 0)⟩,
  ⟨(some 2), none, .box 280002 11 (.c (.agg [(.str []), (.int .i64 0), (.int .i64 0), (.bool false), (.int .i64 0), .nils, .nils, .nils, .nils, .nils, .nils]))⟩]
@[go_sem] def proto_copied_r1 : List AI := [
  ⟨(some 6), none, .faddr 5 (.t 1)⟩,
  ⟨(some 7), none, .load 1 false (.t 6)⟩,
  ⟨(some 9), none, .faddr 6 (.t 1)⟩,
  ⟨(some 10), none, .load 1 false (.t 9)⟩,
  ⟨(some 12), none, .faddr 7 (.t 1)⟩,
  ⟨(some 13), none, .load 1 false (.t 12)⟩,
  ⟨(some 15), none, .faddr 9 (.t 1)⟩,
  ⟨(some 16), none, .load 1 false (.t 15)⟩,
  ⟨(some 18), none, .faddr 10 (.t 1)⟩,
  ⟨(some 19), none, .load 1 false (.t 18)⟩,
  ⟨(some 8), none, .pcall 38 [(.t 7)]⟩,
  ⟨(some 21), none, .faddr 5 (.t 1)⟩,
  ⟨(some 11), none, .pcall 25 [(.t 10)]⟩,
  ⟨(some 14), none, .pcall 39 [(.t 13)]⟩,
  ⟨(some 17), none, .pcall 40 [(.t 16)]⟩,
  ⟨(some 20), none, .pcall 41 [(.t 19)]⟩,
  ⟨none, none, .store 1 (.t 21) (.t 8)⟩,
  ⟨(some 22), none, .faddr 6 (.t 1)⟩,
  ⟨none, none, .store 1 (.t 22) (.t 11)⟩,
  ⟨(some 23), none, .faddr 7 (.t 1)⟩,
  ⟨none, none, .store 1 (.t 23) (.t 14)⟩,
  ⟨(some 24), none, .faddr 9 (.t 1)⟩,
  ⟨none, none, .store 1 (.t 24) (.t 17)⟩,
  ⟨(some 25), none, .faddr 10 (.t 1)⟩,
  ⟨none, none, .store 1 (.t 25) (.t 20)⟩]
@[go_sem] def proto_copied_r2 : List AI := [
  ⟨(some 3), none, .mov (.c .nils)⟩]
@[go_sem] def proto_copied_r3 : List AI := [
  ⟨(some 26), none, .faddr 8 (.t 1)⟩,
  ⟨(some 27), none, .load 1 false (.t 26)⟩,
  ⟨(some 28), none, .len 0 (.t 27)⟩,
  ⟨(some 29), none, .mov (.c (.int .i64 0))⟩]
@[go_sem] def proto_copied_r4 : List AI := [
  ⟨(some 30), none, .bin .lss (.t 29) (.t 28)⟩]
@[go_sem] def proto_copied_r5 : List AI := [
  ⟨(some 31), none, .iaddr 11 (.t 27) (.t 29)⟩,
  ⟨(some 32), none, .load 11 true (.t 31)⟩,
  ⟨(some 5), none, .box 280005 11 (.c (.agg [(.str []), (.int .i64 0), (.int .i64 0), (.bool false), (.int .i64 0), .nils, .nils, .nils, .nils, .nils, .nils]))⟩,
  ⟨none, none, .store 11 (.t 5) (.t 32)⟩]
@[go_sem] def proto_copied_r6 : List AI := [
  ⟨(some 33), none, .mov (.t 3)⟩,
  ⟨(some 34), none, .load 11 true (.t 5)⟩,
  ⟨(some 35), none, .call 28 [(.t 34)]⟩,
  ⟨(some 36), none, .mkisl 11 [(.t 35)]⟩,
  ⟨(some 37), none, .app 280037 11 (.t 33) (.t 36)⟩,
  ⟨(some 3), none, .mov (.t 37)⟩]
@[go_sem] def proto_copied_r7 : List AI := [
  ⟨(some 38), none, .bin .add (.t 29) (.c (.int .i64 1))⟩,
  ⟨(some 29), none, .mov (.t 38)⟩]
def proto_copied_l0 : AC := .seq (.ops [proto_copied_r4]) (.seq (.cond (.t 30) (.skip) (.exit 0)) (.seq (.block 1 (.seq (.ops [proto_copied_r5]) (.ops [proto_copied_r6]))) (.ops [proto_copied_r7])))
theorem proto_copied_l0_eq : proto_copied_l0 = .seq (.ops [proto_copied_r4]) (.seq (.cond (.t 30) (.skip) (.exit 0)) (.seq (.block 1 (.seq (.ops [proto_copied_r5]) (.ops [proto_copied_r6]))) (.ops [proto_copied_r7]))) := rfl
@[go_sem] def proto_copied_r8 : List AI := [
  ⟨(some 39), none, .mov (.t 3)⟩,
  ⟨(some 40), none, .faddr 8 (.t 1)⟩,
  ⟨none, none, .store 1 (.t 40) (.t 39)⟩]
@[go_sem] def proto_copied_r9 : List AI := [
  ⟨(some 41), none, .load 11 true (.t 1)⟩,
  ⟨none, none, .store 11 (.t 2) (.t 41)⟩]
@[go_sem] def proto_copied_c : AC := .seq (.ops [proto_copied_r0]) (.seq (.ops [proto_copied_r1]) (.seq (.ops [proto_copied_r2]) (.seq (.seq (.ops [proto_copied_r3]) (.block 0 (.loop proto_copied_l0))) (.seq (.ops [proto_copied_r8]) (.seq (.ops [proto_copied_r9]) (.ret))))))
theorem proto_copied_ok : compF Tryd.prog 28 = some (42, proto_copied_c, [.c 2 11 true]) := by kernel_rfl

@[go_sem] def proto_limits_r0 : List AI := [
  ⟨(some 1), none, .box 290001 11 (.t 0)⟩,
  ⟨(some 2), none, .mov (.c (.int .i64 0))⟩]
@[go_sem] def proto_limits_r1 : List AI := [
  ⟨(some 4), none, .faddr 5 (.t 1)⟩,
  ⟨(some 5), none, .load 1 false (.t 4)⟩,
  ⟨(some 6), none, .len 0 (.t 5)⟩,
  ⟨(some 7), none, .bin .gtr (.t 6) (.c (.int .i64 16384))⟩,
  ⟨(some 8), none, .mov (.t 7)⟩,
  ⟨(some 9), (some (8, false)), .faddr 7 (.t 1)⟩,
  ⟨(some 10), (some (8, false)), .load 1 false (.t 9)⟩,
  ⟨(some 11), (some (8, false)), .len 0 (.t 10)⟩,
  ⟨(some 12), (some (8, false)), .bin .gtr (.t 11) (.c (.int .i64 4096))⟩,
  ⟨(some 13), none, .pick (.t 8) (.c (.bool true)) (.t 12)⟩,
  ⟨(some 14), none, .mov (.t 13)⟩,
  ⟨(some 15), (some (14, false)), .faddr 8 (.t 1)⟩,
  ⟨(some 16), (some (14, false)), .load 1 false (.t 15)⟩,
  ⟨(some 17), (some (14, false)), .len 0 (.t 16)⟩,
  ⟨(some 18), (some (14, false)), .bin .gtr (.t 17) (.c (.int .i64 1024))⟩,
  ⟨(some 19), none, .pick (.t 14) (.c (.bool true)) (.t 18)⟩,
  ⟨(some 20), none, .mov (.t 19)⟩,
  ⟨(some 21), (some (20, false)), .faddr 9 (.t 1)⟩,
  ⟨(some 22), (some (20, false)), .load 1 false (.t 21)⟩,
  ⟨(some 23), (some (20, false)), .len 0 (.t 22)⟩,
  ⟨(some 24), (some (20, false)), .bin .gtr (.t 23) (.c (.int .i64 60))⟩,
  ⟨(some 25), none, .pick (.t 20) (.c (.bool true)) (.t 24)⟩,
  ⟨(some 26), none, .mov (.t 25)⟩,
  ⟨(some 27), (some (26, false)), .faddr 10 (.t 1)⟩,
  ⟨(some 28), (some (26, false)), .load 1 false (.t 27)⟩,
  ⟨(some 29), (some (26, false)), .len 0 (.t 28)⟩,
  ⟨(some 30), (some (26, false)), .bin .gtr (.t 29) (.c (.int .i64 16384))⟩,
  ⟨(some 31), none, .pick (.t 26) (.c (.bool true)) (.t 30)⟩,
  ⟨(some 32), none, .mov (.t 31)⟩,
  ⟨(some 33), (some (32, false)), .faddr 4 (.t 1)⟩,
  ⟨(some 34), (some (32, false)), .load 1 false (.t 33)⟩,
  ⟨(some 35), (some (32, false)), .bin .gtr (.t 34) (.c (.int .i64 4096))⟩,
  ⟨(some 36), none, .pick (.t 32) (.c (.bool true)) (.t 35)⟩,
  ⟨(some 37), none, .mov (.t 36)⟩,
  ⟨(some 38), (some (37, false)), .faddr 0 (.t 1)⟩,
  ⟨(some 39), (some (37, false)), .load 1 false (.t 38)⟩,
  ⟨(some 40), (some (37, false)), .len 1 (.t 39)⟩,
  ⟨(some 41), (some (37, false)), .bin .gtr (.t 40) (.c (.int .i64 4096))⟩,
  ⟨(some 42), none, .pick (.t 37) (.c (.bool true)) (.t 41)⟩]
@[go_sem] def proto_limits_r2 : List AI := [
  ⟨(some 2), none, .mov (.c (.int .i64 3))⟩]
@[go_sem] def proto_limits_r3 : List AI := [
  ⟨(some 3), none, .box 290003 1 (.c (.cst .nilFunc))⟩,
  ⟨none, none, .store 1 (.t 3) (.f 42)⟩]
@[go_sem] def proto_limits_r4 : List AI := [
  ⟨(some 43), none, .faddr 9 (.t 1)⟩,
  ⟨(some 44), none, .load 1 false (.t 43)⟩,
  ⟨(some 45), none, .mkfn 44 [(.t 3)]⟩,
  ⟨(some 46), none, .call 43 [(.t 44), (.t 45)]⟩,
  ⟨(some 47), none, .mov (.t 46)⟩,
  ⟨(some 48), (some (47, false)), .faddr 10 (.t 1)⟩,
  ⟨(some 49), (some (47, false)), .load 1 false (.t 48)⟩,
  ⟨(some 50), (some (47, false)), .mkfn 46 [(.t 3)]⟩,
  ⟨(some 51), (some (47, false)), .call 45 [(.t 49), (.t 50)]⟩,
  ⟨(some 52), none, .pick (.t 47) (.c (.bool true)) (.t 51)⟩]
@[go_sem] def proto_limits_r5 : List AI := [
  ⟨(some 2), none, .mov (.c (.int .i64 3))⟩]
@[go_sem] def proto_limits_r6 : List AI := [
  ⟨(some 2), none, .mov (.c (.int .i64 0))⟩]
@[go_sem] def proto_limits_c : AC := .seq (.ops [proto_limits_r0]) (.seq (.seq (.ops [proto_limits_r1]) (.cond (.t 42) (.seq (.ops [proto_limits_r2]) (.ret)) (.skip))) (.seq (.ops [proto_limits_r3]) (.seq (.seq (.ops [proto_limits_r4]) (.cond (.t 52) (.seq (.ops [proto_limits_r5]) (.ret)) (.skip))) (.seq (.ops [proto_limits_r6]) (.ret)))))
theorem proto_limits_ok : compF Tryd.prog 29 = some (53, proto_limits_c, [.t 2]) := by kernel_rfl

@[go_sem] def proto_form_r0 : List AI := [
  ⟨(some 1), none, .box 300001 11 (.t 0)⟩,
  ⟨(some 2), none, .mov (.c (.int .i64 0))⟩]
@[go_sem] def proto_form_r1 : List AI := [
  ⟨(some 8), none, .faddr 5 (.t 1)⟩,
  ⟨(some 9), none, .load 1 false (.t 8)⟩,
  ⟨(some 10), none, .len 0 (.t 9)⟩,
  ⟨(some 3), none, .mov (.t 10)⟩]
@[go_sem] def proto_form_r2 : List AI := [
  ⟨(some 11), none, .mov (.t 3)⟩,
  ⟨(some 12), none, .bin .eql (.t 11) (.c (.int .i64 0))⟩,
  ⟨(some 13), none, .mov (.t 12)⟩,
  ⟨(some 14), (some (13, false)), .faddr 4 (.t 1)⟩,
  ⟨(some 15), (some (13, false)), .load 1 false (.t 14)⟩,
  ⟨(some 16), (some (13, false)), .bin .lss (.t 15) (.c (.int .i64 0))⟩,
  ⟨(some 17), none, .pick (.t 13) (.c (.bool true)) (.t 16)⟩,
  ⟨(some 18), none, .mov (.t 17)⟩,
  ⟨(some 19), (some (18, false)), .faddr 2 (.t 1)⟩,
  ⟨(some 20), (some (18, false)), .load 1 false (.t 19)⟩,
  ⟨(some 21), (some (18, false)), .bin .lss (.t 20) (.c (.int .i64 0))⟩,
  ⟨(some 22), none, .pick (.t 18) (.c (.bool true)) (.t 21)⟩,
  ⟨(some 23), none, .mov (.t 22)⟩,
  ⟨(some 24), (some (23, false)), .faddr 1 (.t 1)⟩,
  ⟨(some 25), (some (23, false)), .load 1 false (.t 24)⟩,
  ⟨(some 26), (some (23, false)), .bin .lss (.t 25) (.c (.int .i64 0))⟩,
  ⟨(some 27), none, .pick (.t 23) (.c (.bool true)) (.t 26)⟩,
  ⟨(some 28), none, .mov (.t 27)⟩,
  ⟨(some 29), (some (28, false)), .faddr 2 (.t 1)⟩,
  ⟨(some 30), (some (28, false)), .load 1 false (.t 29)⟩,
  ⟨(some 31), (some (28, false)), .faddr 4 (.t 1)⟩,
  ⟨(some 32), (some (28, false)), .load 1 false (.t 31)⟩,
  ⟨(some 33), (some (28, false)), .bin .gtr (.t 30) (.t 32)⟩,
  ⟨(some 34), none, .pick (.t 28) (.c (.bool true)) (.t 33)⟩,
  ⟨(some 35), none, .mov (.t 34)⟩,
  ⟨(some 36), (some (35, false)), .faddr 6 (.t 1)⟩,
  ⟨(some 37), (some (35, false)), .load 1 false (.t 36)⟩,
  ⟨(some 38), (some (35, false)), .len 0 (.t 37)⟩,
  ⟨(some 39), (some (35, false)), .bin .neq (.t 38) (.c (.int .i64 0))⟩,
  ⟨(some 40), (some (35, false)), .mov (.t 39)⟩,
  ⟨(some 41), (some (40, true)), .faddr 6 (.t 1)⟩,
  ⟨(some 42), (some (40, true)), .load 1 false (.t 41)⟩,
  ⟨(some 43), (some (40, true)), .len 0 (.t 42)⟩,
  ⟨(some 44), (some (40, true)), .mov (.t 3)⟩,
  ⟨(some 45), (some (40, true)), .bin .neq (.t 43) (.t 44)⟩,
  ⟨(some 46), (some (35, false)), .pick (.t 40) (.t 45) (.c (.bool false))⟩,
  ⟨(some 47), none, .pick (.t 35) (.c (.bool true)) (.t 46)⟩]
@[go_sem] def proto_form_r3 : List AI := [
  ⟨(some 2), none, .mov (.c (.int .i64 4))⟩]
@[go_sem] def proto_form_r4 : List AI := [
  ⟨(some 48), none, .faddr 6 (.t 1)⟩,
  ⟨(some 49), none, .load 1 false (.t 48)⟩,
  ⟨(some 50), none, .call 47 [(.t 49), (.f 48)]⟩,
  ⟨(some 51), none, .mov (.t 50)⟩,
  ⟨(some 52), (some (51, false)), .faddr 9 (.t 1)⟩,
  ⟨(some 53), (some (51, false)), .load 1 false (.t 52)⟩,
  ⟨(some 54), (some (51, false)), .call 43 [(.t 53), (.f 49)]⟩,
  ⟨(some 55), none, .pick (.t 51) (.c (.bool true)) (.t 54)⟩]
@[go_sem] def proto_form_r5 : List AI := [
  ⟨(some 2), none, .mov (.c (.int .i64 4))⟩]
@[go_sem] def proto_form_r6 : List AI := [
  ⟨(some 56), none, .faddr 7 (.t 1)⟩,
  ⟨(some 57), none, .load 1 false (.t 56)⟩,
  ⟨(some 58), none, .len 0 (.t 57)⟩,
  ⟨(some 59), none, .mov (.c (.int .i64 0))⟩]
@[go_sem] def proto_form_r7 : List AI := [
  ⟨(some 60), none, .bin .lss (.t 59) (.t 58)⟩]
@[go_sem] def proto_form_r8 : List AI := [
  ⟨(some 61), none, .iaddr 5 (.t 57) (.t 59)⟩,
  ⟨(some 62), none, .load 5 true (.t 61)⟩,
  ⟨(some 5), none, .box 300005 5 (.c (.agg [(.int .i64 0), (.int .i64 0), (.int .i64 0), (.str []), (.int .i64 0)]))⟩,
  ⟨none, none, .store 5 (.t 5) (.t 62)⟩]
@[go_sem] def proto_form_r9 : List AI := [
  ⟨(some 63), none, .faddr 0 (.t 5)⟩,
  ⟨(some 64), none, .load 1 false (.t 63)⟩,
  ⟨(some 65), none, .bin .gtr (.t 64) (.c (.int .i64 3))⟩,
  ⟨(some 66), none, .mov (.t 65)⟩,
  ⟨(some 67), (some (66, false)), .load 5 true (.t 5)⟩,
  ⟨(some 68), (some (66, false)), .call 50 [(.t 67)]⟩,
  ⟨(some 69), (some (66, false)), .un .not (.t 68)⟩,
  ⟨(some 70), none, .pick (.t 66) (.c (.bool true)) (.t 69)⟩]
@[go_sem] def proto_form_r10 : List AI := [
  ⟨(some 2), none, .mov (.c (.int .i64 4))⟩]
@[go_sem] def proto_form_r11 : List AI := [
  ⟨(some 71), none, .bin .add (.t 59) (.c (.int .i64 1))⟩,
  ⟨(some 59), none, .mov (.t 71)⟩]
def proto_form_l0 : AC := .seq (.ops [proto_form_r7]) (.seq (.cond (.t 60) (.skip) (.exit 0)) (.seq (.block 1 (.seq (.ops [proto_form_r8]) (.seq (.ops [proto_form_r9]) (.cond (.t 70) (.seq (.ops [proto_form_r10]) (.ret)) (.skip))))) (.ops [proto_form_r11])))
theorem proto_form_l0_eq : proto_form_l0 = .seq (.ops [proto_form_r7]) (.seq (.cond (.t 60) (.skip) (.exit 0)) (.seq (.block 1 (.seq (.ops [proto_form_r8]) (.seq (.ops [proto_form_r9]) (.cond (.t 70) (.seq (.ops [proto_form_r10]) (.ret)) (.skip))))) (.ops [proto_form_r11]))) := rfl
@[go_sem] def proto_form_r12 : List AI := [
  ⟨(some 72), none, .faddr 10 (.t 1)⟩,
  ⟨(some 73), none, .load 1 false (.t 72)⟩,
  ⟨(some 74), none, .len 0 (.t 73)⟩,
  ⟨(some 75), none, .mov (.c (.int .i64 0))⟩]
@[go_sem] def proto_form_r13 : List AI := [
  ⟨(some 76), none, .bin .lss (.t 75) (.t 74)⟩]
@[go_sem] def proto_form_r14 : List AI := [
  ⟨(some 77), none, .iaddr 5 (.t 73) (.t 75)⟩,
  ⟨(some 78), none, .load 5 true (.t 77)⟩,
  ⟨(some 7), none, .box 300007 5 (.c (.agg [(.str []), (.int .i64 0), (.int .i64 0), (.int .i64 0), (.int .i64 0)]))⟩,
  ⟨none, none, .store 5 (.t 7) (.t 78)⟩]
@[go_sem] def proto_form_r15 : List AI := [
  ⟨(some 79), none, .faddr 1 (.t 7)⟩,
  ⟨(some 80), none, .load 1 false (.t 79)⟩,
  ⟨(some 81), none, .bin .lss (.t 80) (.c (.int .i64 0))⟩,
  ⟨(some 82), none, .mov (.t 81)⟩,
  ⟨(some 83), (some (82, false)), .faddr 1 (.t 7)⟩,
  ⟨(some 84), (some (82, false)), .load 1 false (.t 83)⟩,
  ⟨(some 85), (some (82, false)), .faddr 4 (.t 1)⟩,
  ⟨(some 86), (some (82, false)), .load 1 false (.t 85)⟩,
  ⟨(some 87), (some (82, false)), .bin .geq (.t 84) (.t 86)⟩,
  ⟨(some 88), none, .pick (.t 82) (.c (.bool true)) (.t 87)⟩,
  ⟨(some 89), none, .mov (.t 88)⟩,
  ⟨(some 90), (some (89, false)), .faddr 4 (.t 7)⟩,
  ⟨(some 91), (some (89, false)), .load 1 false (.t 90)⟩,
  ⟨(some 92), (some (89, false)), .bin .lss (.t 91) (.c (.int .i64 0))⟩,
  ⟨(some 93), none, .pick (.t 89) (.c (.bool true)) (.t 92)⟩,
  ⟨(some 94), none, .mov (.t 93)⟩,
  ⟨(some 95), (some (94, false)), .faddr 4 (.t 7)⟩,
  ⟨(some 96), (some (94, false)), .load 1 false (.t 95)⟩,
  ⟨(some 97), (some (94, false)), .bin .gtr (.t 96) (.c (.int .i64 2))⟩,
  ⟨(some 98), none, .pick (.t 94) (.c (.bool true)) (.t 97)⟩,
  ⟨(some 99), none, .mov (.t 98)⟩,
  ⟨(some 100), (some (99, false)), .faddr 2 (.t 7)⟩,
  ⟨(some 101), (some (99, false)), .load 1 false (.t 100)⟩,
  ⟨(some 102), (some (99, false)), .bin .lss (.t 101) (.c (.int .i64 0))⟩,
  ⟨(some 103), none, .pick (.t 99) (.c (.bool true)) (.t 102)⟩,
  ⟨(some 104), none, .mov (.t 103)⟩,
  ⟨(some 105), (some (104, false)), .faddr 3 (.t 7)⟩,
  ⟨(some 106), (some (104, false)), .load 1 false (.t 105)⟩,
  ⟨(some 107), (some (104, false)), .faddr 2 (.t 7)⟩,
  ⟨(some 108), (some (104, false)), .load 1 false (.t 107)⟩,
  ⟨(some 109), (some (104, false)), .bin .lss (.t 106) (.t 108)⟩,
  ⟨(some 110), none, .pick (.t 104) (.c (.bool true)) (.t 109)⟩,
  ⟨(some 111), none, .mov (.t 110)⟩,
  ⟨(some 112), (some (111, false)), .faddr 3 (.t 7)⟩,
  ⟨(some 113), (some (111, false)), .load 1 false (.t 112)⟩,
  ⟨(some 114), (some (111, false)), .mov (.t 3)⟩,
  ⟨(some 115), (some (111, false)), .bin .gtr (.t 113) (.t 114)⟩,
  ⟨(some 116), none, .pick (.t 111) (.c (.bool true)) (.t 115)⟩]
@[go_sem] def proto_form_r16 : List AI := [
  ⟨(some 2), none, .mov (.c (.int .i64 4))⟩]
@[go_sem] def proto_form_r17 : List AI := [
  ⟨(some 117), none, .bin .add (.t 75) (.c (.int .i64 1))⟩,
  ⟨(some 75), none, .mov (.t 117)⟩]
def proto_form_l1 : AC := .seq (.ops [proto_form_r13]) (.seq (.cond (.t 76) (.skip) (.exit 2)) (.seq (.block 3 (.seq (.ops [proto_form_r14]) (.seq (.ops [proto_form_r15]) (.cond (.t 116) (.seq (.ops [proto_form_r16]) (.ret)) (.skip))))) (.ops [proto_form_r17])))
theorem proto_form_l1_eq : proto_form_l1 = .seq (.ops [proto_form_r13]) (.seq (.cond (.t 76) (.skip) (.exit 2)) (.seq (.block 3 (.seq (.ops [proto_form_r14]) (.seq (.ops [proto_form_r15]) (.cond (.t 116) (.seq (.ops [proto_form_r16]) (.ret)) (.skip))))) (.ops [proto_form_r17]))) := rfl
@[go_sem] def proto_form_r18 : List AI := [
  ⟨(some 2), none, .mov (.c (.int .i64 0))⟩]
@[go_sem] def proto_form_c : AC := .seq (.ops [proto_form_r0]) (.seq (.ops [proto_form_r1]) (.seq (.seq (.ops [proto_form_r2]) (.cond (.t 47) (.seq (.ops [proto_form_r3]) (.ret)) (.skip))) (.seq (.seq (.ops [proto_form_r4]) (.cond (.t 55) (.seq (.ops [proto_form_r5]) (.ret)) (.skip))) (.seq (.seq (.ops [proto_form_r6]) (.block 0 (.loop proto_form_l0))) (.seq (.seq (.ops [proto_form_r12]) (.block 2 (.loop proto_form_l1))) (.seq (.ops [proto_form_r18]) (.ret)))))))
theorem proto_form_ok : compF Tryd.prog 30 = some (118, proto_form_c, [.t 2]) := by kernel_rfl

@[go_sem] def proto_instruction_r0 : List AI := [
  ⟨(some 2), none, .box 310002 11 (.t 0)⟩,
  ⟨(some 3), none, .box 310003 5 (.t 1)⟩,
  ⟨(some 4), none, .mov (.c (.int .i64 0))⟩]
@[go_sem] def proto_instruction_r1 : List AI := [
  ⟨(some 12), none, .load 5 true (.t 3)⟩,
  ⟨(some 13), none, .call 51 [(.t 12)]⟩,
  ⟨(some 5), none, .mov (.t 13)⟩]
@[go_sem] def proto_instruction_r2 : List AI := [
  ⟨(some 14), none, .mov (.t 5)⟩,
  ⟨(some 15), none, .bin .neq (.t 14) (.c (.int .i64 0))⟩]
@[go_sem] def proto_instruction_r3 : List AI := [
  ⟨(some 16), none, .mov (.t 5)⟩,
  ⟨(some 4), none, .mov (.t 16)⟩]
@[go_sem] def proto_instruction_r4 : List AI := [
  ⟨(some 18), none, .load 5 true (.t 3)⟩,
  ⟨(some 19), none, .call 52 [(.t 18)]⟩,
  ⟨(some 17), none, .mov (.t 19)⟩,
  ⟨(some 20), none, .ext 0 (.t 17)⟩,
  ⟨(some 21), none, .ext 1 (.t 17)⟩,
  ⟨(some 6), none, .mov (.t 20)⟩,
  ⟨(some 7), none, .mov (.t 21)⟩]
@[go_sem] def proto_instruction_r5 : List AI := [
  ⟨(some 23), none, .load 5 true (.t 3)⟩,
  ⟨(some 24), none, .call 53 [(.t 23)]⟩,
  ⟨(some 22), none, .mov (.t 24)⟩,
  ⟨(some 25), none, .ext 0 (.t 22)⟩,
  ⟨(some 26), none, .ext 1 (.t 22)⟩,
  ⟨(some 8), none, .mov (.t 25)⟩,
  ⟨(some 9), none, .mov (.t 26)⟩]
@[go_sem] def proto_instruction_r6 : List AI := [
  ⟨(some 27), none, .load 11 true (.t 2)⟩,
  ⟨(some 28), none, .mov (.t 6)⟩,
  ⟨(some 29), none, .mov (.t 7)⟩,
  ⟨(some 30), none, .call 54 [(.t 27), (.t 28), (.t 29)]⟩,
  ⟨(some 31), none, .un .not (.t 30)⟩,
  ⟨(some 32), none, .mov (.t 31)⟩,
  ⟨(some 33), (some (32, false)), .load 11 true (.t 2)⟩,
  ⟨(some 34), (some (32, false)), .mov (.t 8)⟩,
  ⟨(some 35), (some (32, false)), .mov (.t 9)⟩,
  ⟨(some 36), (some (32, false)), .call 54 [(.t 33), (.t 34), (.t 35)]⟩,
  ⟨(some 37), (some (32, false)), .un .not (.t 36)⟩,
  ⟨(some 38), none, .pick (.t 32) (.c (.bool true)) (.t 37)⟩]
@[go_sem] def proto_instruction_r7 : List AI := [
  ⟨(some 4), none, .mov (.c (.int .i64 4))⟩]
@[go_sem] def proto_instruction_r8 : List AI := [
  ⟨(some 40), none, .load 5 true (.t 3)⟩,
  ⟨(some 41), none, .call 33 [(.t 40)]⟩,
  ⟨(some 39), none, .mov (.t 41)⟩,
  ⟨(some 42), none, .ext 0 (.t 39)⟩,
  ⟨(some 43), none, .ext 1 (.t 39)⟩,
  ⟨(some 10), none, .mov (.t 42)⟩,
  ⟨(some 11), none, .mov (.t 43)⟩]
@[go_sem] def proto_instruction_r9 : List AI := [
  ⟨(some 44), none, .mov (.t 11)⟩,
  ⟨(some 45), none, .mov (.t 44)⟩,
  ⟨(some 46), (some (45, true)), .mov (.t 10)⟩,
  ⟨(some 47), (some (45, true)), .bin .lss (.t 46) (.c (.int .i64 0))⟩,
  ⟨(some 48), (some (45, true)), .mov (.t 47)⟩,
  ⟨(some 49), (some (48, false)), .mov (.t 10)⟩,
  ⟨(some 50), (some (48, false)), .faddr 5 (.t 2)⟩,
  ⟨(some 51), (some (48, false)), .load 1 false (.t 50)⟩,
  ⟨(some 52), (some (48, false)), .len 0 (.t 51)⟩,
  ⟨(some 53), (some (48, false)), .bin .geq (.t 49) (.t 52)⟩,
  ⟨(some 54), (some (45, true)), .pick (.t 48) (.c (.bool true)) (.t 53)⟩,
  ⟨(some 55), none, .pick (.t 45) (.t 54) (.c (.bool false))⟩]
@[go_sem] def proto_instruction_r10 : List AI := [
  ⟨(some 4), none, .mov (.c (.int .i64 4))⟩]
@[go_sem] def proto_instruction_r11 : List AI := [
  ⟨(some 56), none, .load 11 true (.t 2)⟩,
  ⟨(some 57), none, .load 5 true (.t 3)⟩,
  ⟨(some 58), none, .call 55 [(.t 56), (.t 57)]⟩,
  ⟨(some 59), none, .un .not (.t 58)⟩]
@[go_sem] def proto_instruction_r12 : List AI := [
  ⟨(some 4), none, .mov (.c (.int .i64 4))⟩]
@[go_sem] def proto_instruction_r13 : List AI := [
  ⟨(some 4), none, .mov (.c (.int .i64 0))⟩]
@[go_sem] def proto_instruction_c : AC := .seq (.ops [proto_instruction_r0]) (.seq (.seq (.ops [proto_instruction_r1]) (.seq (.ops [proto_instruction_r2]) (.cond (.t 15) (.seq (.ops [proto_instruction_r3]) (.ret)) (.skip)))) (.seq (.ops [proto_instruction_r4]) (.seq (.ops [proto_instruction_r5]) (.seq (.seq (.ops [proto_instruction_r6]) (.cond (.t 38) (.seq (.ops [proto_instruction_r7]) (.ret)) (.skip))) (.seq (.seq (.ops [proto_instruction_r8]) (.seq (.ops [proto_instruction_r9]) (.cond (.t 55) (.seq (.ops [proto_instruction_r10]) (.ret)) (.skip)))) (.seq (.seq (.ops [proto_instruction_r11]) (.cond (.t 59) (.seq (.ops [proto_instruction_r12]) (.ret)) (.skip))) (.seq (.ops [proto_instruction_r13]) (.ret))))))))
theorem proto_instruction_ok : compF Tryd.prog 31 = some (60, proto_instruction_c, [.t 4]) := by kernel_rfl

@[go_sem] def verify_effect_r0 : List AI := [
  ⟨(some 2), none, .box 320002 5 (.t 0)⟩,
  ⟨(some 3), none, .box 320003 3 (.t 1)⟩,
  ⟨(some 4), none, .box 320004 3 (.c (.agg [.nils, (.int .i64 0), .nils]))⟩]
@[go_sem] def verify_effect_r1_0 : List AI := [
  ⟨(some 10), none, .faddr 0 (.t 3)⟩,
  ⟨(some 11), none, .load 1 false (.t 10)⟩,
  ⟨(some 13), none, .faddr 2 (.t 3)⟩,
  ⟨(some 14), none, .load 1 false (.t 13)⟩,
  ⟨(some 12), none, .call 56 [(.t 11)]⟩,
  ⟨(some 15), none, .call 25 [(.t 14)]⟩,
  ⟨(some 16), none, .build [.nils, (.int .i64 0), .nils] [(0, 1, (.t 12)), (1, 1, (.c (.int .i64 (-1)))), (2, 1, (.t 15))]⟩,
  ⟨(some 5), none, .box 320005 3 (.c (.agg [.nils, (.int .i64 0), .nils]))⟩,
  ⟨none, none, .store 3 (.t 5) (.t 16)⟩]
@[go_sem] def verify_effect_r1_1 : List AI := [
  ⟨(some 10), none, .faddr 0 (.t 3)⟩,
  ⟨(some 11), none, .load 1 false (.t 10)⟩,
  ⟨(some 13), none, .faddr 2 (.t 3)⟩,
  ⟨(some 14), none, .load 1 false (.t 13)⟩,
  ⟨(some 12), none, .call 56 [(.t 11)]⟩,
  ⟨(some 5), none, .box 320005 3 (.c (.agg [.nils, (.int .i64 0), .nils]))⟩,
  ⟨(some 15), none, .call 25 [(.t 14)]⟩,
  ⟨(some 16), none, .build [.nils, (.int .i64 0), .nils] [(0, 1, (.t 12)), (1, 1, (.c (.int .i64 (-1)))), (2, 1, (.t 15))]⟩,
  ⟨none, none, .store 3 (.t 5) (.t 16)⟩]
@[go_sem] def verify_effect_r1_2 : List AI := [
  ⟨(some 10), none, .faddr 0 (.t 3)⟩,
  ⟨(some 11), none, .load 1 false (.t 10)⟩,
  ⟨(some 13), none, .faddr 2 (.t 3)⟩,
  ⟨(some 14), none, .load 1 false (.t 13)⟩,
  ⟨(some 5), none, .box 320005 3 (.c (.agg [.nils, (.int .i64 0), .nils]))⟩,
  ⟨(some 12), none, .call 56 [(.t 11)]⟩,
  ⟨(some 15), none, .call 25 [(.t 14)]⟩,
  ⟨(some 16), none, .build [.nils, (.int .i64 0), .nils] [(0, 1, (.t 12)), (1, 1, (.c (.int .i64 (-1)))), (2, 1, (.t 15))]⟩,
  ⟨none, none, .store 3 (.t 5) (.t 16)⟩]
@[go_sem] def verify_effect_r1_3 : List AI := [
  ⟨(some 10), none, .faddr 0 (.t 3)⟩,
  ⟨(some 11), none, .load 1 false (.t 10)⟩,
  ⟨(some 13), none, .faddr 2 (.t 3)⟩,
  ⟨(some 5), none, .box 320005 3 (.c (.agg [.nils, (.int .i64 0), .nils]))⟩,
  ⟨(some 14), none, .load 1 false (.t 13)⟩,
  ⟨(some 12), none, .call 56 [(.t 11)]⟩,
  ⟨(some 15), none, .call 25 [(.t 14)]⟩,
  ⟨(some 16), none, .build [.nils, (.int .i64 0), .nils] [(0, 1, (.t 12)), (1, 1, (.c (.int .i64 (-1)))), (2, 1, (.t 15))]⟩,
  ⟨none, none, .store 3 (.t 5) (.t 16)⟩]
@[go_sem] def verify_effect_r1_4 : List AI := [
  ⟨(some 10), none, .faddr 0 (.t 3)⟩,
  ⟨(some 11), none, .load 1 false (.t 10)⟩,
  ⟨(some 13), none, .faddr 2 (.t 3)⟩,
  ⟨(some 12), none, .call 56 [(.t 11)]⟩,
  ⟨(some 14), none, .load 1 false (.t 13)⟩,
  ⟨(some 15), none, .call 25 [(.t 14)]⟩,
  ⟨(some 16), none, .build [.nils, (.int .i64 0), .nils] [(0, 1, (.t 12)), (1, 1, (.c (.int .i64 (-1)))), (2, 1, (.t 15))]⟩,
  ⟨(some 5), none, .box 320005 3 (.c (.agg [.nils, (.int .i64 0), .nils]))⟩,
  ⟨none, none, .store 3 (.t 5) (.t 16)⟩]
@[go_sem] def verify_effect_r1_5 : List AI := [
  ⟨(some 10), none, .faddr 0 (.t 3)⟩,
  ⟨(some 11), none, .load 1 false (.t 10)⟩,
  ⟨(some 13), none, .faddr 2 (.t 3)⟩,
  ⟨(some 12), none, .call 56 [(.t 11)]⟩,
  ⟨(some 14), none, .load 1 false (.t 13)⟩,
  ⟨(some 5), none, .box 320005 3 (.c (.agg [.nils, (.int .i64 0), .nils]))⟩,
  ⟨(some 15), none, .call 25 [(.t 14)]⟩,
  ⟨(some 16), none, .build [.nils, (.int .i64 0), .nils] [(0, 1, (.t 12)), (1, 1, (.c (.int .i64 (-1)))), (2, 1, (.t 15))]⟩,
  ⟨none, none, .store 3 (.t 5) (.t 16)⟩]
@[go_sem] def verify_effect_r1_6 : List AI := [
  ⟨(some 10), none, .faddr 0 (.t 3)⟩,
  ⟨(some 11), none, .load 1 false (.t 10)⟩,
  ⟨(some 13), none, .faddr 2 (.t 3)⟩,
  ⟨(some 12), none, .call 56 [(.t 11)]⟩,
  ⟨(some 5), none, .box 320005 3 (.c (.agg [.nils, (.int .i64 0), .nils]))⟩,
  ⟨(some 14), none, .load 1 false (.t 13)⟩,
  ⟨(some 15), none, .call 25 [(.t 14)]⟩,
  ⟨(some 16), none, .build [.nils, (.int .i64 0), .nils] [(0, 1, (.t 12)), (1, 1, (.c (.int .i64 (-1)))), (2, 1, (.t 15))]⟩,
  ⟨none, none, .store 3 (.t 5) (.t 16)⟩]
@[go_sem] def verify_effect_r1_7 : List AI := [
  ⟨(some 10), none, .faddr 0 (.t 3)⟩,
  ⟨(some 11), none, .load 1 false (.t 10)⟩,
  ⟨(some 13), none, .faddr 2 (.t 3)⟩,
  ⟨(some 5), none, .box 320005 3 (.c (.agg [.nils, (.int .i64 0), .nils]))⟩,
  ⟨(some 12), none, .call 56 [(.t 11)]⟩,
  ⟨(some 14), none, .load 1 false (.t 13)⟩,
  ⟨(some 15), none, .call 25 [(.t 14)]⟩,
  ⟨(some 16), none, .build [.nils, (.int .i64 0), .nils] [(0, 1, (.t 12)), (1, 1, (.c (.int .i64 (-1)))), (2, 1, (.t 15))]⟩,
  ⟨none, none, .store 3 (.t 5) (.t 16)⟩]
@[go_sem] def verify_effect_r1_8 : List AI := [
  ⟨(some 10), none, .faddr 0 (.t 3)⟩,
  ⟨(some 13), none, .faddr 2 (.t 3)⟩,
  ⟨(some 14), none, .load 1 false (.t 13)⟩,
  ⟨(some 5), none, .box 320005 3 (.c (.agg [.nils, (.int .i64 0), .nils]))⟩,
  ⟨(some 11), none, .load 1 false (.t 10)⟩,
  ⟨(some 12), none, .call 56 [(.t 11)]⟩,
  ⟨(some 15), none, .call 25 [(.t 14)]⟩,
  ⟨(some 16), none, .build [.nils, (.int .i64 0), .nils] [(0, 1, (.t 12)), (1, 1, (.c (.int .i64 (-1)))), (2, 1, (.t 15))]⟩,
  ⟨none, none, .store 3 (.t 5) (.t 16)⟩]
@[go_sem] def verify_effect_r1_9 : List AI := [
  ⟨(some 10), none, .faddr 0 (.t 3)⟩,
  ⟨(some 13), none, .faddr 2 (.t 3)⟩,
  ⟨(some 5), none, .box 320005 3 (.c (.agg [.nils, (.int .i64 0), .nils]))⟩,
  ⟨(some 11), none, .load 1 false (.t 10)⟩,
  ⟨(some 14), none, .load 1 false (.t 13)⟩,
  ⟨(some 12), none, .call 56 [(.t 11)]⟩,
  ⟨(some 15), none, .call 25 [(.t 14)]⟩,
  ⟨(some 16), none, .build [.nils, (.int .i64 0), .nils] [(0, 1, (.t 12)), (1, 1, (.c (.int .i64 (-1)))), (2, 1, (.t 15))]⟩,
  ⟨none, none, .store 3 (.t 5) (.t 16)⟩]
@[go_sem] def verify_effect_r1_10 : List AI := [
  ⟨(some 10), none, .faddr 0 (.t 3)⟩,
  ⟨(some 13), none, .faddr 2 (.t 3)⟩,
  ⟨(some 5), none, .box 320005 3 (.c (.agg [.nils, (.int .i64 0), .nils]))⟩,
  ⟨(some 11), none, .load 1 false (.t 10)⟩,
  ⟨(some 12), none, .call 56 [(.t 11)]⟩,
  ⟨(some 14), none, .load 1 false (.t 13)⟩,
  ⟨(some 15), none, .call 25 [(.t 14)]⟩,
  ⟨(some 16), none, .build [.nils, (.int .i64 0), .nils] [(0, 1, (.t 12)), (1, 1, (.c (.int .i64 (-1)))), (2, 1, (.t 15))]⟩,
  ⟨none, none, .store 3 (.t 5) (.t 16)⟩]
@[go_sem] def verify_effect_r2 : List AI := [
  ⟨(some 17), none, .faddr 0 (.t 2)⟩,
  ⟨(some 18), none, .load 1 false (.t 17)⟩]
@[go_sem] def verify_effect_r3 : List AI := [
  ⟨(some 20), none, .bin .eql (.t 18) (.c (.int .i64 16))⟩,
  ⟨(some 19), none, .mov (.t 20)⟩]
@[go_sem] def verify_effect_r4 : List AI := [
  ⟨(some 21), none, .faddr 0 (.t 5)⟩,
  ⟨(some 22), none, .load 1 false (.t 21)⟩,
  ⟨(some 23), none, .faddr 1 (.t 2)⟩,
  ⟨(some 24), none, .load 1 false (.t 23)⟩,
  ⟨(some 25), none, .call 57 [(.t 22), (.t 24)]⟩]
@[go_sem] def verify_effect_r5 : List AI := [
  ⟨(some 27), none, .bin .eql (.t 18) (.c (.int .i64 25))⟩,
  ⟨(some 26), none, .mov (.t 27)⟩]
@[go_sem] def verify_effect_r6 : List AI := [
  ⟨(some 28), none, .faddr 0 (.t 5)⟩,
  ⟨(some 29), none, .load 1 false (.t 28)⟩,
  ⟨(some 30), none, .faddr 1 (.t 2)⟩,
  ⟨(some 31), none, .load 1 false (.t 30)⟩,
  ⟨(some 32), none, .bin .add (.t 31) (.c (.int .i64 3))⟩,
  ⟨(some 33), none, .call 57 [(.t 29), (.t 32)]⟩]
@[go_sem] def verify_effect_r7 : List AI := [
  ⟨(some 35), none, .bin .eql (.t 18) (.c (.int .i64 28))⟩,
  ⟨(some 34), none, .mov (.t 35)⟩]
@[go_sem] def verify_effect_r8 : List AI := [
  ⟨(some 36), none, .faddr 2 (.t 5)⟩,
  ⟨(some 37), none, .load 1 false (.t 36)⟩,
  ⟨(some 38), none, .faddr 1 (.t 2)⟩,
  ⟨(some 39), none, .load 1 false (.t 38)⟩,
  ⟨(some 40), none, .mkisl 1 [(.t 39)]⟩,
  ⟨(some 41), none, .app 320041 1 (.t 37) (.t 40)⟩,
  ⟨(some 42), none, .faddr 2 (.t 5)⟩,
  ⟨none, none, .store 1 (.t 42) (.t 41)⟩]
@[go_sem] def verify_effect_r9 : List AI := [
  ⟨(some 44), none, .bin .eql (.t 18) (.c (.int .i64 27))⟩,
  ⟨(some 43), none, .mov (.t 44)⟩]
@[go_sem] def verify_effect_r10 : List AI := [
  ⟨(some 45), none, .faddr 2 (.t 5)⟩,
  ⟨(some 46), none, .load 1 false (.t 45)⟩,
  ⟨(some 47), none, .mkfn 59 [(.t 2)]⟩,
  ⟨(some 48), none, .call 58 [(.t 46), (.t 47)]⟩,
  ⟨(some 49), none, .faddr 2 (.t 5)⟩,
  ⟨none, none, .store 1 (.t 49) (.t 48)⟩]
@[go_sem] def verify_effect_r11 : List AI := [
  ⟨(some 51), none, .load 5 true (.t 2)⟩,
  ⟨(some 52), none, .call 53 [(.t 51)]⟩,
  ⟨(some 50), none, .mov (.t 52)⟩,
  ⟨(some 53), none, .ext 0 (.t 50)⟩,
  ⟨(some 54), none, .ext 1 (.t 50)⟩,
  ⟨(some 6), none, .mov (.t 53)⟩,
  ⟨(some 7), none, .mov (.t 54)⟩]
@[go_sem] def verify_effect_r12 : List AI := [
  ⟨(some 55), none, .mov (.t 6)⟩,
  ⟨(some 56), none, .len 0 (.t 55)⟩,
  ⟨(some 57), none, .mov (.c (.int .i64 0))⟩]
@[go_sem] def verify_effect_r13 : List AI := [
  ⟨(some 58), none, .bin .lss (.t 57) (.t 56)⟩]
@[go_sem] def verify_effect_r14 : List AI := [
  ⟨(some 59), none, .iaddr 1 (.t 55) (.t 57)⟩,
  ⟨(some 60), none, .load 1 false (.t 59)⟩,
  ⟨(some 9), none, .mov (.t 60)⟩]
@[go_sem] def verify_effect_r15 : List AI := [
  ⟨(some 61), none, .faddr 0 (.t 5)⟩,
  ⟨(some 62), none, .load 1 false (.t 61)⟩,
  ⟨(some 63), none, .mov (.t 9)⟩,
  ⟨(some 64), none, .iaddr 1 (.t 62) (.t 63)⟩,
  ⟨none, none, .store 1 (.t 64) (.c (.bool true))⟩]
@[go_sem] def verify_effect_r16 : List AI := [
  ⟨(some 65), none, .bin .add (.t 57) (.c (.int .i64 1))⟩,
  ⟨(some 57), none, .mov (.t 65)⟩]
def verify_effect_l0 : AC := .seq (.ops [verify_effect_r13]) (.seq (.cond (.t 58) (.skip) (.exit 1)) (.seq (.block 2 (.seq (.ops [verify_effect_r14]) (.ops [verify_effect_r15]))) (.ops [verify_effect_r16])))
theorem verify_effect_l0_eq : verify_effect_l0 = .seq (.ops [verify_effect_r13]) (.seq (.cond (.t 58) (.skip) (.exit 1)) (.seq (.block 2 (.seq (.ops [verify_effect_r14]) (.ops [verify_effect_r15]))) (.ops [verify_effect_r16]))) := rfl
@[go_sem] def verify_effect_r17 : List AI := [
  ⟨(some 66), none, .mov (.t 7)⟩,
  ⟨(some 67), none, .bin .geq (.t 66) (.c (.int .i64 0))⟩]
@[go_sem] def verify_effect_r18 : List AI := [
  ⟨(some 68), none, .faddr 0 (.t 5)⟩,
  ⟨(some 69), none, .load 1 false (.t 68)⟩,
  ⟨(some 70), none, .mov (.t 7)⟩,
  ⟨(some 71), none, .call 57 [(.t 69), (.t 70)]⟩]
@[go_sem] def verify_effect_r19 : List AI := [
  ⟨(some 72), none, .mov (.t 7)⟩,
  ⟨(some 73), none, .faddr 1 (.t 5)⟩,
  ⟨none, none, .store 1 (.t 73) (.t 72)⟩]
@[go_sem] def verify_effect_r20 : List AI := [
  ⟨(some 74), none, .load 3 true (.t 5)⟩,
  ⟨none, none, .store 3 (.t 4) (.t 74)⟩]
@[go_sem] def verify_effect_c : AC := .seq (.ops [verify_effect_r0]) (.seq (.ops [verify_effect_r1_0, verify_effect_r1_1, verify_effect_r1_2, verify_effect_r1_3, verify_effect_r1_4, verify_effect_r1_5, verify_effect_r1_6, verify_effect_r1_7, verify_effect_r1_8, verify_effect_r1_9, verify_effect_r1_10]) (.seq (.seq (.ops [verify_effect_r2]) (.block 0 (.seq (.ops [verify_effect_r3]) (.cond (.t 19) (.ops [verify_effect_r4]) (.seq (.ops [verify_effect_r5]) (.cond (.t 26) (.ops [verify_effect_r6]) (.seq (.ops [verify_effect_r7]) (.cond (.t 34) (.ops [verify_effect_r8]) (.seq (.ops [verify_effect_r9]) (.cond (.t 43) (.ops [verify_effect_r10]) (.skip))))))))))) (.seq (.ops [verify_effect_r11]) (.seq (.seq (.ops [verify_effect_r12]) (.block 1 (.loop verify_effect_l0))) (.seq (.seq (.ops [verify_effect_r17]) (.cond (.t 67) (.seq (.ops [verify_effect_r18]) (.ops [verify_effect_r19])) (.skip))) (.seq (.ops [verify_effect_r20]) (.ret)))))))
theorem verify_effect_ok : compF Tryd.prog 32 = some (75, verify_effect_c, [.c 4 3 true]) := by kernel_rfl

@[go_sem] def opcode_Target_r0 : List AI := [
  ⟨(some 1), none, .box 330001 5 (.t 0)⟩,
  ⟨(some 2), none, .mov (.c (.int .i64 0))⟩,
  ⟨(some 3), none, .mov (.c (.bool false))⟩]
@[go_sem] def opcode_Target_r1 : List AI := [
  ⟨(some 4), none, .faddr 0 (.t 1)⟩,
  ⟨(some 5), none, .load 1 false (.t 4)⟩]
@[go_sem] def opcode_Target_r2 : List AI := [
  ⟨(some 7), none, .bin .eql (.t 5) (.c (.int .i64 14))⟩,
  ⟨(some 6), none, .mov (.t 7)⟩]
@[go_sem] def opcode_Target_r3 : List AI := [
  ⟨(some 8), none, .bin .eql (.t 5) (.c (.int .i64 15))⟩,
  ⟨(some 6), none, .mov (.t 8)⟩]
@[go_sem] def opcode_Target_r4 : List AI := [
  ⟨(some 9), none, .bin .eql (.t 5) (.c (.int .i64 23))⟩,
  ⟨(some 6), none, .mov (.t 9)⟩]
@[go_sem] def opcode_Target_r5 : List AI := [
  ⟨(some 10), none, .bin .eql (.t 5) (.c (.int .i64 24))⟩,
  ⟨(some 6), none, .mov (.t 10)⟩]
@[go_sem] def opcode_Target_r6 : List AI := [
  ⟨(some 11), none, .bin .eql (.t 5) (.c (.int .i64 26))⟩,
  ⟨(some 6), none, .mov (.t 11)⟩]
@[go_sem] def opcode_Target_r7 : List AI := [
  ⟨(some 12), none, .faddr 2 (.t 1)⟩,
  ⟨(some 13), none, .load 1 false (.t 12)⟩,
  ⟨(some 2), none, .mov (.t 13)⟩,
  ⟨(some 3), none, .mov (.c (.bool true))⟩]
@[go_sem] def opcode_Target_r8 : List AI := [
  ⟨(some 2), none, .mov (.c (.int .i64 0))⟩,
  ⟨(some 3), none, .mov (.c (.bool false))⟩]
@[go_sem] def opcode_Target_c : AC := .seq (.ops [opcode_Target_r0]) (.seq (.seq (.ops [opcode_Target_r1]) (.block 0 (.seq (.seq (.ops [opcode_Target_r2]) (.cond (.t 6) (.skip) (.seq (.ops [opcode_Target_r3]) (.cond (.t 6) (.skip) (.seq (.ops [opcode_Target_r4]) (.cond (.t 6) (.skip) (.seq (.ops [opcode_Target_r5]) (.cond (.t 6) (.skip) (.ops [opcode_Target_r6]))))))))) (.cond (.t 6) (.seq (.ops [opcode_Target_r7]) (.ret)) (.skip))))) (.seq (.ops [opcode_Target_r8]) (.ret)))
theorem opcode_Target_ok : compF Tryd.prog 33 = some (14, opcode_Target_c, [.t 2, .t 3]) := by kernel_rfl

@[go_sem] def opcode_Falls_r0 : List AI := [
  ⟨(some 1), none, .box 340001 5 (.t 0)⟩,
  ⟨(some 2), none, .mov (.c (.bool false))⟩]
@[go_sem] def opcode_Falls_r1 : List AI := [
  ⟨(some 3), none, .faddr 0 (.t 1)⟩,
  ⟨(some 4), none, .load 1 false (.t 3)⟩,
  ⟨(some 5), none, .bin .neq (.t 4) (.c (.int .i64 14))⟩,
  ⟨(some 6), none, .mov (.t 5)⟩,
  ⟨(some 7), (some (6, true)), .faddr 0 (.t 1)⟩,
  ⟨(some 8), (some (6, true)), .load 1 false (.t 7)⟩,
  ⟨(some 9), (some (6, true)), .bin .neq (.t 8) (.c (.int .i64 17))⟩,
  ⟨(some 10), none, .pick (.t 6) (.t 9) (.c (.bool false))⟩,
  ⟨(some 11), none, .mov (.t 10)⟩,
  ⟨(some 12), (some (11, true)), .faddr 0 (.t 1)⟩,
  ⟨(some 13), (some (11, true)), .load 1 false (.t 12)⟩,
  ⟨(some 14), (some (11, true)), .bin .neq (.t 13) (.c (.int .i64 18))⟩,
  ⟨(some 15), none, .pick (.t 11) (.t 14) (.c (.bool false))⟩,
  ⟨(some 2), none, .mov (.t 15)⟩]
@[go_sem] def opcode_Falls_c : AC := .seq (.ops [opcode_Falls_r0]) (.seq (.ops [opcode_Falls_r1]) (.ret))
theorem opcode_Falls_ok : compF Tryd.prog 34 = some (16, opcode_Falls_c, [.t 2]) := by kernel_rfl

@[go_sem] def slices_Sort_int_int_r0 : List AI := [
  ⟨(some 3), none, .mov (.t 0)⟩,
  ⟨(some 4), none, .len 0 (.t 3)⟩,
  ⟨(some 2), none, .mov (.t 4)⟩]
@[go_sem] def slices_Sort_int_int_r1 : List AI := [
  ⟨(some 5), none, .mov (.t 0)⟩,
  ⟨(some 6), none, .mov (.t 2)⟩,
  ⟨(some 7), none, .mov (.t 2)⟩,
  ⟨(some 8), none, .conv .u64 (.t 7)⟩,
  ⟨(some 9), none, .call 61 [(.t 8)]⟩,
  ⟨(some 10), none, .call 60 [(.t 5), (.c (.int .i64 0)), (.t 6), (.t 9)]⟩]
@[go_sem] def slices_Sort_int_int_c : AC := .seq (.ops [slices_Sort_int_int_r0]) (.ops [slices_Sort_int_int_r1])
theorem slices_Sort_int_int_ok : compF Tryd.prog 35 = some (11, slices_Sort_int_int_c, []) := by kernel_rfl

@[go_sem] def slices_Compact_int_int_r0 : List AI := [
  ⟨(some 2), none, .mov (.c .nils)⟩]
@[go_sem] def slices_Compact_int_int_r1 : List AI := [
  ⟨(some 6), none, .mov (.t 0)⟩,
  ⟨(some 7), none, .len 0 (.t 6)⟩,
  ⟨(some 8), none, .bin .lss (.t 7) (.c (.int .i64 2))⟩]
@[go_sem] def slices_Compact_int_int_r2 : List AI := [
  ⟨(some 9), none, .mov (.t 0)⟩,
  ⟨(some 2), none, .mov (.t 9)⟩]
@[go_sem] def slices_Compact_int_int_r3 : List AI := [
  ⟨(some 3), none, .mov (.c (.int .i64 1))⟩]
@[go_sem] def slices_Compact_int_int_r4 : List AI := [
  ⟨(some 10), none, .mov (.t 3)⟩,
  ⟨(some 11), none, .mov (.t 0)⟩,
  ⟨(some 12), none, .len 0 (.t 11)⟩,
  ⟨(some 13), none, .bin .lss (.t 10) (.t 12)⟩]
@[go_sem] def slices_Compact_int_int_r5 : List AI := [
  ⟨(some 16), none, .mov (.t 0)⟩,
  ⟨(some 17), none, .mov (.t 3)⟩,
  ⟨(some 18), none, .iaddr 1 (.t 16) (.t 17)⟩,
  ⟨(some 19), none, .load 1 false (.t 18)⟩,
  ⟨(some 20), none, .mov (.t 0)⟩,
  ⟨(some 21), none, .mov (.t 3)⟩,
  ⟨(some 22), none, .bin .sub (.t 21) (.c (.int .i64 1))⟩,
  ⟨(some 23), none, .iaddr 1 (.t 20) (.t 22)⟩,
  ⟨(some 24), none, .load 1 false (.t 23)⟩,
  ⟨(some 25), none, .bin .eql (.t 19) (.t 24)⟩]
@[go_sem] def slices_Compact_int_int_r6 : List AI := [
  ⟨(some 26), none, .mov (.t 0)⟩,
  ⟨(some 27), none, .mov (.t 3)⟩,
  ⟨(some 28), none, .slc 1 (.t 26) (some (.t 27)) none⟩,
  ⟨(some 4), none, .mov (.t 28)⟩]
@[go_sem] def slices_Compact_int_int_r7 : List AI := [
  ⟨(some 5), none, .mov (.c (.int .i64 1))⟩]
@[go_sem] def slices_Compact_int_int_r8 : List AI := [
  ⟨(some 29), none, .mov (.t 5)⟩,
  ⟨(some 30), none, .mov (.t 4)⟩,
  ⟨(some 31), none, .len 0 (.t 30)⟩,
  ⟨(some 32), none, .bin .lss (.t 29) (.t 31)⟩]
@[go_sem] def slices_Compact_int_int_r9 : List AI := [
  ⟨(some 35), none, .mov (.t 4)⟩,
  ⟨(some 36), none, .mov (.t 5)⟩,
  ⟨(some 37), none, .iaddr 1 (.t 35) (.t 36)⟩,
  ⟨(some 38), none, .load 1 false (.t 37)⟩,
  ⟨(some 39), none, .mov (.t 4)⟩,
  ⟨(some 40), none, .mov (.t 5)⟩,
  ⟨(some 41), none, .bin .sub (.t 40) (.c (.int .i64 1))⟩,
  ⟨(some 42), none, .iaddr 1 (.t 39) (.t 41)⟩,
  ⟨(some 43), none, .load 1 false (.t 42)⟩,
  ⟨(some 44), none, .bin .neq (.t 38) (.t 43)⟩]
@[go_sem] def slices_Compact_int_int_r10 : List AI := [
  ⟨(some 45), none, .mov (.t 0)⟩,
  ⟨(some 46), none, .mov (.t 3)⟩,
  ⟨(some 47), none, .mov (.t 4)⟩,
  ⟨(some 48), none, .mov (.t 5)⟩,
  ⟨(some 49), none, .iaddr 1 (.t 47) (.t 48)⟩,
  ⟨(some 50), none, .load 1 false (.t 49)⟩,
  ⟨(some 51), none, .iaddr 1 (.t 45) (.t 46)⟩,
  ⟨none, none, .store 1 (.t 51) (.t 50)⟩]
@[go_sem] def slices_Compact_int_int_r11 : List AI := [
  ⟨(some 52), none, .mov (.t 3)⟩,
  ⟨(some 53), none, .bin .add (.t 52) (.c (.int .i64 1))⟩,
  ⟨(some 3), none, .mov (.t 53)⟩]
@[go_sem] def slices_Compact_int_int_r12 : List AI := [
  ⟨(some 33), none, .mov (.t 5)⟩,
  ⟨(some 34), none, .bin .add (.t 33) (.c (.int .i64 1))⟩,
  ⟨(some 5), none, .mov (.t 34)⟩]
def slices_Compact_int_int_l1 : AC := .seq (.seq (.ops [slices_Compact_int_int_r8]) (.cond (.t 32) (.skip) (.exit 2))) (.seq (.block 3 (.seq (.ops [slices_Compact_int_int_r9]) (.cond (.t 44) (.seq (.ops [slices_Compact_int_int_r10]) (.ops [slices_Compact_int_int_r11])) (.skip)))) (.ops [slices_Compact_int_int_r12]))
theorem slices_Compact_int_int_l1_eq : slices_Compact_int_int_l1 = .seq (.seq (.ops [slices_Compact_int_int_r8]) (.cond (.t 32) (.skip) (.exit 2))) (.seq (.block 3 (.seq (.ops [slices_Compact_int_int_r9]) (.cond (.t 44) (.seq (.ops [slices_Compact_int_int_r10]) (.ops [slices_Compact_int_int_r11])) (.skip)))) (.ops [slices_Compact_int_int_r12])) := rfl
@[go_sem] def slices_Compact_int_int_r13 : List AI := [
  ⟨(some 54), none, .mov (.t 0)⟩,
  ⟨(some 55), none, .mov (.t 3)⟩,
  ⟨(some 56), none, .slc 1 (.t 54) (some (.t 55)) none⟩,
  ⟨none, none, .clr [(.int .i64 0)] (.t 56)⟩]
@[go_sem] def slices_Compact_int_int_r14 : List AI := [
  ⟨(some 57), none, .mov (.t 0)⟩,
  ⟨(some 58), none, .mov (.t 3)⟩,
  ⟨(some 59), none, .slc 1 (.t 57) none (some (.t 58))⟩,
  ⟨(some 2), none, .mov (.t 59)⟩]
@[go_sem] def slices_Compact_int_int_r15 : List AI := [
  ⟨(some 14), none, .mov (.t 3)⟩,
  ⟨(some 15), none, .bin .add (.t 14) (.c (.int .i64 1))⟩,
  ⟨(some 3), none, .mov (.t 15)⟩]
def slices_Compact_int_int_l0 : AC := .seq (.seq (.ops [slices_Compact_int_int_r4]) (.cond (.t 13) (.skip) (.exit 0))) (.seq (.block 1 (.seq (.ops [slices_Compact_int_int_r5]) (.cond (.t 25) (.seq (.ops [slices_Compact_int_int_r6]) (.seq (.seq (.ops [slices_Compact_int_int_r7]) (.block 2 (.loop slices_Compact_int_int_l1))) (.seq (.ops [slices_Compact_int_int_r13]) (.seq (.ops [slices_Compact_int_int_r14]) (.ret))))) (.skip)))) (.ops [slices_Compact_int_int_r15]))
theorem slices_Compact_int_int_l0_eq : slices_Compact_int_int_l0 = .seq (.seq (.ops [slices_Compact_int_int_r4]) (.cond (.t 13) (.skip) (.exit 0))) (.seq (.block 1 (.seq (.ops [slices_Compact_int_int_r5]) (.cond (.t 25) (.seq (.ops [slices_Compact_int_int_r6]) (.seq (.seq (.ops [slices_Compact_int_int_r7]) (.block 2 (.loop slices_Compact_int_int_l1))) (.seq (.ops [slices_Compact_int_int_r13]) (.seq (.ops [slices_Compact_int_int_r14]) (.ret))))) (.skip)))) (.ops [slices_Compact_int_int_r15])) := rfl
@[go_sem] def slices_Compact_int_int_r16 : List AI := [
  ⟨(some 60), none, .mov (.t 0)⟩,
  ⟨(some 2), none, .mov (.t 60)⟩]
@[go_sem] def slices_Compact_int_int_c : AC := .seq (.ops [slices_Compact_int_int_r0]) (.seq (.seq (.ops [slices_Compact_int_int_r1]) (.cond (.t 8) (.seq (.ops [slices_Compact_int_int_r2]) (.ret)) (.skip))) (.seq (.seq (.ops [slices_Compact_int_int_r3]) (.block 0 (.loop slices_Compact_int_int_l0))) (.seq (.ops [slices_Compact_int_int_r16]) (.ret))))
theorem slices_Compact_int_int_ok : compF Tryd.prog 36 = some (61, slices_Compact_int_int_c, [.t 2]) := by kernel_rfl

@[go_sem] def verify_violates_r0 : List AI := [
  ⟨(some 3), none, .box 370003 11 (.t 0)⟩,
  ⟨(some 6), none, .mov (.c (.bool false))⟩]
@[go_sem] def verify_violates_r1 : List AI := [
  ⟨(some 14), none, .mov (.t 2)⟩,
  ⟨(some 15), none, .mov (.t 1)⟩,
  ⟨(some 16), none, .look 0 (.agg [.nils, (.int .i64 0), .nils]) true (.t 14) (.t 15)⟩,
  ⟨(some 13), none, .mov (.t 16)⟩,
  ⟨(some 17), none, .ext 0 (.t 13)⟩,
  ⟨(some 18), none, .ext 1 (.t 13)⟩,
  ⟨(some 7), none, .box 370007 3 (.c (.agg [.nils, (.int .i64 0), .nils]))⟩,
  ⟨none, none, .store 3 (.t 7) (.t 17)⟩,
  ⟨(some 8), none, .mov (.t 18)⟩]
@[go_sem] def verify_violates_r2 : List AI := [
  ⟨(some 19), none, .mov (.t 8)⟩,
  ⟨(some 20), none, .un .not (.t 19)⟩]
@[go_sem] def verify_violates_r3 : List AI := [
  ⟨(some 6), none, .mov (.c (.bool false))⟩]
@[go_sem] def verify_violates_r4 : List AI := [
  ⟨(some 21), none, .faddr 5 (.t 3)⟩,
  ⟨(some 22), none, .load 1 false (.t 21)⟩,
  ⟨(some 23), none, .mov (.t 1)⟩,
  ⟨(some 24), none, .iaddr 5 (.t 22) (.t 23)⟩,
  ⟨(some 25), none, .load 5 true (.t 24)⟩,
  ⟨(some 9), none, .box 370009 5 (.c (.agg [(.int .i64 0), (.int .i64 0), (.int .i64 0), (.int .i64 0), (.int .i64 0)]))⟩,
  ⟨none, none, .store 5 (.t 9) (.t 25)⟩]
@[go_sem] def verify_violates_r5 : List AI := [
  ⟨(some 27), none, .load 5 true (.t 9)⟩,
  ⟨(some 28), none, .call 34 [(.t 27)]⟩,
  ⟨(some 29), none, .mov (.t 28)⟩,
  ⟨(some 30), (some (29, true)), .mov (.t 1)⟩,
  ⟨(some 31), (some (29, true)), .faddr 5 (.t 3)⟩,
  ⟨(some 32), (some (29, true)), .load 1 false (.t 31)⟩,
  ⟨(some 33), (some (29, true)), .len 0 (.t 32)⟩,
  ⟨(some 34), (some (29, true)), .bin .sub (.t 33) (.c (.int .i64 1))⟩,
  ⟨(some 35), (some (29, true)), .bin .eql (.t 30) (.t 34)⟩,
  ⟨(some 36), none, .pick (.t 29) (.t 35) (.c (.bool false))⟩,
  ⟨(some 26), none, .mov (.t 36)⟩]
@[go_sem] def verify_violates_r6 : List AI := [
  ⟨(some 6), none, .mov (.c (.bool true))⟩]
@[go_sem] def verify_violates_r7 : List AI := [
  ⟨(some 38), none, .load 11 true (.t 3)⟩,
  ⟨(some 39), none, .load 5 true (.t 9)⟩,
  ⟨(some 40), none, .load 3 true (.t 7)⟩,
  ⟨(some 41), none, .call 62 [(.t 38), (.t 39), (.t 40)]⟩,
  ⟨(some 42), none, .un .not (.t 41)⟩,
  ⟨(some 37), none, .mov (.t 42)⟩]
@[go_sem] def verify_violates_r8 : List AI := [
  ⟨(some 6), none, .mov (.c (.bool true))⟩]
@[go_sem] def verify_violates_r9 : List AI := [
  ⟨(some 44), none, .faddr 0 (.t 9)⟩,
  ⟨(some 45), none, .load 1 false (.t 44)⟩,
  ⟨(some 46), none, .bin .eql (.t 45) (.c (.int .i64 28))⟩,
  ⟨(some 47), none, .mov (.t 46)⟩,
  ⟨(some 48), (some (47, true)), .faddr 2 (.t 7)⟩,
  ⟨(some 49), (some (47, true)), .load 1 false (.t 48)⟩,
  ⟨(some 50), (some (47, true)), .mkfn 63 [(.t 9)]⟩,
  ⟨(some 51), (some (47, true)), .call 47 [(.t 49), (.t 50)]⟩,
  ⟨(some 52), none, .pick (.t 47) (.t 51) (.c (.bool false))⟩,
  ⟨(some 43), none, .mov (.t 52)⟩]
@[go_sem] def verify_violates_r10 : List AI := [
  ⟨(some 6), none, .mov (.c (.bool true))⟩]
@[go_sem] def verify_violates_r11 : List AI := [
  ⟨(some 54), none, .faddr 0 (.t 9)⟩,
  ⟨(some 55), none, .load 1 false (.t 54)⟩,
  ⟨(some 56), none, .bin .eql (.t 55) (.c (.int .i64 17))⟩,
  ⟨(some 57), none, .mov (.t 56)⟩,
  ⟨(some 58), (some (57, true)), .faddr 2 (.t 7)⟩,
  ⟨(some 59), (some (57, true)), .load 1 false (.t 58)⟩,
  ⟨(some 60), (some (57, true)), .len 0 (.t 59)⟩,
  ⟨(some 61), (some (57, true)), .bin .gtr (.t 60) (.c (.int .i64 0))⟩,
  ⟨(some 62), none, .pick (.t 57) (.t 61) (.c (.bool false))⟩,
  ⟨(some 53), none, .mov (.t 62)⟩]
@[go_sem] def verify_violates_r12 : List AI := [
  ⟨(some 6), none, .mov (.c (.bool true))⟩]
@[go_sem] def verify_violates_r13 : List AI := [
  ⟨(some 63), none, .load 11 true (.t 3)⟩,
  ⟨(some 64), none, .mov (.t 1)⟩,
  ⟨(some 65), none, .call 23 [(.t 63), (.t 64)]⟩,
  ⟨(some 66), none, .len 0 (.t 65)⟩,
  ⟨(some 67), none, .mov (.c (.int .i64 0))⟩]
@[go_sem] def verify_violates_r14 : List AI := [
  ⟨(some 68), none, .bin .lss (.t 67) (.t 66)⟩]
@[go_sem] def verify_violates_r15 : List AI := [
  ⟨(some 69), none, .iaddr 1 (.t 65) (.t 67)⟩,
  ⟨(some 70), none, .load 1 false (.t 69)⟩,
  ⟨(some 11), none, .mov (.t 70)⟩]
@[go_sem] def verify_violates_r16 : List AI := [
  ⟨(some 71), none, .load 11 true (.t 3)⟩,
  ⟨(some 72), none, .mov (.t 1)⟩,
  ⟨(some 73), none, .mov (.t 11)⟩,
  ⟨(some 74), none, .build [(.int .i64 0), (.int .i64 0)] [(0, 1, (.t 72)), (1, 1, (.t 73))]⟩,
  ⟨(some 75), none, .load 3 true (.t 7)⟩,
  ⟨(some 76), none, .call 21 [(.t 71), (.t 74), (.t 75)]⟩,
  ⟨(some 12), none, .box 370012 3 (.c (.agg [.nils, (.int .i64 0), .nils]))⟩,
  ⟨none, none, .store 3 (.t 12) (.t 76)⟩]
@[go_sem] def verify_violates_r17 : List AI := [
  ⟨(some 77), none, .faddr 1 (.t 12)⟩,
  ⟨(some 78), none, .load 1 false (.t 77)⟩,
  ⟨(some 79), none, .mov (.t 2)⟩,
  ⟨(some 80), none, .mov (.t 11)⟩,
  ⟨(some 81), none, .look 0 (.agg [.nils, (.int .i64 0), .nils]) false (.t 79) (.t 80)⟩,
  ⟨(some 82), none, .fld 1 1 false (.t 81)⟩,
  ⟨(some 83), none, .bin .neq (.t 78) (.t 82)⟩,
  ⟨(some 84), none, .mov (.t 83)⟩,
  ⟨(some 85), (some (84, false)), .faddr 2 (.t 12)⟩,
  ⟨(some 86), (some (84, false)), .load 1 false (.t 85)⟩,
  ⟨(some 87), (some (84, false)), .mov (.t 2)⟩,
  ⟨(some 88), (some (84, false)), .mov (.t 11)⟩,
  ⟨(some 89), (some (84, false)), .look 0 (.agg [.nils, (.int .i64 0), .nils]) false (.t 87) (.t 88)⟩,
  ⟨(some 90), (some (84, false)), .fld 2 1 false (.t 89)⟩,
  ⟨(some 91), (some (84, false)), .call 64 [(.t 86), (.t 90)]⟩,
  ⟨(some 92), (some (84, false)), .un .not (.t 91)⟩,
  ⟨(some 93), none, .pick (.t 84) (.c (.bool true)) (.t 92)⟩,
  ⟨(some 94), none, .mov (.t 93)⟩,
  ⟨(some 95), (some (94, false)), .mov (.t 11)⟩,
  ⟨(some 96), (some (94, false)), .mov (.t 1)⟩,
  ⟨(some 97), (some (94, false)), .bin .leq (.t 95) (.t 96)⟩,
  ⟨(some 98), (some (94, false)), .mov (.t 97)⟩,
  ⟨(some 99), (some (98, true)), .faddr 5 (.t 3)⟩,
  ⟨(some 100), (some (98, true)), .load 1 false (.t 99)⟩,
  ⟨(some 101), (some (98, true)), .mov (.t 11)⟩,
  ⟨(some 102), (some (98, true)), .iaddr 5 (.t 100) (.t 101)⟩,
  ⟨(some 103), (some (98, true)), .faddr 0 (.t 102)⟩,
  ⟨(some 104), (some (98, true)), .load 1 false (.t 103)⟩,
  ⟨(some 105), (some (98, true)), .bin .neq (.t 104) (.c (.int .i64 29))⟩,
  ⟨(some 106), (some (94, false)), .pick (.t 98) (.t 105) (.c (.bool false))⟩,
  ⟨(some 107), none, .pick (.t 94) (.c (.bool true)) (.t 106)⟩]
@[go_sem] def verify_violates_r18 : List AI := [
  ⟨(some 6), none, .mov (.c (.bool true))⟩]
@[go_sem] def verify_violates_r19 : List AI := [
  ⟨(some 108), none, .bin .add (.t 67) (.c (.int .i64 1))⟩,
  ⟨(some 67), none, .mov (.t 108)⟩]
def verify_violates_l0 : AC := .seq (.ops [verify_violates_r14]) (.seq (.cond (.t 68) (.skip) (.exit 1)) (.seq (.block 2 (.seq (.ops [verify_violates_r15]) (.seq (.ops [verify_violates_r16]) (.seq (.ops [verify_violates_r17]) (.cond (.t 107) (.seq (.ops [verify_violates_r18]) (.ret)) (.skip)))))) (.ops [verify_violates_r19])))
theorem verify_violates_l0_eq : verify_violates_l0 = .seq (.ops [verify_violates_r14]) (.seq (.cond (.t 68) (.skip) (.exit 1)) (.seq (.block 2 (.seq (.ops [verify_violates_r15]) (.seq (.ops [verify_violates_r16]) (.seq (.ops [verify_violates_r17]) (.cond (.t 107) (.seq (.ops [verify_violates_r18]) (.ret)) (.skip)))))) (.ops [verify_violates_r19]))) := rfl
@[go_sem] def verify_violates_r20 : List AI := [
  ⟨(some 6), none, .mov (.c (.bool false))⟩]
@[go_sem] def verify_violates_c : AC := .seq (.ops [verify_violates_r0]) (.seq (.ops [verify_violates_r1]) (.seq (.seq (.ops [verify_violates_r2]) (.cond (.t 20) (.seq (.ops [verify_violates_r3]) (.ret)) (.skip))) (.seq (.ops [verify_violates_r4]) (.seq (.block 0 (.seq (.ops [verify_violates_r5]) (.cond (.t 26) (.seq (.ops [verify_violates_r6]) (.ret)) (.seq (.ops [verify_violates_r7]) (.cond (.t 37) (.seq (.ops [verify_violates_r8]) (.ret)) (.seq (.ops [verify_violates_r9]) (.cond (.t 43) (.seq (.ops [verify_violates_r10]) (.ret)) (.seq (.ops [verify_violates_r11]) (.cond (.t 53) (.seq (.ops [verify_violates_r12]) (.ret)) (.skip)))))))))) (.seq (.seq (.ops [verify_violates_r13]) (.block 1 (.loop verify_violates_l0))) (.seq (.ops [verify_violates_r20]) (.ret)))))))
theorem verify_violates_ok : compF Tryd.prog 37 = some (109, verify_violates_c, [.t 6]) := by kernel_rfl

@[go_sem] def slices_Clone_api_Instr_api_Instr_r0 : List AI := [
  ⟨(some 2), none, .mov (.c .nils)⟩]
@[go_sem] def slices_Clone_api_Instr_api_Instr_r1 : List AI := [
  ⟨(some 3), none, .mov (.t 0)⟩,
  ⟨(some 4), none, .eqn false false (.t 3)⟩]
@[go_sem] def slices_Clone_api_Instr_api_Instr_r2 : List AI := [
  ⟨(some 2), none, .mov (.c .nils)⟩]
@[go_sem] def slices_Clone_api_Instr_api_Instr_r3 : List AI := [
  ⟨(some 5), none, .mkrow 380005 5 []⟩,
  ⟨(some 6), none, .mov (.t 0)⟩,
  ⟨(some 7), none, .app 380007 5 (.t 5) (.t 6)⟩,
  ⟨(some 2), none, .mov (.t 7)⟩]
@[go_sem] def slices_Clone_api_Instr_api_Instr_c : AC := .seq (.ops [slices_Clone_api_Instr_api_Instr_r0]) (.seq (.seq (.ops [slices_Clone_api_Instr_api_Instr_r1]) (.cond (.t 4) (.seq (.ops [slices_Clone_api_Instr_api_Instr_r2]) (.ret)) (.skip))) (.seq (.ops [slices_Clone_api_Instr_api_Instr_r3]) (.ret)))
theorem slices_Clone_api_Instr_api_Instr_ok : compF Tryd.prog 38 = some (8, slices_Clone_api_Instr_api_Instr_c, [.t 2]) := by kernel_rfl

@[go_sem] def slices_Clone_api_Value_api_Value_r0 : List AI := [
  ⟨(some 2), none, .mov (.c .nils)⟩]
@[go_sem] def slices_Clone_api_Value_api_Value_r1 : List AI := [
  ⟨(some 3), none, .mov (.t 0)⟩,
  ⟨(some 4), none, .eqn false false (.t 3)⟩]
@[go_sem] def slices_Clone_api_Value_api_Value_r2 : List AI := [
  ⟨(some 2), none, .mov (.c .nils)⟩]
@[go_sem] def slices_Clone_api_Value_api_Value_r3 : List AI := [
  ⟨(some 5), none, .mkrow 390005 5 []⟩,
  ⟨(some 6), none, .mov (.t 0)⟩,
  ⟨(some 7), none, .app 390007 5 (.t 5) (.t 6)⟩,
  ⟨(some 2), none, .mov (.t 7)⟩]
@[go_sem] def slices_Clone_api_Value_api_Value_c : AC := .seq (.ops [slices_Clone_api_Value_api_Value_r0]) (.seq (.seq (.ops [slices_Clone_api_Value_api_Value_r1]) (.cond (.t 4) (.seq (.ops [slices_Clone_api_Value_api_Value_r2]) (.ret)) (.skip))) (.seq (.ops [slices_Clone_api_Value_api_Value_r3]) (.ret)))
theorem slices_Clone_api_Value_api_Value_ok : compF Tryd.prog 39 = some (8, slices_Clone_api_Value_api_Value_c, [.t 2]) := by kernel_rfl

@[go_sem] def slices_Clone_api_Up_api_Up_r0 : List AI := [
  ⟨(some 2), none, .mov (.c .nils)⟩]
@[go_sem] def slices_Clone_api_Up_api_Up_r1 : List AI := [
  ⟨(some 3), none, .mov (.t 0)⟩,
  ⟨(some 4), none, .eqn false false (.t 3)⟩]
@[go_sem] def slices_Clone_api_Up_api_Up_r2 : List AI := [
  ⟨(some 2), none, .mov (.c .nils)⟩]
@[go_sem] def slices_Clone_api_Up_api_Up_r3 : List AI := [
  ⟨(some 5), none, .mkrow 400005 3 []⟩,
  ⟨(some 6), none, .mov (.t 0)⟩,
  ⟨(some 7), none, .app 400007 3 (.t 5) (.t 6)⟩,
  ⟨(some 2), none, .mov (.t 7)⟩]
@[go_sem] def slices_Clone_api_Up_api_Up_c : AC := .seq (.ops [slices_Clone_api_Up_api_Up_r0]) (.seq (.seq (.ops [slices_Clone_api_Up_api_Up_r1]) (.cond (.t 4) (.seq (.ops [slices_Clone_api_Up_api_Up_r2]) (.ret)) (.skip))) (.seq (.ops [slices_Clone_api_Up_api_Up_r3]) (.ret)))
theorem slices_Clone_api_Up_api_Up_ok : compF Tryd.prog 40 = some (8, slices_Clone_api_Up_api_Up_c, [.t 2]) := by kernel_rfl

@[go_sem] def slices_Clone_api_Var_api_Var_r0 : List AI := [
  ⟨(some 2), none, .mov (.c .nils)⟩]
@[go_sem] def slices_Clone_api_Var_api_Var_r1 : List AI := [
  ⟨(some 3), none, .mov (.t 0)⟩,
  ⟨(some 4), none, .eqn false false (.t 3)⟩]
@[go_sem] def slices_Clone_api_Var_api_Var_r2 : List AI := [
  ⟨(some 2), none, .mov (.c .nils)⟩]
@[go_sem] def slices_Clone_api_Var_api_Var_r3 : List AI := [
  ⟨(some 5), none, .mkrow 410005 5 []⟩,
  ⟨(some 6), none, .mov (.t 0)⟩,
  ⟨(some 7), none, .app 410007 5 (.t 5) (.t 6)⟩,
  ⟨(some 2), none, .mov (.t 7)⟩]
@[go_sem] def slices_Clone_api_Var_api_Var_c : AC := .seq (.ops [slices_Clone_api_Var_api_Var_r0]) (.seq (.seq (.ops [slices_Clone_api_Var_api_Var_r1]) (.cond (.t 4) (.seq (.ops [slices_Clone_api_Var_api_Var_r2]) (.ret)) (.skip))) (.seq (.ops [slices_Clone_api_Var_api_Var_r3]) (.ret)))
theorem slices_Clone_api_Var_api_Var_ok : compF Tryd.prog 41 = some (8, slices_Clone_api_Var_api_Var_c, [.t 2]) := by kernel_rfl

@[go_sem] def proto_limits_1_r0 : List AI := [
  ⟨(some 2), none, .mov (.c (.bool false))⟩]
@[go_sem] def proto_limits_1_r1 : List AI := [
  ⟨(some 3), none, .mov (.t 0)⟩,
  ⟨(some 4), none, .len 1 (.t 3)⟩,
  ⟨(some 5), none, .bin .gtr (.t 4) (.c (.int .i64 40))⟩,
  ⟨(some 2), none, .mov (.t 5)⟩]
@[go_sem] def proto_limits_1_c : AC := .seq (.ops [proto_limits_1_r0]) (.seq (.ops [proto_limits_1_r1]) (.ret))
theorem proto_limits_1_ok : compF Tryd.prog 42 = some (6, proto_limits_1_c, [.t 2]) := by kernel_rfl

@[go_sem] def slices_ContainsFunc_api_Up_api_Up_r0 : List AI := [
  ⟨(some 4), none, .mov (.c (.bool false))⟩]
@[go_sem] def slices_ContainsFunc_api_Up_api_Up_r1 : List AI := [
  ⟨(some 5), none, .mov (.t 0)⟩,
  ⟨(some 6), none, .mov (.t 1)⟩,
  ⟨(some 7), none, .call 65 [(.t 5), (.t 6)]⟩,
  ⟨(some 8), none, .bin .geq (.t 7) (.c (.int .i64 0))⟩,
  ⟨(some 4), none, .mov (.t 8)⟩]
@[go_sem] def slices_ContainsFunc_api_Up_api_Up_c : AC := .seq (.ops [slices_ContainsFunc_api_Up_api_Up_r0]) (.seq (.ops [slices_ContainsFunc_api_Up_api_Up_r1]) (.ret))
theorem slices_ContainsFunc_api_Up_api_Up_ok : compF Tryd.prog 43 = some (9, slices_ContainsFunc_api_Up_api_Up_c, [.t 4]) := by kernel_rfl

@[go_sem] def proto_limits_2_r0 : List AI := [
  ⟨(some 2), none, .box 440002 3 (.t 0)⟩,
  ⟨(some 3), none, .mov (.c (.bool false))⟩]
@[go_sem] def proto_limits_2_r1 : List AI := [
  ⟨(some 4), none, .load 1 false (.t 1)⟩,
  ⟨(some 5), none, .faddr 0 (.t 2)⟩,
  ⟨(some 6), none, .load 1 false (.t 5)⟩,
  ⟨(some 7), none, .callv (.t 4) [(.t 6)]⟩,
  ⟨(some 3), none, .mov (.t 7)⟩]
@[go_sem] def proto_limits_2_c : AC := .seq (.ops [proto_limits_2_r0]) (.seq (.ops [proto_limits_2_r1]) (.ret))
theorem proto_limits_2_ok : compF Tryd.prog 44 = some (8, proto_limits_2_c, [.t 3]) := by kernel_rfl

@[go_sem] def slices_ContainsFunc_api_Var_api_Var_r0 : List AI := [
  ⟨(some 4), none, .mov (.c (.bool false))⟩]
@[go_sem] def slices_ContainsFunc_api_Var_api_Var_r1 : List AI := [
  ⟨(some 5), none, .mov (.t 0)⟩,
  ⟨(some 6), none, .mov (.t 1)⟩,
  ⟨(some 7), none, .call 66 [(.t 5), (.t 6)]⟩,
  ⟨(some 8), none, .bin .geq (.t 7) (.c (.int .i64 0))⟩,
  ⟨(some 4), none, .mov (.t 8)⟩]
@[go_sem] def slices_ContainsFunc_api_Var_api_Var_c : AC := .seq (.ops [slices_ContainsFunc_api_Var_api_Var_r0]) (.seq (.ops [slices_ContainsFunc_api_Var_api_Var_r1]) (.ret))
theorem slices_ContainsFunc_api_Var_api_Var_ok : compF Tryd.prog 45 = some (9, slices_ContainsFunc_api_Var_api_Var_c, [.t 4]) := by kernel_rfl

@[go_sem] def proto_limits_3_r0 : List AI := [
  ⟨(some 2), none, .box 460002 5 (.t 0)⟩,
  ⟨(some 3), none, .mov (.c (.bool false))⟩]
@[go_sem] def proto_limits_3_r1 : List AI := [
  ⟨(some 4), none, .load 1 false (.t 1)⟩,
  ⟨(some 5), none, .faddr 0 (.t 2)⟩,
  ⟨(some 6), none, .load 1 false (.t 5)⟩,
  ⟨(some 7), none, .callv (.t 4) [(.t 6)]⟩,
  ⟨(some 3), none, .mov (.t 7)⟩]
@[go_sem] def proto_limits_3_c : AC := .seq (.ops [proto_limits_3_r0]) (.seq (.ops [proto_limits_3_r1]) (.ret))
theorem proto_limits_3_ok : compF Tryd.prog 46 = some (8, proto_limits_3_c, [.t 3]) := by kernel_rfl

@[go_sem] def slices_ContainsFunc_int_int_r0 : List AI := [
  ⟨(some 4), none, .mov (.c (.bool false))⟩]
@[go_sem] def slices_ContainsFunc_int_int_r1 : List AI := [
  ⟨(some 5), none, .mov (.t 0)⟩,
  ⟨(some 6), none, .mov (.t 1)⟩,
  ⟨(some 7), none, .call 67 [(.t 5), (.t 6)]⟩,
  ⟨(some 8), none, .bin .geq (.t 7) (.c (.int .i64 0))⟩,
  ⟨(some 4), none, .mov (.t 8)⟩]
@[go_sem] def slices_ContainsFunc_int_int_c : AC := .seq (.ops [slices_ContainsFunc_int_int_r0]) (.seq (.ops [slices_ContainsFunc_int_int_r1]) (.ret))
theorem slices_ContainsFunc_int_int_ok : compF Tryd.prog 47 = some (9, slices_ContainsFunc_int_int_c, [.t 4]) := by kernel_rfl

@[go_sem] def proto_form_1_r0 : List AI := [
  ⟨(some 2), none, .mov (.c (.bool false))⟩]
@[go_sem] def proto_form_1_r1 : List AI := [
  ⟨(some 3), none, .mov (.t 0)⟩,
  ⟨(some 4), none, .bin .lss (.t 3) (.c (.int .i64 0))⟩,
  ⟨(some 2), none, .mov (.t 4)⟩]
@[go_sem] def proto_form_1_c : AC := .seq (.ops [proto_form_1_r0]) (.seq (.ops [proto_form_1_r1]) (.ret))
theorem proto_form_1_ok : compF Tryd.prog 48 = some (5, proto_form_1_c, [.t 2]) := by kernel_rfl

@[go_sem] def proto_form_2_r0 : List AI := [
  ⟨(some 1), none, .box 490001 3 (.t 0)⟩,
  ⟨(some 2), none, .mov (.c (.bool false))⟩]
@[go_sem] def proto_form_2_r1 : List AI := [
  ⟨(some 3), none, .faddr 2 (.t 1)⟩,
  ⟨(some 4), none, .load 1 false (.t 3)⟩,
  ⟨(some 5), none, .bin .lss (.t 4) (.c (.int .i64 0))⟩,
  ⟨(some 2), none, .mov (.t 5)⟩]
@[go_sem] def proto_form_2_c : AC := .seq (.ops [proto_form_2_r0]) (.seq (.ops [proto_form_2_r1]) (.ret))
theorem proto_form_2_ok : compF Tryd.prog 49 = some (6, proto_form_2_c, [.t 2]) := by kernel_rfl

@[go_sem] def value_Valid_r0 : List AI := [
  ⟨(some 1), none, .box 500001 5 (.t 0)⟩,
  ⟨(some 2), none, .mov (.c (.bool false))⟩]
@[go_sem] def value_Valid_r1 : List AI := [
  ⟨(some 5), none, .faddr 0 (.t 1)⟩,
  ⟨(some 6), none, .load 1 false (.t 5)⟩,
  ⟨(some 7), none, .build [(.int .i64 0), (.int .i64 0), (.int .i64 0), (.str []), (.int .i64 0)] [(0, 1, (.t 6))]⟩,
  ⟨(some 3), none, .box 500003 5 (.c (.agg [(.int .i64 0), (.int .i64 0), (.int .i64 0), (.str []), (.int .i64 0)]))⟩,
  ⟨none, none, .store 5 (.t 3) (.t 7)⟩]
@[go_sem] def value_Valid_r2 : List AI := [
  ⟨(some 4), none, .mov (.c (.bool true))⟩]
@[go_sem] def value_Valid_r3 : List AI := [
  ⟨(some 8), none, .faddr 0 (.t 1)⟩,
  ⟨(some 9), none, .load 1 false (.t 8)⟩]
@[go_sem] def value_Valid_r4 : List AI := [
  ⟨(some 11), none, .bin .eql (.t 9) (.c (.int .i64 0))⟩,
  ⟨(some 10), none, .mov (.t 11)⟩]
@[go_sem] def value_Valid_r5 : List AI := [
  ⟨(some 13), none, .bin .eql (.t 9) (.c (.int .i64 1))⟩,
  ⟨(some 12), none, .mov (.t 13)⟩]
@[go_sem] def value_Valid_r6 : List AI := [
  ⟨(some 14), none, .faddr 4 (.t 1)⟩,
  ⟨(some 15), none, .load 1 false (.t 14)⟩,
  ⟨(some 16), none, .faddr 4 (.t 3)⟩,
  ⟨none, none, .store 1 (.t 16) (.t 15)⟩]
@[go_sem] def value_Valid_r7 : List AI := [
  ⟨(some 17), none, .faddr 4 (.t 1)⟩,
  ⟨(some 18), none, .load 1 false (.t 17)⟩,
  ⟨(some 19), none, .bin .eql (.t 18) (.c (.int .i64 0))⟩,
  ⟨(some 20), none, .mov (.t 19)⟩,
  ⟨(some 21), (some (20, false)), .faddr 4 (.t 1)⟩,
  ⟨(some 22), (some (20, false)), .load 1 false (.t 21)⟩,
  ⟨(some 23), (some (20, false)), .bin .eql (.t 22) (.c (.int .i64 1))⟩,
  ⟨(some 24), none, .pick (.t 20) (.c (.bool true)) (.t 23)⟩,
  ⟨(some 4), none, .mov (.t 24)⟩]
@[go_sem] def value_Valid_r8 : List AI := [
  ⟨(some 26), none, .bin .eql (.t 9) (.c (.int .i64 2))⟩,
  ⟨(some 25), none, .mov (.t 26)⟩]
@[go_sem] def value_Valid_r9 : List AI := [
  ⟨(some 27), none, .faddr 1 (.t 1)⟩,
  ⟨(some 28), none, .load 2 true (.t 27)⟩,
  ⟨(some 29), none, .faddr 1 (.t 3)⟩,
  ⟨none, none, .store 2 (.t 29) (.t 28)⟩]
@[go_sem] def value_Valid_r10 : List AI := [
  ⟨(some 30), none, .faddr 1 (.t 1)⟩,
  ⟨(some 31), none, .load 2 true (.t 30)⟩,
  ⟨(some 32), none, .call 68 [(.t 31)]⟩,
  ⟨(some 4), none, .mov (.t 32)⟩]
@[go_sem] def value_Valid_r11 : List AI := [
  ⟨(some 34), none, .bin .eql (.t 9) (.c (.int .i64 3))⟩,
  ⟨(some 33), none, .mov (.t 34)⟩]
@[go_sem] def value_Valid_r12 : List AI := [
  ⟨(some 35), none, .faddr 3 (.t 1)⟩,
  ⟨(some 36), none, .load 1 false (.t 35)⟩,
  ⟨(some 37), none, .faddr 3 (.t 3)⟩,
  ⟨none, none, .store 1 (.t 37) (.t 36)⟩]
@[go_sem] def value_Valid_r13 : List AI := [
  ⟨(some 38), none, .faddr 3 (.t 1)⟩,
  ⟨(some 39), none, .load 1 false (.t 38)⟩,
  ⟨(some 40), none, .len 1 (.t 39)⟩,
  ⟨(some 41), none, .bin .leq (.t 40) (.c (.int .i64 4096))⟩,
  ⟨(some 4), none, .mov (.t 41)⟩]
@[go_sem] def value_Valid_r14 : List AI := [
  ⟨(some 43), none, .bin .eql (.t 9) (.c (.int .i64 4))⟩,
  ⟨(some 42), none, .mov (.t 43)⟩]
@[go_sem] def value_Valid_r15 : List AI := [
  ⟨(some 44), none, .bin .eql (.t 9) (.c (.int .i64 5))⟩,
  ⟨(some 42), none, .mov (.t 44)⟩]
@[go_sem] def value_Valid_r16 : List AI := [
  ⟨(some 45), none, .bin .eql (.t 9) (.c (.int .i64 7))⟩,
  ⟨(some 42), none, .mov (.t 45)⟩]
@[go_sem] def value_Valid_r17 : List AI := [
  ⟨(some 46), none, .bin .eql (.t 9) (.c (.int .i64 8))⟩,
  ⟨(some 42), none, .mov (.t 46)⟩]
@[go_sem] def value_Valid_r18 : List AI := [
  ⟨(some 47), none, .faddr 4 (.t 1)⟩,
  ⟨(some 48), none, .load 1 false (.t 47)⟩,
  ⟨(some 49), none, .faddr 4 (.t 3)⟩,
  ⟨none, none, .store 1 (.t 49) (.t 48)⟩]
@[go_sem] def value_Valid_r19 : List AI := [
  ⟨(some 50), none, .faddr 4 (.t 1)⟩,
  ⟨(some 51), none, .load 1 false (.t 50)⟩,
  ⟨(some 52), none, .bin .geq (.t 51) (.c (.int .i64 1))⟩,
  ⟨(some 4), none, .mov (.t 52)⟩]
@[go_sem] def value_Valid_r20 : List AI := [
  ⟨(some 54), none, .bin .eql (.t 9) (.c (.int .i64 6))⟩,
  ⟨(some 53), none, .mov (.t 54)⟩]
@[go_sem] def value_Valid_r21 : List AI := [
  ⟨(some 55), none, .faddr 3 (.t 1)⟩,
  ⟨(some 56), none, .load 1 false (.t 55)⟩,
  ⟨(some 57), none, .faddr 3 (.t 3)⟩,
  ⟨none, none, .store 1 (.t 57) (.t 56)⟩]
@[go_sem] def value_Valid_r22 : List AI := [
  ⟨(some 58), none, .faddr 3 (.t 1)⟩,
  ⟨(some 59), none, .load 1 false (.t 58)⟩,
  ⟨(some 60), none, .len 1 (.t 59)⟩,
  ⟨(some 61), none, .bin .geq (.t 60) (.c (.int .i64 1))⟩,
  ⟨(some 62), none, .mov (.t 61)⟩,
  ⟨(some 63), (some (62, true)), .faddr 3 (.t 1)⟩,
  ⟨(some 64), (some (62, true)), .load 1 false (.t 63)⟩,
  ⟨(some 65), (some (62, true)), .len 1 (.t 64)⟩,
  ⟨(some 66), (some (62, true)), .bin .leq (.t 65) (.c (.int .i64 4096))⟩,
  ⟨(some 67), none, .pick (.t 62) (.t 66) (.c (.bool false))⟩,
  ⟨(some 4), none, .mov (.t 67)⟩]
@[go_sem] def value_Valid_r23 : List AI := [
  ⟨(some 4), none, .mov (.c (.bool false))⟩]
@[go_sem] def value_Valid_r24 : List AI := [
  ⟨(some 68), none, .mov (.t 4)⟩,
  ⟨(some 69), none, .mov (.t 68)⟩,
  ⟨(some 70), (some (69, true)), .load 5 true (.t 1)⟩,
  ⟨(some 71), (some (69, true)), .load 5 true (.t 3)⟩,
  ⟨(some 72), (some (69, true)), .eqa false (.agg [(0, 1, (.leaf 1)), (1, 2, (.agg [(0, 1, (.leaf 1)), (1, 1, (.leaf 1))])), (3, 1, (.leaf 2)), (4, 1, (.leaf 1))]) (.t 70) (.t 71)⟩,
  ⟨(some 73), none, .pick (.t 69) (.t 72) (.c (.bool false))⟩,
  ⟨(some 2), none, .mov (.t 73)⟩]
@[go_sem] def value_Valid_c : AC := .seq (.ops [value_Valid_r0]) (.seq (.ops [value_Valid_r1]) (.seq (.ops [value_Valid_r2]) (.seq (.seq (.ops [value_Valid_r3]) (.block 0 (.seq (.ops [value_Valid_r4]) (.cond (.t 10) (.skip) (.seq (.ops [value_Valid_r5]) (.cond (.t 12) (.seq (.ops [value_Valid_r6]) (.ops [value_Valid_r7])) (.seq (.ops [value_Valid_r8]) (.cond (.t 25) (.seq (.ops [value_Valid_r9]) (.ops [value_Valid_r10])) (.seq (.ops [value_Valid_r11]) (.cond (.t 33) (.seq (.ops [value_Valid_r12]) (.ops [value_Valid_r13])) (.seq (.seq (.ops [value_Valid_r14]) (.cond (.t 42) (.skip) (.seq (.ops [value_Valid_r15]) (.cond (.t 42) (.skip) (.seq (.ops [value_Valid_r16]) (.cond (.t 42) (.skip) (.ops [value_Valid_r17]))))))) (.cond (.t 42) (.seq (.ops [value_Valid_r18]) (.ops [value_Valid_r19])) (.seq (.ops [value_Valid_r20]) (.cond (.t 53) (.seq (.ops [value_Valid_r21]) (.ops [value_Valid_r22])) (.ops [value_Valid_r23]))))))))))))))) (.seq (.ops [value_Valid_r24]) (.ret)))))
theorem value_Valid_ok : compF Tryd.prog 50 = some (74, value_Valid_c, [.t 2]) := by kernel_rfl

@[go_sem] def opcode_Check_r0 : List AI := [
  ⟨(some 1), none, .box 510001 5 (.t 0)⟩,
  ⟨(some 2), none, .mov (.c (.int .i64 0))⟩]
@[go_sem] def opcode_Check_r1 : List AI := [
  ⟨(some 14), none, .faddr 0 (.t 1)⟩,
  ⟨(some 15), none, .load 1 false (.t 14)⟩,
  ⟨(some 16), none, .call 69 [(.t 15)]⟩,
  ⟨(some 13), none, .mov (.t 16)⟩,
  ⟨(some 17), none, .ext 0 (.t 13)⟩,
  ⟨(some 18), none, .ext 1 (.t 13)⟩,
  ⟨(some 3), none, .box 510003 6 (.c (.agg [(.str []), (.int .i64 0), (.int .i64 0), (.int .i64 0), (.int .i64 0), (.int .i64 0)]))⟩,
  ⟨none, none, .store 6 (.t 3) (.t 17)⟩,
  ⟨(some 4), none, .mov (.t 18)⟩]
@[go_sem] def opcode_Check_r2 : List AI := [
  ⟨(some 19), none, .mov (.t 4)⟩,
  ⟨(some 20), none, .un .not (.t 19)⟩]
@[go_sem] def opcode_Check_r3 : List AI := [
  ⟨(some 2), none, .mov (.c (.int .i64 4))⟩]
@[go_sem] def opcode_Check_r4 : List AI := [
  ⟨(some 22), none, .load 6 true (.t 3)⟩,
  ⟨(some 23), none, .load 5 true (.t 1)⟩,
  ⟨(some 24), none, .call 70 [(.t 22), (.t 23)]⟩,
  ⟨(some 21), none, .mov (.t 24)⟩,
  ⟨(some 25), none, .ext 0 (.t 21)⟩,
  ⟨(some 26), none, .ext 1 (.t 21)⟩,
  ⟨(some 5), none, .box 510005 4 (.c (.agg [(.int .i64 0), (.int .i64 0), (.int .i64 0), (.int .i64 0)]))⟩,
  ⟨(some 6), none, .box 510006 4 (.c (.agg [(.int .i64 0), (.int .i64 0), (.int .i64 0), (.int .i64 0)]))⟩,
  ⟨none, none, .store 4 (.t 5) (.t 25)⟩,
  ⟨none, none, .store 4 (.t 6) (.t 26)⟩]
@[go_sem] def opcode_Check_r5 : List AI := [
  ⟨(some 27), none, .load 4 true (.t 5)⟩,
  ⟨(some 28), none, .mov (.c (.int .i64 0))⟩]
@[go_sem] def opcode_Check_r6 : List AI := [
  ⟨(some 29), none, .bin .lss (.t 28) (.c (.int .i64 4))⟩]
@[go_sem] def opcode_Check_r7 : List AI := [
  ⟨(some 30), none, .mov (.t 28)⟩,
  ⟨(some 31), none, .idxA 4 1 1 false (.t 27) (.t 28)⟩,
  ⟨(some 7), none, .mov (.t 30)⟩,
  ⟨(some 8), none, .mov (.t 31)⟩]
@[go_sem] def opcode_Check_r8 : List AI := [
  ⟨(some 32), none, .mov (.t 8)⟩,
  ⟨(some 33), none, .bin .eql (.t 32) (.c (.int .i64 0))⟩,
  ⟨(some 34), none, .mov (.t 33)⟩,
  ⟨(some 35), (some (34, true)), .mov (.t 7)⟩,
  ⟨(some 36), (some (34, true)), .iaddrA 4 1 (.t 6) (.t 35)⟩,
  ⟨(some 37), (some (34, true)), .load 1 false (.t 36)⟩,
  ⟨(some 38), (some (34, true)), .bin .neq (.t 37) (.c (.int .i64 0))⟩,
  ⟨(some 39), none, .pick (.t 34) (.t 38) (.c (.bool false))⟩]
@[go_sem] def opcode_Check_r9 : List AI := [
  ⟨(some 2), none, .mov (.c (.int .i64 4))⟩]
@[go_sem] def opcode_Check_r10 : List AI := [
  ⟨(some 40), none, .bin .add (.t 28) (.c (.int .i64 1))⟩,
  ⟨(some 28), none, .mov (.t 40)⟩]
def opcode_Check_l0 : AC := .seq (.ops [opcode_Check_r6]) (.seq (.cond (.t 29) (.skip) (.exit 0)) (.seq (.block 1 (.seq (.ops [opcode_Check_r7]) (.seq (.ops [opcode_Check_r8]) (.cond (.t 39) (.seq (.ops [opcode_Check_r9]) (.ret)) (.skip))))) (.ops [opcode_Check_r10])))
theorem opcode_Check_l0_eq : opcode_Check_l0 = .seq (.ops [opcode_Check_r6]) (.seq (.cond (.t 29) (.skip) (.exit 0)) (.seq (.block 1 (.seq (.ops [opcode_Check_r7]) (.seq (.ops [opcode_Check_r8]) (.cond (.t 39) (.seq (.ops [opcode_Check_r9]) (.ret)) (.skip))))) (.ops [opcode_Check_r10]))) := rfl
@[go_sem] def opcode_Check_r11 : List AI := [
  ⟨(some 41), none, .load 4 true (.t 5)⟩,
  ⟨(some 42), none, .mov (.c (.int .i64 0))⟩]
@[go_sem] def opcode_Check_r12 : List AI := [
  ⟨(some 43), none, .bin .lss (.t 42) (.c (.int .i64 4))⟩]
@[go_sem] def opcode_Check_r13 : List AI := [
  ⟨(some 44), none, .mov (.t 42)⟩,
  ⟨(some 45), none, .idxA 4 1 1 false (.t 41) (.t 42)⟩,
  ⟨(some 9), none, .mov (.t 44)⟩,
  ⟨(some 10), none, .mov (.t 45)⟩]
@[go_sem] def opcode_Check_r14 : List AI := [
  ⟨(some 47), none, .mov (.t 10)⟩,
  ⟨(some 48), none, .call 71 [(.t 47)]⟩,
  ⟨(some 46), none, .mov (.t 48)⟩,
  ⟨(some 49), none, .ext 0 (.t 46)⟩,
  ⟨(some 50), none, .ext 1 (.t 46)⟩,
  ⟨(some 11), none, .mov (.t 49)⟩,
  ⟨(some 12), none, .mov (.t 50)⟩]
@[go_sem] def opcode_Check_r15 : List AI := [
  ⟨(some 51), none, .mov (.t 9)⟩,
  ⟨(some 52), none, .iaddrA 4 1 (.t 6) (.t 51)⟩,
  ⟨(some 53), none, .load 1 false (.t 52)⟩,
  ⟨(some 54), none, .mov (.t 11)⟩,
  ⟨(some 55), none, .bin .lss (.t 53) (.t 54)⟩,
  ⟨(some 56), none, .mov (.t 55)⟩,
  ⟨(some 57), (some (56, false)), .mov (.t 9)⟩,
  ⟨(some 58), (some (56, false)), .iaddrA 4 1 (.t 6) (.t 57)⟩,
  ⟨(some 59), (some (56, false)), .load 1 false (.t 58)⟩,
  ⟨(some 60), (some (56, false)), .mov (.t 12)⟩,
  ⟨(some 61), (some (56, false)), .bin .gtr (.t 59) (.t 60)⟩,
  ⟨(some 62), none, .pick (.t 56) (.c (.bool true)) (.t 61)⟩]
@[go_sem] def opcode_Check_r16 : List AI := [
  ⟨(some 2), none, .mov (.c (.int .i64 6))⟩]
@[go_sem] def opcode_Check_r17 : List AI := [
  ⟨(some 63), none, .bin .add (.t 42) (.c (.int .i64 1))⟩,
  ⟨(some 42), none, .mov (.t 63)⟩]
def opcode_Check_l1 : AC := .seq (.ops [opcode_Check_r12]) (.seq (.cond (.t 43) (.skip) (.exit 2)) (.seq (.block 3 (.seq (.ops [opcode_Check_r13]) (.seq (.ops [opcode_Check_r14]) (.seq (.ops [opcode_Check_r15]) (.cond (.t 62) (.seq (.ops [opcode_Check_r16]) (.ret)) (.skip)))))) (.ops [opcode_Check_r17])))
theorem opcode_Check_l1_eq : opcode_Check_l1 = .seq (.ops [opcode_Check_r12]) (.seq (.cond (.t 43) (.skip) (.exit 2)) (.seq (.block 3 (.seq (.ops [opcode_Check_r13]) (.seq (.ops [opcode_Check_r14]) (.seq (.ops [opcode_Check_r15]) (.cond (.t 62) (.seq (.ops [opcode_Check_r16]) (.ret)) (.skip)))))) (.ops [opcode_Check_r17]))) := rfl
@[go_sem] def opcode_Check_r18 : List AI := [
  ⟨(some 64), none, .faddr 1 (.t 3)⟩,
  ⟨(some 65), none, .load 1 false (.t 64)⟩,
  ⟨(some 66), none, .bin .eql (.t 65) (.c (.int .i64 1))⟩,
  ⟨(some 67), none, .mov (.t 66)⟩,
  ⟨(some 68), (some (67, true)), .load 6 true (.t 3)⟩,
  ⟨(some 69), (some (67, true)), .load 5 true (.t 1)⟩,
  ⟨(some 70), (some (67, true)), .call 72 [(.t 68), (.t 69)]⟩,
  ⟨(some 71), (some (67, true)), .bin .geq (.t 70) (.c (.int .i64 4096))⟩,
  ⟨(some 72), none, .pick (.t 67) (.t 71) (.c (.bool false))⟩,
  ⟨(some 73), none, .mov (.t 72)⟩,
  ⟨(some 74), (some (73, false)), .faddr 0 (.t 1)⟩,
  ⟨(some 75), (some (73, false)), .load 1 false (.t 74)⟩,
  ⟨(some 76), (some (73, false)), .bin .eql (.t 75) (.c (.int .i64 3))⟩,
  ⟨(some 77), (some (73, false)), .mov (.t 76)⟩,
  ⟨(some 78), (some (77, true)), .faddr 2 (.t 1)⟩,
  ⟨(some 79), (some (77, true)), .load 1 false (.t 78)⟩,
  ⟨(some 80), (some (77, true)), .faddr 1 (.t 1)⟩,
  ⟨(some 81), (some (77, true)), .load 1 false (.t 80)⟩,
  ⟨(some 82), (some (77, true)), .bin .lss (.t 79) (.t 81)⟩,
  ⟨(some 83), (some (73, false)), .pick (.t 77) (.t 82) (.c (.bool false))⟩,
  ⟨(some 84), none, .pick (.t 73) (.c (.bool true)) (.t 83)⟩]
@[go_sem] def opcode_Check_r19 : List AI := [
  ⟨(some 2), none, .mov (.c (.int .i64 6))⟩]
@[go_sem] def opcode_Check_r20 : List AI := [
  ⟨(some 2), none, .mov (.c (.int .i64 0))⟩]
@[go_sem] def opcode_Check_c : AC := .seq (.ops [opcode_Check_r0]) (.seq (.ops [opcode_Check_r1]) (.seq (.seq (.ops [opcode_Check_r2]) (.cond (.t 20) (.seq (.ops [opcode_Check_r3]) (.ret)) (.skip))) (.seq (.ops [opcode_Check_r4]) (.seq (.seq (.ops [opcode_Check_r5]) (.block 0 (.loop opcode_Check_l0))) (.seq (.seq (.ops [opcode_Check_r11]) (.block 2 (.loop opcode_Check_l1))) (.seq (.seq (.ops [opcode_Check_r18]) (.cond (.t 84) (.seq (.ops [opcode_Check_r19]) (.ret)) (.skip))) (.seq (.ops [opcode_Check_r20]) (.ret))))))))
theorem opcode_Check_ok : compF Tryd.prog 51 = some (85, opcode_Check_c, [.t 2]) := by kernel_rfl

@[go_sem] def opcode_Reads_r0 : List AI := [
  ⟨(some 1), none, .box 520001 5 (.t 0)⟩,
  ⟨(some 2), none, .mov (.c .nils)⟩,
  ⟨(some 3), none, .mov (.c (.int .i64 0))⟩]
@[go_sem] def opcode_Reads_r1 : List AI := [
  ⟨(some 6), none, .load 5 true (.t 1)⟩,
  ⟨(some 7), none, .call 51 [(.t 6)]⟩,
  ⟨(some 8), none, .bin .neq (.t 7) (.c (.int .i64 0))⟩]
@[go_sem] def opcode_Reads_r2 : List AI := [
  ⟨(some 2), none, .mov (.c .nils)⟩,
  ⟨(some 3), none, .mov (.c (.int .i64 (-1)))⟩]
@[go_sem] def opcode_Reads_r3 : List AI := [
  ⟨(some 9), none, .faddr 0 (.t 1)⟩,
  ⟨(some 10), none, .load 1 false (.t 9)⟩]
@[go_sem] def opcode_Reads_r4 : List AI := [
  ⟨(some 12), none, .bin .eql (.t 10) (.c (.int .i64 1))⟩,
  ⟨(some 11), none, .mov (.t 12)⟩]
@[go_sem] def opcode_Reads_r5 : List AI := [
  ⟨(some 13), none, .bin .eql (.t 10) (.c (.int .i64 6))⟩,
  ⟨(some 11), none, .mov (.t 13)⟩]
@[go_sem] def opcode_Reads_r6 : List AI := [
  ⟨(some 14), none, .bin .eql (.t 10) (.c (.int .i64 8))⟩,
  ⟨(some 11), none, .mov (.t 14)⟩]
@[go_sem] def opcode_Reads_r7 : List AI := [
  ⟨(some 15), none, .bin .eql (.t 10) (.c (.int .i64 11))⟩,
  ⟨(some 11), none, .mov (.t 15)⟩]
@[go_sem] def opcode_Reads_r8 : List AI := [
  ⟨(some 16), none, .bin .eql (.t 10) (.c (.int .i64 12))⟩,
  ⟨(some 11), none, .mov (.t 16)⟩]
@[go_sem] def opcode_Reads_r9 : List AI := [
  ⟨(some 17), none, .faddr 2 (.t 1)⟩,
  ⟨(some 18), none, .load 1 false (.t 17)⟩,
  ⟨(some 19), none, .mkrow 520019 1 [(.t 18)]⟩,
  ⟨(some 2), none, .mov (.t 19)⟩,
  ⟨(some 3), none, .mov (.c (.int .i64 (-1)))⟩]
@[go_sem] def opcode_Reads_r10 : List AI := [
  ⟨(some 21), none, .bin .eql (.t 10) (.c (.int .i64 9))⟩,
  ⟨(some 20), none, .mov (.t 21)⟩]
@[go_sem] def opcode_Reads_r11 : List AI := [
  ⟨(some 22), none, .bin .eql (.t 10) (.c (.int .i64 13))⟩,
  ⟨(some 20), none, .mov (.t 22)⟩]
@[go_sem] def opcode_Reads_r12 : List AI := [
  ⟨(some 23), none, .faddr 2 (.t 1)⟩,
  ⟨(some 24), none, .load 1 false (.t 23)⟩,
  ⟨(some 25), none, .faddr 3 (.t 1)⟩,
  ⟨(some 26), none, .load 1 false (.t 25)⟩,
  ⟨(some 27), none, .mkrow 520027 1 [(.t 24), (.t 26)]⟩,
  ⟨(some 28), none, .call 73 [(.t 27)]⟩,
  ⟨(some 2), none, .mov (.t 28)⟩,
  ⟨(some 3), none, .mov (.c (.int .i64 (-1)))⟩]
@[go_sem] def opcode_Reads_r13 : List AI := [
  ⟨(some 30), none, .bin .eql (.t 10) (.c (.int .i64 10))⟩,
  ⟨(some 29), none, .mov (.t 30)⟩]
@[go_sem] def opcode_Reads_r14 : List AI := [
  ⟨(some 31), none, .faddr 1 (.t 1)⟩,
  ⟨(some 32), none, .load 1 false (.t 31)⟩,
  ⟨(some 33), none, .faddr 2 (.t 1)⟩,
  ⟨(some 34), none, .load 1 false (.t 33)⟩,
  ⟨(some 35), none, .faddr 3 (.t 1)⟩,
  ⟨(some 36), none, .load 1 false (.t 35)⟩,
  ⟨(some 37), none, .mkrow 520037 1 [(.t 32), (.t 34), (.t 36)]⟩,
  ⟨(some 38), none, .call 73 [(.t 37)]⟩,
  ⟨(some 2), none, .mov (.t 38)⟩,
  ⟨(some 3), none, .mov (.c (.int .i64 (-1)))⟩]
@[go_sem] def opcode_Reads_r15 : List AI := [
  ⟨(some 40), none, .bin .eql (.t 10) (.c (.int .i64 15))⟩,
  ⟨(some 39), none, .mov (.t 40)⟩]
@[go_sem] def opcode_Reads_r16 : List AI := [
  ⟨(some 41), none, .bin .eql (.t 10) (.c (.int .i64 28))⟩,
  ⟨(some 39), none, .mov (.t 41)⟩]
@[go_sem] def opcode_Reads_r17 : List AI := [
  ⟨(some 42), none, .faddr 1 (.t 1)⟩,
  ⟨(some 43), none, .load 1 false (.t 42)⟩,
  ⟨(some 44), none, .mkrow 520044 1 [(.t 43)]⟩,
  ⟨(some 2), none, .mov (.t 44)⟩,
  ⟨(some 3), none, .mov (.c (.int .i64 (-1)))⟩]
@[go_sem] def opcode_Reads_r18 : List AI := [
  ⟨(some 46), none, .bin .eql (.t 10) (.c (.int .i64 16))⟩,
  ⟨(some 45), none, .mov (.t 46)⟩]
@[go_sem] def opcode_Reads_r19 : List AI := [
  ⟨(some 47), none, .bin .eql (.t 10) (.c (.int .i64 17))⟩,
  ⟨(some 45), none, .mov (.t 47)⟩]
@[go_sem] def opcode_Reads_r20 : List AI := [
  ⟨(some 48), none, .bin .eql (.t 10) (.c (.int .i64 21))⟩,
  ⟨(some 45), none, .mov (.t 48)⟩]
@[go_sem] def opcode_Reads_r21 : List AI := [
  ⟨(some 50), none, .faddr 1 (.t 1)⟩,
  ⟨(some 51), none, .load 1 false (.t 50)⟩,
  ⟨(some 52), none, .bin .add (.t 51) (.c (.int .i64 1))⟩,
  ⟨(some 53), none, .faddr 2 (.t 1)⟩,
  ⟨(some 54), none, .load 1 false (.t 53)⟩,
  ⟨(some 55), none, .call 74 [(.t 52), (.t 54)]⟩,
  ⟨(some 49), none, .mov (.t 55)⟩,
  ⟨(some 56), none, .ext 0 (.t 49)⟩,
  ⟨(some 57), none, .ext 1 (.t 49)⟩,
  ⟨(some 4), none, .mov (.t 56)⟩,
  ⟨(some 5), none, .mov (.t 57)⟩]
@[go_sem] def opcode_Reads_r22 : List AI := [
  ⟨(some 58), none, .faddr 1 (.t 1)⟩,
  ⟨(some 59), none, .load 1 false (.t 58)⟩,
  ⟨(some 60), none, .mkrow 520060 1 [(.t 59)]⟩,
  ⟨(some 61), none, .mov (.t 4)⟩,
  ⟨(some 62), none, .app 520062 1 (.t 60) (.t 61)⟩,
  ⟨(some 63), none, .mov (.t 5)⟩,
  ⟨(some 2), none, .mov (.t 62)⟩,
  ⟨(some 3), none, .mov (.t 63)⟩]
@[go_sem] def opcode_Reads_r23 : List AI := [
  ⟨(some 65), none, .bin .eql (.t 10) (.c (.int .i64 18))⟩,
  ⟨(some 64), none, .mov (.t 65)⟩]
@[go_sem] def opcode_Reads_r24 : List AI := [
  ⟨(some 66), none, .faddr 1 (.t 1)⟩,
  ⟨(some 67), none, .load 1 false (.t 66)⟩,
  ⟨(some 68), none, .faddr 2 (.t 1)⟩,
  ⟨(some 69), none, .load 1 false (.t 68)⟩,
  ⟨(some 70), none, .call 74 [(.t 67), (.t 69)]⟩,
  ⟨(some 71), none, .ext 0 (.t 70)⟩,
  ⟨(some 72), none, .ext 1 (.t 70)⟩,
  ⟨(some 2), none, .mov (.t 71)⟩,
  ⟨(some 3), none, .mov (.t 72)⟩]
@[go_sem] def opcode_Reads_r25 : List AI := [
  ⟨(some 74), none, .bin .eql (.t 10) (.c (.int .i64 23))⟩,
  ⟨(some 73), none, .mov (.t 74)⟩]
@[go_sem] def opcode_Reads_r26 : List AI := [
  ⟨(some 75), none, .bin .eql (.t 10) (.c (.int .i64 24))⟩,
  ⟨(some 73), none, .mov (.t 75)⟩]
@[go_sem] def opcode_Reads_r27 : List AI := [
  ⟨(some 76), none, .bin .eql (.t 10) (.c (.int .i64 25))⟩,
  ⟨(some 73), none, .mov (.t 76)⟩]
@[go_sem] def opcode_Reads_r28 : List AI := [
  ⟨(some 77), none, .faddr 1 (.t 1)⟩,
  ⟨(some 78), none, .load 1 false (.t 77)⟩,
  ⟨(some 79), none, .call 74 [(.t 78), (.c (.int .i64 3))]⟩,
  ⟨(some 80), none, .ext 0 (.t 79)⟩,
  ⟨(some 81), none, .ext 1 (.t 79)⟩,
  ⟨(some 2), none, .mov (.t 80)⟩,
  ⟨(some 3), none, .mov (.t 81)⟩]
@[go_sem] def opcode_Reads_r29 : List AI := [
  ⟨(some 83), none, .bin .eql (.t 10) (.c (.int .i64 26))⟩,
  ⟨(some 82), none, .mov (.t 83)⟩]
@[go_sem] def opcode_Reads_r30 : List AI := [
  ⟨(some 84), none, .faddr 1 (.t 1)⟩,
  ⟨(some 85), none, .load 1 false (.t 84)⟩,
  ⟨(some 86), none, .bin .add (.t 85) (.c (.int .i64 3))⟩,
  ⟨(some 87), none, .mkrow 520087 1 [(.t 86)]⟩,
  ⟨(some 2), none, .mov (.t 87)⟩,
  ⟨(some 3), none, .mov (.c (.int .i64 (-1)))⟩]
@[go_sem] def opcode_Reads_r31 : List AI := [
  ⟨(some 2), none, .mov (.c .nils)⟩,
  ⟨(some 3), none, .mov (.c (.int .i64 (-1)))⟩]
@[go_sem] def opcode_Reads_c : AC := .seq (.ops [opcode_Reads_r0]) (.seq (.seq (.ops [opcode_Reads_r1]) (.cond (.t 8) (.seq (.ops [opcode_Reads_r2]) (.ret)) (.skip))) (.seq (.seq (.ops [opcode_Reads_r3]) (.block 0 (.seq (.seq (.ops [opcode_Reads_r4]) (.cond (.t 11) (.skip) (.seq (.ops [opcode_Reads_r5]) (.cond (.t 11) (.skip) (.seq (.ops [opcode_Reads_r6]) (.cond (.t 11) (.skip) (.seq (.ops [opcode_Reads_r7]) (.cond (.t 11) (.skip) (.ops [opcode_Reads_r8]))))))))) (.cond (.t 11) (.seq (.ops [opcode_Reads_r9]) (.ret)) (.seq (.seq (.ops [opcode_Reads_r10]) (.cond (.t 20) (.skip) (.ops [opcode_Reads_r11]))) (.cond (.t 20) (.seq (.ops [opcode_Reads_r12]) (.ret)) (.seq (.ops [opcode_Reads_r13]) (.cond (.t 29) (.seq (.ops [opcode_Reads_r14]) (.ret)) (.seq (.seq (.ops [opcode_Reads_r15]) (.cond (.t 39) (.skip) (.ops [opcode_Reads_r16]))) (.cond (.t 39) (.seq (.ops [opcode_Reads_r17]) (.ret)) (.seq (.seq (.ops [opcode_Reads_r18]) (.cond (.t 45) (.skip) (.seq (.ops [opcode_Reads_r19]) (.cond (.t 45) (.skip) (.ops [opcode_Reads_r20]))))) (.cond (.t 45) (.seq (.ops [opcode_Reads_r21]) (.seq (.ops [opcode_Reads_r22]) (.ret))) (.seq (.ops [opcode_Reads_r23]) (.cond (.t 64) (.seq (.ops [opcode_Reads_r24]) (.ret)) (.seq (.seq (.ops [opcode_Reads_r25]) (.cond (.t 73) (.skip) (.seq (.ops [opcode_Reads_r26]) (.cond (.t 73) (.skip) (.ops [opcode_Reads_r27]))))) (.cond (.t 73) (.seq (.ops [opcode_Reads_r28]) (.ret)) (.seq (.ops [opcode_Reads_r29]) (.cond (.t 82) (.seq (.ops [opcode_Reads_r30]) (.ret)) (.skip))))))))))))))))))) (.seq (.ops [opcode_Reads_r31]) (.ret))))
theorem opcode_Reads_ok : compF Tryd.prog 52 = some (88, opcode_Reads_c, [.t 2, .t 3]) := by kernel_rfl

@[go_sem] def opcode_Writes_r0 : List AI := [
  ⟨(some 1), none, .box 530001 5 (.t 0)⟩,
  ⟨(some 2), none, .mov (.c .nils)⟩,
  ⟨(some 3), none, .mov (.c (.int .i64 0))⟩]
@[go_sem] def opcode_Writes_r1 : List AI := [
  ⟨(some 4), none, .load 5 true (.t 1)⟩,
  ⟨(some 5), none, .call 51 [(.t 4)]⟩,
  ⟨(some 6), none, .bin .neq (.t 5) (.c (.int .i64 0))⟩]
@[go_sem] def opcode_Writes_r2 : List AI := [
  ⟨(some 2), none, .mov (.c .nils)⟩,
  ⟨(some 3), none, .mov (.c (.int .i64 (-1)))⟩]
@[go_sem] def opcode_Writes_r3 : List AI := [
  ⟨(some 7), none, .faddr 0 (.t 1)⟩,
  ⟨(some 8), none, .load 1 false (.t 7)⟩]
@[go_sem] def opcode_Writes_r4 : List AI := [
  ⟨(some 10), none, .bin .eql (.t 8) (.c (.int .i64 1))⟩,
  ⟨(some 9), none, .mov (.t 10)⟩]
@[go_sem] def opcode_Writes_r5 : List AI := [
  ⟨(some 11), none, .bin .eql (.t 8) (.c (.int .i64 2))⟩,
  ⟨(some 9), none, .mov (.t 11)⟩]
@[go_sem] def opcode_Writes_r6 : List AI := [
  ⟨(some 12), none, .bin .eql (.t 8) (.c (.int .i64 4))⟩,
  ⟨(some 9), none, .mov (.t 12)⟩]
@[go_sem] def opcode_Writes_r7 : List AI := [
  ⟨(some 13), none, .bin .eql (.t 8) (.c (.int .i64 5))⟩,
  ⟨(some 9), none, .mov (.t 13)⟩]
@[go_sem] def opcode_Writes_r8 : List AI := [
  ⟨(some 14), none, .bin .eql (.t 8) (.c (.int .i64 7))⟩,
  ⟨(some 9), none, .mov (.t 14)⟩]
@[go_sem] def opcode_Writes_r9 : List AI := [
  ⟨(some 15), none, .bin .eql (.t 8) (.c (.int .i64 9))⟩,
  ⟨(some 9), none, .mov (.t 15)⟩]
@[go_sem] def opcode_Writes_r10 : List AI := [
  ⟨(some 16), none, .bin .eql (.t 8) (.c (.int .i64 12))⟩,
  ⟨(some 9), none, .mov (.t 16)⟩]
@[go_sem] def opcode_Writes_r11 : List AI := [
  ⟨(some 17), none, .bin .eql (.t 8) (.c (.int .i64 13))⟩,
  ⟨(some 9), none, .mov (.t 17)⟩]
@[go_sem] def opcode_Writes_r12 : List AI := [
  ⟨(some 18), none, .bin .eql (.t 8) (.c (.int .i64 20))⟩,
  ⟨(some 9), none, .mov (.t 18)⟩]
@[go_sem] def opcode_Writes_r13 : List AI := [
  ⟨(some 19), none, .bin .eql (.t 8) (.c (.int .i64 22))⟩,
  ⟨(some 9), none, .mov (.t 19)⟩]
@[go_sem] def opcode_Writes_r14 : List AI := [
  ⟨(some 20), none, .faddr 1 (.t 1)⟩,
  ⟨(some 21), none, .load 1 false (.t 20)⟩,
  ⟨(some 22), none, .mkrow 530022 1 [(.t 21)]⟩,
  ⟨(some 2), none, .mov (.t 22)⟩,
  ⟨(some 3), none, .mov (.c (.int .i64 (-1)))⟩]
@[go_sem] def opcode_Writes_r15 : List AI := [
  ⟨(some 24), none, .bin .eql (.t 8) (.c (.int .i64 3))⟩,
  ⟨(some 23), none, .mov (.t 24)⟩]
@[go_sem] def opcode_Writes_r16 : List AI := [
  ⟨(some 25), none, .faddr 1 (.t 1)⟩,
  ⟨(some 26), none, .load 1 false (.t 25)⟩,
  ⟨(some 27), none, .faddr 2 (.t 1)⟩,
  ⟨(some 28), none, .load 1 false (.t 27)⟩,
  ⟨(some 29), none, .faddr 1 (.t 1)⟩,
  ⟨(some 30), none, .load 1 false (.t 29)⟩,
  ⟨(some 31), none, .bin .sub (.t 28) (.t 30)⟩,
  ⟨(some 32), none, .bin .add (.t 31) (.c (.int .i64 1))⟩,
  ⟨(some 33), none, .call 74 [(.t 26), (.t 32)]⟩,
  ⟨(some 34), none, .ext 0 (.t 33)⟩,
  ⟨(some 35), none, .ext 1 (.t 33)⟩,
  ⟨(some 2), none, .mov (.t 34)⟩,
  ⟨(some 3), none, .mov (.t 35)⟩]
@[go_sem] def opcode_Writes_r17 : List AI := [
  ⟨(some 37), none, .bin .eql (.t 8) (.c (.int .i64 11))⟩,
  ⟨(some 36), none, .mov (.t 37)⟩]
@[go_sem] def opcode_Writes_r18 : List AI := [
  ⟨(some 38), none, .faddr 1 (.t 1)⟩,
  ⟨(some 39), none, .load 1 false (.t 38)⟩,
  ⟨(some 40), none, .faddr 1 (.t 1)⟩,
  ⟨(some 41), none, .load 1 false (.t 40)⟩,
  ⟨(some 42), none, .bin .add (.t 41) (.c (.int .i64 1))⟩,
  ⟨(some 43), none, .mkrow 530043 1 [(.t 39), (.t 42)]⟩,
  ⟨(some 2), none, .mov (.t 43)⟩,
  ⟨(some 3), none, .mov (.c (.int .i64 (-1)))⟩]
@[go_sem] def opcode_Writes_r19 : List AI := [
  ⟨(some 45), none, .bin .eql (.t 8) (.c (.int .i64 16))⟩,
  ⟨(some 44), none, .mov (.t 45)⟩]
@[go_sem] def opcode_Writes_r20 : List AI := [
  ⟨(some 46), none, .faddr 1 (.t 1)⟩,
  ⟨(some 47), none, .load 1 false (.t 46)⟩,
  ⟨(some 48), none, .faddr 3 (.t 1)⟩,
  ⟨(some 49), none, .load 1 false (.t 48)⟩,
  ⟨(some 50), none, .call 74 [(.t 47), (.t 49)]⟩,
  ⟨(some 51), none, .ext 0 (.t 50)⟩,
  ⟨(some 52), none, .ext 1 (.t 50)⟩,
  ⟨(some 2), none, .mov (.t 51)⟩,
  ⟨(some 3), none, .mov (.t 52)⟩]
@[go_sem] def opcode_Writes_r21 : List AI := [
  ⟨(some 54), none, .bin .eql (.t 8) (.c (.int .i64 19))⟩,
  ⟨(some 53), none, .mov (.t 54)⟩]
@[go_sem] def opcode_Writes_r22 : List AI := [
  ⟨(some 55), none, .faddr 1 (.t 1)⟩,
  ⟨(some 56), none, .load 1 false (.t 55)⟩,
  ⟨(some 57), none, .faddr 2 (.t 1)⟩,
  ⟨(some 58), none, .load 1 false (.t 57)⟩,
  ⟨(some 59), none, .call 74 [(.t 56), (.t 58)]⟩,
  ⟨(some 60), none, .ext 0 (.t 59)⟩,
  ⟨(some 61), none, .ext 1 (.t 59)⟩,
  ⟨(some 2), none, .mov (.t 60)⟩,
  ⟨(some 3), none, .mov (.t 61)⟩]
@[go_sem] def opcode_Writes_r23 : List AI := [
  ⟨(some 63), none, .bin .eql (.t 8) (.c (.int .i64 23))⟩,
  ⟨(some 62), none, .mov (.t 63)⟩]
@[go_sem] def opcode_Writes_r24 : List AI := [
  ⟨(some 64), none, .faddr 1 (.t 1)⟩,
  ⟨(some 65), none, .load 1 false (.t 64)⟩,
  ⟨(some 66), none, .bin .add (.t 65) (.c (.int .i64 3))⟩,
  ⟨(some 67), none, .mkrow 530067 1 [(.t 66)]⟩,
  ⟨(some 2), none, .mov (.t 67)⟩,
  ⟨(some 3), none, .mov (.c (.int .i64 (-1)))⟩]
@[go_sem] def opcode_Writes_r25 : List AI := [
  ⟨(some 69), none, .bin .eql (.t 8) (.c (.int .i64 24))⟩,
  ⟨(some 68), none, .mov (.t 69)⟩]
@[go_sem] def opcode_Writes_r26 : List AI := [
  ⟨(some 70), none, .faddr 1 (.t 1)⟩,
  ⟨(some 71), none, .load 1 false (.t 70)⟩,
  ⟨(some 72), none, .faddr 1 (.t 1)⟩,
  ⟨(some 73), none, .load 1 false (.t 72)⟩,
  ⟨(some 74), none, .bin .add (.t 73) (.c (.int .i64 3))⟩,
  ⟨(some 75), none, .mkrow 530075 1 [(.t 71), (.t 74)]⟩,
  ⟨(some 2), none, .mov (.t 75)⟩,
  ⟨(some 3), none, .mov (.c (.int .i64 (-1)))⟩]
@[go_sem] def opcode_Writes_r27 : List AI := [
  ⟨(some 77), none, .bin .eql (.t 8) (.c (.int .i64 25))⟩,
  ⟨(some 76), none, .mov (.t 77)⟩]
@[go_sem] def opcode_Writes_r28 : List AI := [
  ⟨(some 78), none, .faddr 1 (.t 1)⟩,
  ⟨(some 79), none, .load 1 false (.t 78)⟩,
  ⟨(some 80), none, .bin .add (.t 79) (.c (.int .i64 3))⟩,
  ⟨(some 81), none, .faddr 3 (.t 1)⟩,
  ⟨(some 82), none, .load 1 false (.t 81)⟩,
  ⟨(some 83), none, .call 74 [(.t 80), (.t 82)]⟩,
  ⟨(some 84), none, .ext 0 (.t 83)⟩,
  ⟨(some 85), none, .ext 1 (.t 83)⟩,
  ⟨(some 2), none, .mov (.t 84)⟩,
  ⟨(some 3), none, .mov (.t 85)⟩]
@[go_sem] def opcode_Writes_r29 : List AI := [
  ⟨(some 87), none, .bin .eql (.t 8) (.c (.int .i64 26))⟩,
  ⟨(some 86), none, .mov (.t 87)⟩]
@[go_sem] def opcode_Writes_r30 : List AI := [
  ⟨(some 88), none, .faddr 1 (.t 1)⟩,
  ⟨(some 89), none, .load 1 false (.t 88)⟩,
  ⟨(some 90), none, .bin .add (.t 89) (.c (.int .i64 2))⟩,
  ⟨(some 91), none, .mkrow 530091 1 [(.t 90)]⟩,
  ⟨(some 2), none, .mov (.t 91)⟩,
  ⟨(some 3), none, .mov (.c (.int .i64 (-1)))⟩]
@[go_sem] def opcode_Writes_r31 : List AI := [
  ⟨(some 2), none, .mov (.c .nils)⟩,
  ⟨(some 3), none, .mov (.c (.int .i64 (-1)))⟩]
@[go_sem] def opcode_Writes_c : AC := .seq (.ops [opcode_Writes_r0]) (.seq (.seq (.ops [opcode_Writes_r1]) (.cond (.t 6) (.seq (.ops [opcode_Writes_r2]) (.ret)) (.skip))) (.seq (.seq (.ops [opcode_Writes_r3]) (.block 0 (.seq (.seq (.ops [opcode_Writes_r4]) (.cond (.t 9) (.skip) (.seq (.ops [opcode_Writes_r5]) (.cond (.t 9) (.skip) (.seq (.ops [opcode_Writes_r6]) (.cond (.t 9) (.skip) (.seq (.ops [opcode_Writes_r7]) (.cond (.t 9) (.skip) (.seq (.ops [opcode_Writes_r8]) (.cond (.t 9) (.skip) (.seq (.ops [opcode_Writes_r9]) (.cond (.t 9) (.skip) (.seq (.ops [opcode_Writes_r10]) (.cond (.t 9) (.skip) (.seq (.ops [opcode_Writes_r11]) (.cond (.t 9) (.skip) (.seq (.ops [opcode_Writes_r12]) (.cond (.t 9) (.skip) (.ops [opcode_Writes_r13]))))))))))))))))))) (.cond (.t 9) (.seq (.ops [opcode_Writes_r14]) (.ret)) (.seq (.ops [opcode_Writes_r15]) (.cond (.t 23) (.seq (.ops [opcode_Writes_r16]) (.ret)) (.seq (.ops [opcode_Writes_r17]) (.cond (.t 36) (.seq (.ops [opcode_Writes_r18]) (.ret)) (.seq (.ops [opcode_Writes_r19]) (.cond (.t 44) (.seq (.ops [opcode_Writes_r20]) (.ret)) (.seq (.ops [opcode_Writes_r21]) (.cond (.t 53) (.seq (.ops [opcode_Writes_r22]) (.ret)) (.seq (.ops [opcode_Writes_r23]) (.cond (.t 62) (.seq (.ops [opcode_Writes_r24]) (.ret)) (.seq (.ops [opcode_Writes_r25]) (.cond (.t 68) (.seq (.ops [opcode_Writes_r26]) (.ret)) (.seq (.ops [opcode_Writes_r27]) (.cond (.t 76) (.seq (.ops [opcode_Writes_r28]) (.ret)) (.seq (.ops [opcode_Writes_r29]) (.cond (.t 86) (.seq (.ops [opcode_Writes_r30]) (.ret)) (.skip))))))))))))))))))))) (.seq (.ops [opcode_Writes_r31]) (.ret))))
theorem opcode_Writes_ok : compF Tryd.prog 53 = some (92, opcode_Writes_c, [.t 2, .t 3]) := by kernel_rfl

@[go_sem] def proto_within_r0 : List AI := [
  ⟨(some 3), none, .box 540003 11 (.t 0)⟩,
  ⟨(some 6), none, .mov (.c (.bool false))⟩]
@[go_sem] def proto_within_r1 : List AI := [
  ⟨(some 7), none, .mov (.t 2)⟩,
  ⟨(some 8), none, .faddr 4 (.t 3)⟩,
  ⟨(some 9), none, .load 1 false (.t 8)⟩,
  ⟨(some 10), none, .bin .leq (.t 7) (.t 9)⟩,
  ⟨(some 11), none, .mov (.t 10)⟩,
  ⟨(some 12), (some (11, true)), .mov (.t 1)⟩,
  ⟨(some 13), (some (11, true)), .mkfn 75 [(.t 3)]⟩,
  ⟨(some 14), (some (11, true)), .call 47 [(.t 12), (.t 13)]⟩,
  ⟨(some 15), (some (11, true)), .un .not (.t 14)⟩,
  ⟨(some 16), none, .pick (.t 11) (.t 15) (.c (.bool false))⟩,
  ⟨(some 6), none, .mov (.t 16)⟩]
@[go_sem] def proto_within_c : AC := .seq (.ops [proto_within_r0]) (.seq (.ops [proto_within_r1]) (.ret))
theorem proto_within_ok : compF Tryd.prog 54 = some (17, proto_within_c, [.t 6]) := by kernel_rfl

@[go_sem] def proto_refers_r0 : List AI := [
  ⟨(some 2), none, .box 550002 11 (.t 0)⟩,
  ⟨(some 3), none, .box 550003 5 (.t 1)⟩,
  ⟨(some 4), none, .mov (.c (.bool false))⟩]
@[go_sem] def proto_refers_r1 : List AI := [
  ⟨(some 8), none, .load 5 true (.t 3)⟩,
  ⟨(some 9), none, .call 76 [(.t 8)]⟩,
  ⟨(some 7), none, .mov (.t 9)⟩,
  ⟨(some 10), none, .ext 0 (.t 7)⟩,
  ⟨(some 11), none, .ext 1 (.t 7)⟩,
  ⟨(some 5), none, .mov (.t 10)⟩,
  ⟨(some 6), none, .mov (.t 11)⟩]
@[go_sem] def proto_refers_r2 : List AI := [
  ⟨(some 12), none, .mov (.t 5)⟩,
  ⟨(some 13), none, .faddr 7 (.t 2)⟩,
  ⟨(some 14), none, .load 1 false (.t 13)⟩,
  ⟨(some 15), none, .len 0 (.t 14)⟩,
  ⟨(some 16), none, .bin .geq (.t 12) (.t 15)⟩,
  ⟨(some 17), none, .mov (.t 16)⟩,
  ⟨(some 18), (some (17, false)), .mov (.t 5)⟩,
  ⟨(some 19), (some (17, false)), .bin .geq (.t 18) (.c (.int .i64 0))⟩,
  ⟨(some 20), (some (17, false)), .mov (.t 19)⟩,
  ⟨(some 21), (some (20, true)), .mov (.t 6)⟩,
  ⟨(some 22), (some (17, false)), .pick (.t 20) (.t 21) (.c (.bool false))⟩,
  ⟨(some 23), (some (17, false)), .mov (.t 22)⟩,
  ⟨(some 24), (some (23, true)), .faddr 7 (.t 2)⟩,
  ⟨(some 25), (some (23, true)), .load 1 false (.t 24)⟩,
  ⟨(some 26), (some (23, true)), .mov (.t 5)⟩,
  ⟨(some 27), (some (23, true)), .iaddr 5 (.t 25) (.t 26)⟩,
  ⟨(some 28), (some (23, true)), .faddr 0 (.t 27)⟩,
  ⟨(some 29), (some (23, true)), .load 1 false (.t 28)⟩,
  ⟨(some 30), (some (23, true)), .bin .neq (.t 29) (.c (.int .i64 3))⟩,
  ⟨(some 31), (some (17, false)), .pick (.t 23) (.t 30) (.c (.bool false))⟩,
  ⟨(some 32), none, .pick (.t 17) (.c (.bool true)) (.t 31)⟩]
@[go_sem] def proto_refers_r3 : List AI := [
  ⟨(some 4), none, .mov (.c (.bool false))⟩]
@[go_sem] def proto_refers_r4 : List AI := [
  ⟨(some 33), none, .faddr 0 (.t 3)⟩,
  ⟨(some 34), none, .load 1 false (.t 33)⟩]
@[go_sem] def proto_refers_r5 : List AI := [
  ⟨(some 36), none, .bin .eql (.t 34) (.c (.int .i64 5))⟩,
  ⟨(some 35), none, .mov (.t 36)⟩]
@[go_sem] def proto_refers_r6 : List AI := [
  ⟨(some 37), none, .faddr 2 (.t 3)⟩,
  ⟨(some 38), none, .load 1 false (.t 37)⟩,
  ⟨(some 39), none, .faddr 9 (.t 2)⟩,
  ⟨(some 40), none, .load 1 false (.t 39)⟩,
  ⟨(some 41), none, .len 0 (.t 40)⟩,
  ⟨(some 42), none, .bin .lss (.t 38) (.t 41)⟩,
  ⟨(some 4), none, .mov (.t 42)⟩]
@[go_sem] def proto_refers_r7 : List AI := [
  ⟨(some 44), none, .bin .eql (.t 34) (.c (.int .i64 6))⟩,
  ⟨(some 43), none, .mov (.t 44)⟩]
@[go_sem] def proto_refers_r8 : List AI := [
  ⟨(some 45), none, .faddr 1 (.t 3)⟩,
  ⟨(some 46), none, .load 1 false (.t 45)⟩,
  ⟨(some 47), none, .faddr 9 (.t 2)⟩,
  ⟨(some 48), none, .load 1 false (.t 47)⟩,
  ⟨(some 49), none, .len 0 (.t 48)⟩,
  ⟨(some 50), none, .bin .lss (.t 46) (.t 49)⟩,
  ⟨(some 4), none, .mov (.t 50)⟩]
@[go_sem] def proto_refers_r9 : List AI := [
  ⟨(some 52), none, .bin .eql (.t 34) (.c (.int .i64 22))⟩,
  ⟨(some 51), none, .mov (.t 52)⟩]
@[go_sem] def proto_refers_r10 : List AI := [
  ⟨(some 53), none, .faddr 2 (.t 3)⟩,
  ⟨(some 54), none, .load 1 false (.t 53)⟩,
  ⟨(some 55), none, .faddr 8 (.t 2)⟩,
  ⟨(some 56), none, .load 1 false (.t 55)⟩,
  ⟨(some 57), none, .len 0 (.t 56)⟩,
  ⟨(some 58), none, .bin .lss (.t 54) (.t 57)⟩,
  ⟨(some 4), none, .mov (.t 58)⟩]
@[go_sem] def proto_refers_r11 : List AI := [
  ⟨(some 60), none, .bin .eql (.t 34) (.c (.int .i64 19))⟩,
  ⟨(some 59), none, .mov (.t 60)⟩]
@[go_sem] def proto_refers_r12 : List AI := [
  ⟨(some 61), none, .faddr 3 (.t 2)⟩,
  ⟨(some 62), none, .load 1 false (.t 61)⟩,
  ⟨(some 4), none, .mov (.t 62)⟩]
@[go_sem] def proto_refers_r13 : List AI := [
  ⟨(some 4), none, .mov (.c (.bool true))⟩]
@[go_sem] def proto_refers_c : AC := .seq (.ops [proto_refers_r0]) (.seq (.seq (.ops [proto_refers_r1]) (.seq (.ops [proto_refers_r2]) (.cond (.t 32) (.seq (.ops [proto_refers_r3]) (.ret)) (.skip)))) (.seq (.seq (.ops [proto_refers_r4]) (.block 0 (.seq (.ops [proto_refers_r5]) (.cond (.t 35) (.seq (.ops [proto_refers_r6]) (.ret)) (.seq (.ops [proto_refers_r7]) (.cond (.t 43) (.seq (.ops [proto_refers_r8]) (.ret)) (.seq (.ops [proto_refers_r9]) (.cond (.t 51) (.seq (.ops [proto_refers_r10]) (.ret)) (.seq (.ops [proto_refers_r11]) (.cond (.t 59) (.seq (.ops [proto_refers_r12]) (.ret)) (.skip))))))))))) (.seq (.ops [proto_refers_r13]) (.ret))))
theorem proto_refers_ok : compF Tryd.prog 55 = some (63, proto_refers_c, [.t 4]) := by kernel_rfl

@[go_sem] def slices_Clone_bool_bool_r0 : List AI := [
  ⟨(some 2), none, .mov (.c .nils)⟩]
@[go_sem] def slices_Clone_bool_bool_r1 : List AI := [
  ⟨(some 3), none, .mov (.t 0)⟩,
  ⟨(some 4), none, .eqn false false (.t 3)⟩]
@[go_sem] def slices_Clone_bool_bool_r2 : List AI := [
  ⟨(some 2), none, .mov (.c .nils)⟩]
@[go_sem] def slices_Clone_bool_bool_r3 : List AI := [
  ⟨(some 5), none, .mkrow 560005 1 []⟩,
  ⟨(some 6), none, .mov (.t 0)⟩,
  ⟨(some 7), none, .app 560007 1 (.t 5) (.t 6)⟩,
  ⟨(some 2), none, .mov (.t 7)⟩]
@[go_sem] def slices_Clone_bool_bool_c : AC := .seq (.ops [slices_Clone_bool_bool_r0]) (.seq (.seq (.ops [slices_Clone_bool_bool_r1]) (.cond (.t 4) (.seq (.ops [slices_Clone_bool_bool_r2]) (.ret)) (.skip))) (.seq (.ops [slices_Clone_bool_bool_r3]) (.ret)))
theorem slices_Clone_bool_bool_ok : compF Tryd.prog 56 = some (8, slices_Clone_bool_bool_c, [.t 2]) := by kernel_rfl

@[go_sem] def verify_unset_r0 : List AI := [
  ⟨(some 5), none, .mov (.t 1)⟩,
  ⟨(some 4), none, .mov (.t 5)⟩]
@[go_sem] def verify_unset_r1 : List AI := [
  ⟨(some 6), none, .mov (.t 4)⟩,
  ⟨(some 7), none, .mov (.t 0)⟩,
  ⟨(some 8), none, .len 0 (.t 7)⟩,
  ⟨(some 9), none, .bin .lss (.t 6) (.t 8)⟩]
@[go_sem] def verify_unset_r2 : List AI := [
  ⟨(some 12), none, .mov (.t 0)⟩,
  ⟨(some 13), none, .mov (.t 4)⟩,
  ⟨(some 14), none, .iaddr 1 (.t 12) (.t 13)⟩,
  ⟨none, none, .store 1 (.t 14) (.c (.bool false))⟩]
@[go_sem] def verify_unset_r3 : List AI := [
  ⟨(some 10), none, .mov (.t 4)⟩,
  ⟨(some 11), none, .bin .add (.t 10) (.c (.int .i64 1))⟩,
  ⟨(some 4), none, .mov (.t 11)⟩]
def verify_unset_l0 : AC := .seq (.seq (.ops [verify_unset_r1]) (.cond (.t 9) (.skip) (.exit 0))) (.seq (.block 1 (.ops [verify_unset_r2])) (.ops [verify_unset_r3]))
theorem verify_unset_l0_eq : verify_unset_l0 = .seq (.seq (.ops [verify_unset_r1]) (.cond (.t 9) (.skip) (.exit 0))) (.seq (.block 1 (.ops [verify_unset_r2])) (.ops [verify_unset_r3])) := rfl
@[go_sem] def verify_unset_c : AC := .seq (.ops [verify_unset_r0]) (.block 0 (.loop verify_unset_l0))
theorem verify_unset_ok : compF Tryd.prog 57 = some (15, verify_unset_c, []) := by kernel_rfl

@[go_sem] def slices_DeleteFunc_int_int_r0 : List AI := [
  ⟨(some 4), none, .mov (.c .nils)⟩]
@[go_sem] def slices_DeleteFunc_int_int_r1 : List AI := [
  ⟨(some 8), none, .mov (.t 0)⟩,
  ⟨(some 9), none, .mov (.t 1)⟩,
  ⟨(some 10), none, .call 67 [(.t 8), (.t 9)]⟩,
  ⟨(some 5), none, .mov (.t 10)⟩]
@[go_sem] def slices_DeleteFunc_int_int_r2 : List AI := [
  ⟨(some 11), none, .mov (.t 5)⟩,
  ⟨(some 12), none, .bin .eql (.t 11) (.c (.int .i64 (-1)))⟩]
@[go_sem] def slices_DeleteFunc_int_int_r3 : List AI := [
  ⟨(some 13), none, .mov (.t 0)⟩,
  ⟨(some 4), none, .mov (.t 13)⟩]
@[go_sem] def slices_DeleteFunc_int_int_r4 : List AI := [
  ⟨(some 14), none, .mov (.t 5)⟩,
  ⟨(some 15), none, .bin .add (.t 14) (.c (.int .i64 1))⟩,
  ⟨(some 6), none, .mov (.t 15)⟩]
@[go_sem] def slices_DeleteFunc_int_int_r5 : List AI := [
  ⟨(some 16), none, .mov (.t 6)⟩,
  ⟨(some 17), none, .mov (.t 0)⟩,
  ⟨(some 18), none, .len 0 (.t 17)⟩,
  ⟨(some 19), none, .bin .lss (.t 16) (.t 18)⟩]
@[go_sem] def slices_DeleteFunc_int_int_r6 : List AI := [
  ⟨(some 22), none, .mov (.t 0)⟩,
  ⟨(some 23), none, .mov (.t 6)⟩,
  ⟨(some 24), none, .iaddr 1 (.t 22) (.t 23)⟩,
  ⟨(some 25), none, .load 1 false (.t 24)⟩,
  ⟨(some 7), none, .mov (.t 25)⟩]
@[go_sem] def slices_DeleteFunc_int_int_r7 : List AI := [
  ⟨(some 26), none, .mov (.t 1)⟩,
  ⟨(some 27), none, .mov (.t 7)⟩,
  ⟨(some 28), none, .callv (.t 26) [(.t 27)]⟩,
  ⟨(some 29), none, .un .not (.t 28)⟩]
@[go_sem] def slices_DeleteFunc_int_int_r8 : List AI := [
  ⟨(some 30), none, .mov (.t 0)⟩,
  ⟨(some 31), none, .mov (.t 5)⟩,
  ⟨(some 32), none, .mov (.t 7)⟩,
  ⟨(some 33), none, .iaddr 1 (.t 30) (.t 31)⟩,
  ⟨none, none, .store 1 (.t 33) (.t 32)⟩]
@[go_sem] def slices_DeleteFunc_int_int_r9 : List AI := [
  ⟨(some 34), none, .mov (.t 5)⟩,
  ⟨(some 35), none, .bin .add (.t 34) (.c (.int .i64 1))⟩,
  ⟨(some 5), none, .mov (.t 35)⟩]
@[go_sem] def slices_DeleteFunc_int_int_r10 : List AI := [
  ⟨(some 20), none, .mov (.t 6)⟩,
  ⟨(some 21), none, .bin .add (.t 20) (.c (.int .i64 1))⟩,
  ⟨(some 6), none, .mov (.t 21)⟩]
def slices_DeleteFunc_int_int_l0 : AC := .seq (.seq (.ops [slices_DeleteFunc_int_int_r5]) (.cond (.t 19) (.skip) (.exit 0))) (.seq (.block 1 (.seq (.ops [slices_DeleteFunc_int_int_r6]) (.seq (.ops [slices_DeleteFunc_int_int_r7]) (.cond (.t 29) (.seq (.ops [slices_DeleteFunc_int_int_r8]) (.ops [slices_DeleteFunc_int_int_r9])) (.skip))))) (.ops [slices_DeleteFunc_int_int_r10]))
theorem slices_DeleteFunc_int_int_l0_eq : slices_DeleteFunc_int_int_l0 = .seq (.seq (.ops [slices_DeleteFunc_int_int_r5]) (.cond (.t 19) (.skip) (.exit 0))) (.seq (.block 1 (.seq (.ops [slices_DeleteFunc_int_int_r6]) (.seq (.ops [slices_DeleteFunc_int_int_r7]) (.cond (.t 29) (.seq (.ops [slices_DeleteFunc_int_int_r8]) (.ops [slices_DeleteFunc_int_int_r9])) (.skip))))) (.ops [slices_DeleteFunc_int_int_r10])) := rfl
@[go_sem] def slices_DeleteFunc_int_int_r11 : List AI := [
  ⟨(some 36), none, .mov (.t 0)⟩,
  ⟨(some 37), none, .mov (.t 5)⟩,
  ⟨(some 38), none, .slc 1 (.t 36) (some (.t 37)) none⟩,
  ⟨none, none, .clr [(.int .i64 0)] (.t 38)⟩]
@[go_sem] def slices_DeleteFunc_int_int_r12 : List AI := [
  ⟨(some 39), none, .mov (.t 0)⟩,
  ⟨(some 40), none, .mov (.t 5)⟩,
  ⟨(some 41), none, .slc 1 (.t 39) none (some (.t 40))⟩,
  ⟨(some 4), none, .mov (.t 41)⟩]
@[go_sem] def slices_DeleteFunc_int_int_c : AC := .seq (.ops [slices_DeleteFunc_int_int_r0]) (.seq (.ops [slices_DeleteFunc_int_int_r1]) (.seq (.seq (.ops [slices_DeleteFunc_int_int_r2]) (.cond (.t 12) (.seq (.ops [slices_DeleteFunc_int_int_r3]) (.ret)) (.skip))) (.seq (.seq (.ops [slices_DeleteFunc_int_int_r4]) (.block 0 (.loop slices_DeleteFunc_int_int_l0))) (.seq (.ops [slices_DeleteFunc_int_int_r11]) (.seq (.ops [slices_DeleteFunc_int_int_r12]) (.ret))))))
theorem slices_DeleteFunc_int_int_ok : compF Tryd.prog 58 = some (42, slices_DeleteFunc_int_int_c, [.t 4]) := by kernel_rfl

@[go_sem] def verify_effect_1_r0 : List AI := [
  ⟨(some 3), none, .mov (.c (.bool false))⟩]
@[go_sem] def verify_effect_1_r1 : List AI := [
  ⟨(some 4), none, .mov (.t 0)⟩,
  ⟨(some 5), none, .faddr 1 (.t 1)⟩,
  ⟨(some 6), none, .load 1 false (.t 5)⟩,
  ⟨(some 7), none, .bin .geq (.t 4) (.t 6)⟩,
  ⟨(some 3), none, .mov (.t 7)⟩]
@[go_sem] def verify_effect_1_c : AC := .seq (.ops [verify_effect_1_r0]) (.seq (.ops [verify_effect_1_r1]) (.ret))
theorem verify_effect_1_ok : compF Tryd.prog 59 = some (8, verify_effect_1_c, [.t 3]) := by kernel_rfl

@[go_sem] def slices_pdqsortOrdered_int_r0 : List AI := [
  ⟨(some 8), none, .mov (.c (.bool true))⟩]
@[go_sem] def slices_pdqsortOrdered_int_r1 : List AI := [
  ⟨(some 9), none, .mov (.c (.bool true))⟩]
@[go_sem] def slices_pdqsortOrdered_int_r2 : List AI := [
  ⟨(some 19), none, .mov (.t 2)⟩,
  ⟨(some 20), none, .mov (.t 1)⟩,
  ⟨(some 21), none, .bin .sub (.t 19) (.t 20)⟩,
  ⟨(some 10), none, .mov (.t 21)⟩]
@[go_sem] def slices_pdqsortOrdered_int_r3 : List AI := [
  ⟨(some 22), none, .mov (.t 10)⟩,
  ⟨(some 23), none, .bin .leq (.t 22) (.c (.int .i64 12))⟩]
@[go_sem] def slices_pdqsortOrdered_int_r4 : List AI := [
  ⟨(some 24), none, .mov (.t 0)⟩,
  ⟨(some 25), none, .mov (.t 1)⟩,
  ⟨(some 26), none, .mov (.t 2)⟩,
  ⟨(some 27), none, .call 77 [(.t 24), (.t 25), (.t 26)]⟩]
@[go_sem] def slices_pdqsortOrdered_int_r5 : List AI := [
  ⟨(some 28), none, .mov (.t 3)⟩,
  ⟨(some 29), none, .bin .eql (.t 28) (.c (.int .i64 0))⟩]
@[go_sem] def slices_pdqsortOrdered_int_r6 : List AI := [
  ⟨(some 30), none, .mov (.t 0)⟩,
  ⟨(some 31), none, .mov (.t 1)⟩,
  ⟨(some 32), none, .mov (.t 2)⟩,
  ⟨(some 33), none, .call 78 [(.t 30), (.t 31), (.t 32)]⟩]
@[go_sem] def slices_pdqsortOrdered_int_r7 : List AI := [
  ⟨(some 34), none, .mov (.t 8)⟩,
  ⟨(some 35), none, .un .not (.t 34)⟩]
@[go_sem] def slices_pdqsortOrdered_int_r8 : List AI := [
  ⟨(some 36), none, .mov (.t 0)⟩,
  ⟨(some 37), none, .mov (.t 1)⟩,
  ⟨(some 38), none, .mov (.t 2)⟩,
  ⟨(some 39), none, .call 79 [(.t 36), (.t 37), (.t 38)]⟩]
@[go_sem] def slices_pdqsortOrdered_int_r9 : List AI := [
  ⟨(some 40), none, .mov (.t 3)⟩,
  ⟨(some 41), none, .bin .sub (.t 40) (.c (.int .i64 1))⟩,
  ⟨(some 3), none, .mov (.t 41)⟩]
@[go_sem] def slices_pdqsortOrdered_int_r10 : List AI := [
  ⟨(some 43), none, .mov (.t 0)⟩,
  ⟨(some 44), none, .mov (.t 1)⟩,
  ⟨(some 45), none, .mov (.t 2)⟩,
  ⟨(some 46), none, .call 80 [(.t 43), (.t 44), (.t 45)]⟩,
  ⟨(some 42), none, .mov (.t 46)⟩,
  ⟨(some 47), none, .ext 0 (.t 42)⟩,
  ⟨(some 48), none, .ext 1 (.t 42)⟩,
  ⟨(some 11), none, .mov (.t 47)⟩,
  ⟨(some 12), none, .mov (.t 48)⟩]
@[go_sem] def slices_pdqsortOrdered_int_r11 : List AI := [
  ⟨(some 49), none, .mov (.t 12)⟩,
  ⟨(some 50), none, .bin .eql (.t 49) (.c (.int .i64 2))⟩]
@[go_sem] def slices_pdqsortOrdered_int_r12 : List AI := [
  ⟨(some 51), none, .mov (.t 0)⟩,
  ⟨(some 52), none, .mov (.t 1)⟩,
  ⟨(some 53), none, .mov (.t 2)⟩,
  ⟨(some 54), none, .call 81 [(.t 51), (.t 52), (.t 53)]⟩]
@[go_sem] def slices_pdqsortOrdered_int_r13 : List AI := [
  ⟨(some 55), none, .mov (.t 2)⟩,
  ⟨(some 56), none, .bin .sub (.t 55) (.c (.int .i64 1))⟩,
  ⟨(some 57), none, .mov (.t 11)⟩,
  ⟨(some 58), none, .mov (.t 1)⟩,
  ⟨(some 59), none, .bin .sub (.t 57) (.t 58)⟩,
  ⟨(some 60), none, .bin .sub (.t 56) (.t 59)⟩,
  ⟨(some 11), none, .mov (.t 60)⟩]
@[go_sem] def slices_pdqsortOrdered_int_r14 : List AI := [
  ⟨(some 12), none, .mov (.c (.int .i64 1))⟩]
@[go_sem] def slices_pdqsortOrdered_int_r15 : List AI := [
  ⟨(some 61), none, .mov (.t 8)⟩,
  ⟨(some 62), none, .mov (.t 61)⟩,
  ⟨(some 63), (some (62, true)), .mov (.t 9)⟩,
  ⟨(some 64), none, .pick (.t 62) (.t 63) (.c (.bool false))⟩,
  ⟨(some 65), none, .mov (.t 64)⟩,
  ⟨(some 66), (some (65, true)), .mov (.t 12)⟩,
  ⟨(some 67), (some (65, true)), .bin .eql (.t 66) (.c (.int .i64 1))⟩,
  ⟨(some 68), none, .pick (.t 65) (.t 67) (.c (.bool false))⟩]
@[go_sem] def slices_pdqsortOrdered_int_r16 : List AI := [
  ⟨(some 69), none, .mov (.t 0)⟩,
  ⟨(some 70), none, .mov (.t 1)⟩,
  ⟨(some 71), none, .mov (.t 2)⟩,
  ⟨(some 72), none, .call 82 [(.t 69), (.t 70), (.t 71)]⟩]
@[go_sem] def slices_pdqsortOrdered_int_r17 : List AI := [
  ⟨(some 73), none, .mov (.t 1)⟩,
  ⟨(some 74), none, .bin .gtr (.t 73) (.c (.int .i64 0))⟩,
  ⟨(some 75), none, .mov (.t 74)⟩,
  ⟨(some 76), (some (75, true)), .mov (.t 0)⟩,
  ⟨(some 77), (some (75, true)), .mov (.t 1)⟩,
  ⟨(some 78), (some (75, true)), .bin .sub (.t 77) (.c (.int .i64 1))⟩,
  ⟨(some 79), (some (75, true)), .iaddr 1 (.t 76) (.t 78)⟩,
  ⟨(some 80), (some (75, true)), .load 1 false (.t 79)⟩,
  ⟨(some 81), (some (75, true)), .mov (.t 0)⟩,
  ⟨(some 82), (some (75, true)), .mov (.t 11)⟩,
  ⟨(some 83), (some (75, true)), .iaddr 1 (.t 81) (.t 82)⟩,
  ⟨(some 84), (some (75, true)), .load 1 false (.t 83)⟩,
  ⟨(some 85), (some (75, true)), .call 83 [(.t 80), (.t 84)]⟩,
  ⟨(some 86), (some (75, true)), .un .not (.t 85)⟩,
  ⟨(some 87), none, .pick (.t 75) (.t 86) (.c (.bool false))⟩]
@[go_sem] def slices_pdqsortOrdered_int_r18 : List AI := [
  ⟨(some 88), none, .mov (.t 0)⟩,
  ⟨(some 89), none, .mov (.t 1)⟩,
  ⟨(some 90), none, .mov (.t 2)⟩,
  ⟨(some 91), none, .mov (.t 11)⟩,
  ⟨(some 92), none, .call 84 [(.t 88), (.t 89), (.t 90), (.t 91)]⟩,
  ⟨(some 13), none, .mov (.t 92)⟩]
@[go_sem] def slices_pdqsortOrdered_int_r19 : List AI := [
  ⟨(some 93), none, .mov (.t 13)⟩,
  ⟨(some 1), none, .mov (.t 93)⟩]
@[go_sem] def slices_pdqsortOrdered_int_r20 : List AI := [
  ⟨(some 95), none, .mov (.t 0)⟩,
  ⟨(some 96), none, .mov (.t 1)⟩,
  ⟨(some 97), none, .mov (.t 2)⟩,
  ⟨(some 98), none, .mov (.t 11)⟩,
  ⟨(some 99), none, .call 85 [(.t 95), (.t 96), (.t 97), (.t 98)]⟩,
  ⟨(some 94), none, .mov (.t 99)⟩,
  ⟨(some 100), none, .ext 0 (.t 94)⟩,
  ⟨(some 101), none, .ext 1 (.t 94)⟩,
  ⟨(some 14), none, .mov (.t 100)⟩,
  ⟨(some 15), none, .mov (.t 101)⟩]
@[go_sem] def slices_pdqsortOrdered_int_r21 : List AI := [
  ⟨(some 102), none, .mov (.t 15)⟩,
  ⟨(some 9), none, .mov (.t 102)⟩]
@[go_sem] def slices_pdqsortOrdered_int_r22 : List AI := [
  ⟨(some 103), none, .mov (.t 14)⟩,
  ⟨(some 104), none, .mov (.t 1)⟩,
  ⟨(some 105), none, .bin .sub (.t 103) (.t 104)⟩,
  ⟨(some 106), none, .mov (.t 2)⟩,
  ⟨(some 107), none, .mov (.t 14)⟩,
  ⟨(some 108), none, .bin .sub (.t 106) (.t 107)⟩,
  ⟨(some 16), none, .mov (.t 105)⟩,
  ⟨(some 17), none, .mov (.t 108)⟩]
@[go_sem] def slices_pdqsortOrdered_int_r23 : List AI := [
  ⟨(some 109), none, .mov (.t 10)⟩,
  ⟨(some 110), none, .bin .quo (.t 109) (.c (.int .i64 8))⟩,
  ⟨(some 18), none, .mov (.t 110)⟩]
@[go_sem] def slices_pdqsortOrdered_int_r24 : List AI := [
  ⟨(some 111), none, .mov (.t 16)⟩,
  ⟨(some 112), none, .mov (.t 17)⟩,
  ⟨(some 113), none, .bin .lss (.t 111) (.t 112)⟩]
@[go_sem] def slices_pdqsortOrdered_int_r25 : List AI := [
  ⟨(some 114), none, .mov (.t 16)⟩,
  ⟨(some 115), none, .mov (.t 18)⟩,
  ⟨(some 116), none, .bin .geq (.t 114) (.t 115)⟩,
  ⟨(some 8), none, .mov (.t 116)⟩]
@[go_sem] def slices_pdqsortOrdered_int_r26 : List AI := [
  ⟨(some 117), none, .mov (.t 0)⟩,
  ⟨(some 118), none, .mov (.t 1)⟩,
  ⟨(some 119), none, .mov (.t 14)⟩,
  ⟨(some 120), none, .mov (.t 3)⟩,
  ⟨(some 121), none, .call 60 [(.t 117), (.t 118), (.t 119), (.t 120)]⟩]
@[go_sem] def slices_pdqsortOrdered_int_r27 : List AI := [
  ⟨(some 122), none, .mov (.t 14)⟩,
  ⟨(some 123), none, .bin .add (.t 122) (.c (.int .i64 1))⟩,
  ⟨(some 1), none, .mov (.t 123)⟩]
@[go_sem] def slices_pdqsortOrdered_int_r28 : List AI := [
  ⟨(some 124), none, .mov (.t 17)⟩,
  ⟨(some 125), none, .mov (.t 18)⟩,
  ⟨(some 126), none, .bin .geq (.t 124) (.t 125)⟩,
  ⟨(some 8), none, .mov (.t 126)⟩]
@[go_sem] def slices_pdqsortOrdered_int_r29 : List AI := [
  ⟨(some 127), none, .mov (.t 0)⟩,
  ⟨(some 128), none, .mov (.t 14)⟩,
  ⟨(some 129), none, .bin .add (.t 128) (.c (.int .i64 1))⟩,
  ⟨(some 130), none, .mov (.t 2)⟩,
  ⟨(some 131), none, .mov (.t 3)⟩,
  ⟨(some 132), none, .call 60 [(.t 127), (.t 129), (.t 130), (.t 131)]⟩]
@[go_sem] def slices_pdqsortOrdered_int_r30 : List AI := [
  ⟨(some 133), none, .mov (.t 14)⟩,
  ⟨(some 2), none, .mov (.t 133)⟩]
def slices_pdqsortOrdered_int_l0 : AC := .block 1 (.seq (.ops [slices_pdqsortOrdered_int_r2]) (.seq (.seq (.ops [slices_pdqsortOrdered_int_r3]) (.cond (.t 23) (.seq (.ops [slices_pdqsortOrdered_int_r4]) (.ret)) (.skip))) (.seq (.seq (.ops [slices_pdqsortOrdered_int_r5]) (.cond (.t 29) (.seq (.ops [slices_pdqsortOrdered_int_r6]) (.ret)) (.skip))) (.seq (.seq (.ops [slices_pdqsortOrdered_int_r7]) (.cond (.t 35) (.seq (.ops [slices_pdqsortOrdered_int_r8]) (.ops [slices_pdqsortOrdered_int_r9])) (.skip))) (.seq (.ops [slices_pdqsortOrdered_int_r10]) (.seq (.seq (.ops [slices_pdqsortOrdered_int_r11]) (.cond (.t 50) (.seq (.ops [slices_pdqsortOrdered_int_r12]) (.seq (.ops [slices_pdqsortOrdered_int_r13]) (.ops [slices_pdqsortOrdered_int_r14]))) (.skip))) (.seq (.seq (.ops [slices_pdqsortOrdered_int_r15]) (.cond (.t 68) (.seq (.ops [slices_pdqsortOrdered_int_r16]) (.cond (.t 72) (.ret) (.skip))) (.skip))) (.seq (.seq (.ops [slices_pdqsortOrdered_int_r17]) (.cond (.t 87) (.seq (.ops [slices_pdqsortOrdered_int_r18]) (.seq (.ops [slices_pdqsortOrdered_int_r19]) (.exit 1))) (.skip))) (.seq (.ops [slices_pdqsortOrdered_int_r20]) (.seq (.ops [slices_pdqsortOrdered_int_r21]) (.seq (.ops [slices_pdqsortOrdered_int_r22]) (.seq (.ops [slices_pdqsortOrdered_int_r23]) (.seq (.ops [slices_pdqsortOrdered_int_r24]) (.cond (.t 113) (.seq (.ops [slices_pdqsortOrdered_int_r25]) (.seq (.ops [slices_pdqsortOrdered_int_r26]) (.ops [slices_pdqsortOrdered_int_r27]))) (.seq (.ops [slices_pdqsortOrdered_int_r28]) (.seq (.ops [slices_pdqsortOrdered_int_r29]) (.ops [slices_pdqsortOrdered_int_r30])))))))))))))))))
theorem slices_pdqsortOrdered_int_l0_eq : slices_pdqsortOrdered_int_l0 = .block 1 (.seq (.ops [slices_pdqsortOrdered_int_r2]) (.seq (.seq (.ops [slices_pdqsortOrdered_int_r3]) (.cond (.t 23) (.seq (.ops [slices_pdqsortOrdered_int_r4]) (.ret)) (.skip))) (.seq (.seq (.ops [slices_pdqsortOrdered_int_r5]) (.cond (.t 29) (.seq (.ops [slices_pdqsortOrdered_int_r6]) (.ret)) (.skip))) (.seq (.seq (.ops [slices_pdqsortOrdered_int_r7]) (.cond (.t 35) (.seq (.ops [slices_pdqsortOrdered_int_r8]) (.ops [slices_pdqsortOrdered_int_r9])) (.skip))) (.seq (.ops [slices_pdqsortOrdered_int_r10]) (.seq (.seq (.ops [slices_pdqsortOrdered_int_r11]) (.cond (.t 50) (.seq (.ops [slices_pdqsortOrdered_int_r12]) (.seq (.ops [slices_pdqsortOrdered_int_r13]) (.ops [slices_pdqsortOrdered_int_r14]))) (.skip))) (.seq (.seq (.ops [slices_pdqsortOrdered_int_r15]) (.cond (.t 68) (.seq (.ops [slices_pdqsortOrdered_int_r16]) (.cond (.t 72) (.ret) (.skip))) (.skip))) (.seq (.seq (.ops [slices_pdqsortOrdered_int_r17]) (.cond (.t 87) (.seq (.ops [slices_pdqsortOrdered_int_r18]) (.seq (.ops [slices_pdqsortOrdered_int_r19]) (.exit 1))) (.skip))) (.seq (.ops [slices_pdqsortOrdered_int_r20]) (.seq (.ops [slices_pdqsortOrdered_int_r21]) (.seq (.ops [slices_pdqsortOrdered_int_r22]) (.seq (.ops [slices_pdqsortOrdered_int_r23]) (.seq (.ops [slices_pdqsortOrdered_int_r24]) (.cond (.t 113) (.seq (.ops [slices_pdqsortOrdered_int_r25]) (.seq (.ops [slices_pdqsortOrdered_int_r26]) (.ops [slices_pdqsortOrdered_int_r27]))) (.seq (.ops [slices_pdqsortOrdered_int_r28]) (.seq (.ops [slices_pdqsortOrdered_int_r29]) (.ops [slices_pdqsortOrdered_int_r30]))))))))))))))))) := rfl
@[go_sem] def slices_pdqsortOrdered_int_c : AC := .seq (.ops [slices_pdqsortOrdered_int_r0]) (.seq (.ops [slices_pdqsortOrdered_int_r1]) (.block 0 (.loop slices_pdqsortOrdered_int_l0)))
theorem slices_pdqsortOrdered_int_ok : compF Tryd.prog 60 = some (134, slices_pdqsortOrdered_int_c, []) := by kernel_rfl

@[go_sem] def math_bits_Len_r0 : List AI := [
  ⟨(some 2), none, .mov (.c (.int .i64 0))⟩]
@[go_sem] def math_bits_Len_r1 : List AI := [
  ⟨(some 3), none, .mov (.t 0)⟩,
  ⟨(some 4), none, .conv .u32 (.t 3)⟩,
  ⟨(some 5), none, .call 86 [(.t 4)]⟩,
  ⟨(some 2), none, .mov (.t 5)⟩]
@[go_sem] def math_bits_Len_r2 : List AI := [
  ⟨(some 6), none, .mov (.t 0)⟩,
  ⟨(some 7), none, .call 87 [(.t 6)]⟩,
  ⟨(some 2), none, .mov (.t 7)⟩]
@[go_sem] def math_bits_Len_c : AC := .seq (.ops [math_bits_Len_r0]) (.seq (.cond (.c (.bool false)) (.seq (.ops [math_bits_Len_r1]) (.ret)) (.skip)) (.seq (.ops [math_bits_Len_r2]) (.ret)))
theorem math_bits_Len_ok : compF Tryd.prog 61 = some (8, math_bits_Len_c, [.t 2]) := by kernel_rfl

@[go_sem] def verify_reads_r0 : List AI := [
  ⟨(some 3), none, .box 620003 11 (.t 0)⟩,
  ⟨(some 4), none, .box 620004 5 (.t 1)⟩,
  ⟨(some 5), none, .box 620005 3 (.t 2)⟩,
  ⟨(some 6), none, .mov (.c (.bool false))⟩]
@[go_sem] def verify_reads_r1 : List AI := [
  ⟨(some 13), none, .load 5 true (.t 4)⟩,
  ⟨(some 14), none, .call 52 [(.t 13)]⟩,
  ⟨(some 12), none, .mov (.t 14)⟩,
  ⟨(some 15), none, .ext 0 (.t 12)⟩,
  ⟨(some 16), none, .ext 1 (.t 12)⟩,
  ⟨(some 7), none, .mov (.t 15)⟩,
  ⟨(some 8), none, .mov (.t 16)⟩]
@[go_sem] def verify_reads_r2 : List AI := [
  ⟨(some 17), none, .mov (.t 8)⟩,
  ⟨(some 18), none, .bin .geq (.t 17) (.c (.int .i64 0))⟩,
  ⟨(some 19), none, .faddr 1 (.t 5)⟩,
  ⟨(some 20), none, .load 1 false (.t 19)⟩,
  ⟨(some 21), none, .bin .geq (.t 20) (.c (.int .i64 0))⟩,
  ⟨(some 22), none, .eqp 2 true (.t 18) (.t 21)⟩,
  ⟨(some 23), none, .mov (.t 22)⟩,
  ⟨(some 24), (some (23, false)), .mov (.t 8)⟩,
  ⟨(some 25), (some (23, false)), .faddr 1 (.t 5)⟩,
  ⟨(some 26), (some (23, false)), .load 1 false (.t 25)⟩,
  ⟨(some 27), (some (23, false)), .bin .gtr (.t 24) (.t 26)⟩,
  ⟨(some 28), none, .pick (.t 23) (.c (.bool true)) (.t 27)⟩]
@[go_sem] def verify_reads_r3 : List AI := [
  ⟨(some 6), none, .mov (.c (.bool false))⟩]
@[go_sem] def verify_reads_r4 : List AI := [
  ⟨(some 29), none, .mov (.t 8)⟩,
  ⟨(some 9), none, .mov (.t 29)⟩]
@[go_sem] def verify_reads_r5 : List AI := [
  ⟨(some 30), none, .mov (.t 9)⟩,
  ⟨(some 31), none, .bin .geq (.t 30) (.c (.int .i64 0))⟩,
  ⟨(some 32), none, .mov (.t 31)⟩,
  ⟨(some 33), (some (32, true)), .mov (.t 9)⟩,
  ⟨(some 34), (some (32, true)), .faddr 1 (.t 5)⟩,
  ⟨(some 35), (some (32, true)), .load 1 false (.t 34)⟩,
  ⟨(some 36), (some (32, true)), .bin .lss (.t 33) (.t 35)⟩,
  ⟨(some 37), none, .pick (.t 32) (.t 36) (.c (.bool false))⟩]
@[go_sem] def verify_reads_r6 : List AI := [
  ⟨(some 40), none, .mov (.t 7)⟩,
  ⟨(some 41), none, .mov (.t 9)⟩,
  ⟨(some 42), none, .mkisl 1 [(.t 41)]⟩,
  ⟨(some 43), none, .app 620043 1 (.t 40) (.t 42)⟩,
  ⟨(some 7), none, .mov (.t 43)⟩]
@[go_sem] def verify_reads_r7 : List AI := [
  ⟨(some 38), none, .mov (.t 9)⟩,
  ⟨(some 39), none, .bin .add (.t 38) (.c (.int .i64 1))⟩,
  ⟨(some 9), none, .mov (.t 39)⟩]
def verify_reads_l0 : AC := .seq (.seq (.ops [verify_reads_r5]) (.cond (.t 37) (.skip) (.exit 0))) (.seq (.block 1 (.ops [verify_reads_r6])) (.ops [verify_reads_r7]))
theorem verify_reads_l0_eq : verify_reads_l0 = .seq (.seq (.ops [verify_reads_r5]) (.cond (.t 37) (.skip) (.exit 0))) (.seq (.block 1 (.ops [verify_reads_r6])) (.ops [verify_reads_r7])) := rfl
@[go_sem] def verify_reads_r8 : List AI := [
  ⟨(some 44), none, .faddr 0 (.t 4)⟩,
  ⟨(some 45), none, .load 1 false (.t 44)⟩,
  ⟨(some 46), none, .bin .eql (.t 45) (.c (.int .i64 22))⟩]
@[go_sem] def verify_reads_r9 : List AI := [
  ⟨(some 47), none, .faddr 8 (.t 3)⟩,
  ⟨(some 48), none, .load 1 false (.t 47)⟩,
  ⟨(some 49), none, .faddr 2 (.t 4)⟩,
  ⟨(some 50), none, .load 1 false (.t 49)⟩,
  ⟨(some 51), none, .iaddr 11 (.t 48) (.t 50)⟩,
  ⟨(some 52), none, .faddr 9 (.t 51)⟩,
  ⟨(some 53), none, .load 1 false (.t 52)⟩,
  ⟨(some 54), none, .len 0 (.t 53)⟩,
  ⟨(some 55), none, .mov (.c (.int .i64 0))⟩]
@[go_sem] def verify_reads_r10 : List AI := [
  ⟨(some 56), none, .bin .lss (.t 55) (.t 54)⟩]
@[go_sem] def verify_reads_r11 : List AI := [
  ⟨(some 57), none, .iaddr 3 (.t 53) (.t 55)⟩,
  ⟨(some 58), none, .load 3 true (.t 57)⟩,
  ⟨(some 11), none, .box 620011 3 (.c (.agg [(.str []), (.bool false), (.int .i64 0)]))⟩,
  ⟨none, none, .store 3 (.t 11) (.t 58)⟩]
@[go_sem] def verify_reads_r12 : List AI := [
  ⟨(some 59), none, .faddr 1 (.t 11)⟩,
  ⟨(some 60), none, .load 1 false (.t 59)⟩]
@[go_sem] def verify_reads_r13 : List AI := [
  ⟨(some 61), none, .mov (.t 7)⟩,
  ⟨(some 62), none, .faddr 2 (.t 11)⟩,
  ⟨(some 63), none, .load 1 false (.t 62)⟩,
  ⟨(some 64), none, .mkisl 1 [(.t 63)]⟩,
  ⟨(some 65), none, .app 620065 1 (.t 61) (.t 64)⟩,
  ⟨(some 7), none, .mov (.t 65)⟩]
@[go_sem] def verify_reads_r14 : List AI := [
  ⟨(some 66), none, .bin .add (.t 55) (.c (.int .i64 1))⟩,
  ⟨(some 55), none, .mov (.t 66)⟩]
def verify_reads_l1 : AC := .seq (.ops [verify_reads_r10]) (.seq (.cond (.t 56) (.skip) (.exit 2)) (.seq (.block 3 (.seq (.ops [verify_reads_r11]) (.seq (.ops [verify_reads_r12]) (.cond (.t 60) (.ops [verify_reads_r13]) (.skip))))) (.ops [verify_reads_r14])))
theorem verify_reads_l1_eq : verify_reads_l1 = .seq (.ops [verify_reads_r10]) (.seq (.cond (.t 56) (.skip) (.exit 2)) (.seq (.block 3 (.seq (.ops [verify_reads_r11]) (.seq (.ops [verify_reads_r12]) (.cond (.t 60) (.ops [verify_reads_r13]) (.skip))))) (.ops [verify_reads_r14]))) := rfl
@[go_sem] def verify_reads_r15 : List AI := [
  ⟨(some 67), none, .mov (.t 7)⟩,
  ⟨(some 68), none, .mkfn 88 [(.t 5)]⟩,
  ⟨(some 69), none, .call 47 [(.t 67), (.t 68)]⟩,
  ⟨(some 70), none, .un .not (.t 69)⟩,
  ⟨(some 6), none, .mov (.t 70)⟩]
@[go_sem] def verify_reads_c : AC := .seq (.ops [verify_reads_r0]) (.seq (.ops [verify_reads_r1]) (.seq (.seq (.ops [verify_reads_r2]) (.cond (.t 28) (.seq (.ops [verify_reads_r3]) (.ret)) (.skip))) (.seq (.seq (.ops [verify_reads_r4]) (.block 0 (.loop verify_reads_l0))) (.seq (.seq (.ops [verify_reads_r8]) (.cond (.t 46) (.seq (.ops [verify_reads_r9]) (.block 2 (.loop verify_reads_l1))) (.skip))) (.seq (.ops [verify_reads_r15]) (.ret))))))
theorem verify_reads_ok : compF Tryd.prog 62 = some (71, verify_reads_c, [.t 6]) := by kernel_rfl

@[go_sem] def verify_violates_1_r0 : List AI := [
  ⟨(some 3), none, .mov (.c (.bool false))⟩]
@[go_sem] def verify_violates_1_r1 : List AI := [
  ⟨(some 4), none, .mov (.t 0)⟩,
  ⟨(some 5), none, .faddr 1 (.t 1)⟩,
  ⟨(some 6), none, .load 1 false (.t 5)⟩,
  ⟨(some 7), none, .bin .geq (.t 4) (.t 6)⟩,
  ⟨(some 3), none, .mov (.t 7)⟩]
@[go_sem] def verify_violates_1_c : AC := .seq (.ops [verify_violates_1_r0]) (.seq (.ops [verify_violates_1_r1]) (.ret))
theorem verify_violates_1_ok : compF Tryd.prog 63 = some (8, verify_violates_1_c, [.t 3]) := by kernel_rfl

@[go_sem] def slices_Equal_int_int_r0 : List AI := [
  ⟨(some 4), none, .mov (.c (.bool false))⟩]
@[go_sem] def slices_Equal_int_int_r1 : List AI := [
  ⟨(some 6), none, .mov (.t 0)⟩,
  ⟨(some 7), none, .len 0 (.t 6)⟩,
  ⟨(some 8), none, .mov (.t 1)⟩,
  ⟨(some 9), none, .len 0 (.t 8)⟩,
  ⟨(some 10), none, .bin .neq (.t 7) (.t 9)⟩]
@[go_sem] def slices_Equal_int_int_r2 : List AI := [
  ⟨(some 4), none, .mov (.c (.bool false))⟩]
@[go_sem] def slices_Equal_int_int_r3 : List AI := [
  ⟨(some 11), none, .mov (.t 0)⟩,
  ⟨(some 12), none, .len 0 (.t 11)⟩,
  ⟨(some 13), none, .mov (.c (.int .i64 0))⟩]
@[go_sem] def slices_Equal_int_int_r4 : List AI := [
  ⟨(some 14), none, .bin .lss (.t 13) (.t 12)⟩]
@[go_sem] def slices_Equal_int_int_r5 : List AI := [
  ⟨(some 15), none, .mov (.t 13)⟩,
  ⟨(some 5), none, .mov (.t 15)⟩]
@[go_sem] def slices_Equal_int_int_r6 : List AI := [
  ⟨(some 16), none, .mov (.t 0)⟩,
  ⟨(some 17), none, .mov (.t 5)⟩,
  ⟨(some 18), none, .iaddr 1 (.t 16) (.t 17)⟩,
  ⟨(some 19), none, .load 1 false (.t 18)⟩,
  ⟨(some 20), none, .mov (.t 1)⟩,
  ⟨(some 21), none, .mov (.t 5)⟩,
  ⟨(some 22), none, .iaddr 1 (.t 20) (.t 21)⟩,
  ⟨(some 23), none, .load 1 false (.t 22)⟩,
  ⟨(some 24), none, .bin .neq (.t 19) (.t 23)⟩]
@[go_sem] def slices_Equal_int_int_r7 : List AI := [
  ⟨(some 4), none, .mov (.c (.bool false))⟩]
@[go_sem] def slices_Equal_int_int_r8 : List AI := [
  ⟨(some 25), none, .bin .add (.t 13) (.c (.int .i64 1))⟩,
  ⟨(some 13), none, .mov (.t 25)⟩]
def slices_Equal_int_int_l0 : AC := .seq (.ops [slices_Equal_int_int_r4]) (.seq (.cond (.t 14) (.skip) (.exit 0)) (.seq (.block 1 (.seq (.ops [slices_Equal_int_int_r5]) (.seq (.ops [slices_Equal_int_int_r6]) (.cond (.t 24) (.seq (.ops [slices_Equal_int_int_r7]) (.ret)) (.skip))))) (.ops [slices_Equal_int_int_r8])))
theorem slices_Equal_int_int_l0_eq : slices_Equal_int_int_l0 = .seq (.ops [slices_Equal_int_int_r4]) (.seq (.cond (.t 14) (.skip) (.exit 0)) (.seq (.block 1 (.seq (.ops [slices_Equal_int_int_r5]) (.seq (.ops [slices_Equal_int_int_r6]) (.cond (.t 24) (.seq (.ops [slices_Equal_int_int_r7]) (.ret)) (.skip))))) (.ops [slices_Equal_int_int_r8]))) := rfl
@[go_sem] def slices_Equal_int_int_r9 : List AI := [
  ⟨(some 4), none, .mov (.c (.bool true))⟩]
@[go_sem] def slices_Equal_int_int_c : AC := .seq (.ops [slices_Equal_int_int_r0]) (.seq (.seq (.ops [slices_Equal_int_int_r1]) (.cond (.t 10) (.seq (.ops [slices_Equal_int_int_r2]) (.ret)) (.skip))) (.seq (.seq (.ops [slices_Equal_int_int_r3]) (.block 0 (.loop slices_Equal_int_int_l0))) (.seq (.ops [slices_Equal_int_int_r9]) (.ret))))
theorem slices_Equal_int_int_ok : compF Tryd.prog 64 = some (26, slices_Equal_int_int_c, [.t 4]) := by kernel_rfl

@[go_sem] def slices_IndexFunc_api_Up_api_Up_r0 : List AI := [
  ⟨(some 4), none, .mov (.c (.int .i64 0))⟩]
@[go_sem] def slices_IndexFunc_api_Up_api_Up_r1 : List AI := [
  ⟨(some 6), none, .mov (.t 0)⟩,
  ⟨(some 7), none, .len 0 (.t 6)⟩,
  ⟨(some 8), none, .mov (.c (.int .i64 0))⟩]
@[go_sem] def slices_IndexFunc_api_Up_api_Up_r2 : List AI := [
  ⟨(some 9), none, .bin .lss (.t 8) (.t 7)⟩]
@[go_sem] def slices_IndexFunc_api_Up_api_Up_r3 : List AI := [
  ⟨(some 10), none, .mov (.t 8)⟩,
  ⟨(some 5), none, .mov (.t 10)⟩]
@[go_sem] def slices_IndexFunc_api_Up_api_Up_r4 : List AI := [
  ⟨(some 11), none, .mov (.t 1)⟩,
  ⟨(some 12), none, .mov (.t 0)⟩,
  ⟨(some 13), none, .mov (.t 5)⟩,
  ⟨(some 14), none, .iaddr 3 (.t 12) (.t 13)⟩,
  ⟨(some 15), none, .load 3 true (.t 14)⟩,
  ⟨(some 16), none, .callv (.t 11) [(.t 15)]⟩]
@[go_sem] def slices_IndexFunc_api_Up_api_Up_r5 : List AI := [
  ⟨(some 17), none, .mov (.t 5)⟩,
  ⟨(some 4), none, .mov (.t 17)⟩]
@[go_sem] def slices_IndexFunc_api_Up_api_Up_r6 : List AI := [
  ⟨(some 18), none, .bin .add (.t 8) (.c (.int .i64 1))⟩,
  ⟨(some 8), none, .mov (.t 18)⟩]
def slices_IndexFunc_api_Up_api_Up_l0 : AC := .seq (.ops [slices_IndexFunc_api_Up_api_Up_r2]) (.seq (.cond (.t 9) (.skip) (.exit 0)) (.seq (.block 1 (.seq (.ops [slices_IndexFunc_api_Up_api_Up_r3]) (.seq (.ops [slices_IndexFunc_api_Up_api_Up_r4]) (.cond (.t 16) (.seq (.ops [slices_IndexFunc_api_Up_api_Up_r5]) (.ret)) (.skip))))) (.ops [slices_IndexFunc_api_Up_api_Up_r6])))
theorem slices_IndexFunc_api_Up_api_Up_l0_eq : slices_IndexFunc_api_Up_api_Up_l0 = .seq (.ops [slices_IndexFunc_api_Up_api_Up_r2]) (.seq (.cond (.t 9) (.skip) (.exit 0)) (.seq (.block 1 (.seq (.ops [slices_IndexFunc_api_Up_api_Up_r3]) (.seq (.ops [slices_IndexFunc_api_Up_api_Up_r4]) (.cond (.t 16) (.seq (.ops [slices_IndexFunc_api_Up_api_Up_r5]) (.ret)) (.skip))))) (.ops [slices_IndexFunc_api_Up_api_Up_r6]))) := rfl
@[go_sem] def slices_IndexFunc_api_Up_api_Up_r7 : List AI := [
  ⟨(some 4), none, .mov (.c (.int .i64 (-1)))⟩]
@[go_sem] def slices_IndexFunc_api_Up_api_Up_c : AC := .seq (.ops [slices_IndexFunc_api_Up_api_Up_r0]) (.seq (.seq (.ops [slices_IndexFunc_api_Up_api_Up_r1]) (.block 0 (.loop slices_IndexFunc_api_Up_api_Up_l0))) (.seq (.ops [slices_IndexFunc_api_Up_api_Up_r7]) (.ret)))
theorem slices_IndexFunc_api_Up_api_Up_ok : compF Tryd.prog 65 = some (19, slices_IndexFunc_api_Up_api_Up_c, [.t 4]) := by kernel_rfl

@[go_sem] def slices_IndexFunc_api_Var_api_Var_r0 : List AI := [
  ⟨(some 4), none, .mov (.c (.int .i64 0))⟩]
@[go_sem] def slices_IndexFunc_api_Var_api_Var_r1 : List AI := [
  ⟨(some 6), none, .mov (.t 0)⟩,
  ⟨(some 7), none, .len 0 (.t 6)⟩,
  ⟨(some 8), none, .mov (.c (.int .i64 0))⟩]
@[go_sem] def slices_IndexFunc_api_Var_api_Var_r2 : List AI := [
  ⟨(some 9), none, .bin .lss (.t 8) (.t 7)⟩]
@[go_sem] def slices_IndexFunc_api_Var_api_Var_r3 : List AI := [
  ⟨(some 10), none, .mov (.t 8)⟩,
  ⟨(some 5), none, .mov (.t 10)⟩]
@[go_sem] def slices_IndexFunc_api_Var_api_Var_r4 : List AI := [
  ⟨(some 11), none, .mov (.t 1)⟩,
  ⟨(some 12), none, .mov (.t 0)⟩,
  ⟨(some 13), none, .mov (.t 5)⟩,
  ⟨(some 14), none, .iaddr 5 (.t 12) (.t 13)⟩,
  ⟨(some 15), none, .load 5 true (.t 14)⟩,
  ⟨(some 16), none, .callv (.t 11) [(.t 15)]⟩]
@[go_sem] def slices_IndexFunc_api_Var_api_Var_r5 : List AI := [
  ⟨(some 17), none, .mov (.t 5)⟩,
  ⟨(some 4), none, .mov (.t 17)⟩]
@[go_sem] def slices_IndexFunc_api_Var_api_Var_r6 : List AI := [
  ⟨(some 18), none, .bin .add (.t 8) (.c (.int .i64 1))⟩,
  ⟨(some 8), none, .mov (.t 18)⟩]
def slices_IndexFunc_api_Var_api_Var_l0 : AC := .seq (.ops [slices_IndexFunc_api_Var_api_Var_r2]) (.seq (.cond (.t 9) (.skip) (.exit 0)) (.seq (.block 1 (.seq (.ops [slices_IndexFunc_api_Var_api_Var_r3]) (.seq (.ops [slices_IndexFunc_api_Var_api_Var_r4]) (.cond (.t 16) (.seq (.ops [slices_IndexFunc_api_Var_api_Var_r5]) (.ret)) (.skip))))) (.ops [slices_IndexFunc_api_Var_api_Var_r6])))
theorem slices_IndexFunc_api_Var_api_Var_l0_eq : slices_IndexFunc_api_Var_api_Var_l0 = .seq (.ops [slices_IndexFunc_api_Var_api_Var_r2]) (.seq (.cond (.t 9) (.skip) (.exit 0)) (.seq (.block 1 (.seq (.ops [slices_IndexFunc_api_Var_api_Var_r3]) (.seq (.ops [slices_IndexFunc_api_Var_api_Var_r4]) (.cond (.t 16) (.seq (.ops [slices_IndexFunc_api_Var_api_Var_r5]) (.ret)) (.skip))))) (.ops [slices_IndexFunc_api_Var_api_Var_r6]))) := rfl
@[go_sem] def slices_IndexFunc_api_Var_api_Var_r7 : List AI := [
  ⟨(some 4), none, .mov (.c (.int .i64 (-1)))⟩]
@[go_sem] def slices_IndexFunc_api_Var_api_Var_c : AC := .seq (.ops [slices_IndexFunc_api_Var_api_Var_r0]) (.seq (.seq (.ops [slices_IndexFunc_api_Var_api_Var_r1]) (.block 0 (.loop slices_IndexFunc_api_Var_api_Var_l0))) (.seq (.ops [slices_IndexFunc_api_Var_api_Var_r7]) (.ret)))
theorem slices_IndexFunc_api_Var_api_Var_ok : compF Tryd.prog 66 = some (19, slices_IndexFunc_api_Var_api_Var_c, [.t 4]) := by kernel_rfl

end Go.Proofs.YtlfnbfllnlkaiaaDoor
