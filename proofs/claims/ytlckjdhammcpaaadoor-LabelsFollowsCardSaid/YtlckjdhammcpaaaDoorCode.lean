/-
  The code of the functions that this seat reaches, translated into abstract code (printed by a program, each proved to be the translation). No condition.
-/
import Derived.Test.YtlckjdhammcpaaaDoorExe
import Derived.Test.YtlckjdhammcpaaaDoorChecked
namespace Go.Proofs.YtlckjdhammcpaaaDoor
open Go.Abs

@[go_sem] def scriptinglaw38_LabelsCalls_r0 : List AI := [
  ⟨(some 2), none, .mov (.c (.bool false))⟩]
@[go_sem] def scriptinglaw38_LabelsCalls_r1 : List AI := [
  ⟨(some 16), none, .mov (.t 0)⟩,
  ⟨(some 17), none, .len 0 (.t 16)⟩,
  ⟨(some 18), none, .bin .gtr (.t 17) (.c (.int .i64 100))⟩]
@[go_sem] def scriptinglaw38_LabelsCalls_r2 : List AI := [
  ⟨(some 19), none, .call 10 []⟩,
  ⟨(some 2), none, .mov (.t 19)⟩]
@[go_sem] def scriptinglaw38_LabelsCalls_r3 : List AI := [
  ⟨(some 20), none, .call 11 []⟩,
  ⟨(some 21), none, .call 12 []⟩,
  ⟨(some 3), none, .mov (.t 20)⟩,
  ⟨(some 4), none, .mov (.t 21)⟩]
@[go_sem] def scriptinglaw38_LabelsCalls_r4 : List AI := [
  ⟨(some 22), none, .mov (.t 0)⟩,
  ⟨(some 23), none, .len 0 (.t 22)⟩,
  ⟨(some 24), none, .mov (.c (.int .i64 0))⟩]
@[go_sem] def scriptinglaw38_LabelsCalls_r5 : List AI := [
  ⟨(some 25), none, .bin .lss (.t 24) (.t 23)⟩]
@[go_sem] def scriptinglaw38_LabelsCalls_r6 : List AI := [
  ⟨(some 26), none, .mov (.t 24)⟩,
  ⟨(some 5), none, .mov (.t 26)⟩]
@[go_sem] def scriptinglaw38_LabelsCalls_r7 : List AI := [
  ⟨(some 28), none, .mov (.t 3)⟩,
  ⟨(some 29), none, .mov (.t 0)⟩,
  ⟨(some 30), none, .mov (.t 5)⟩,
  ⟨(some 31), none, .iaddr 8 (.t 29) (.t 30)⟩,
  ⟨(some 32), none, .load 8 true (.t 31)⟩,
  ⟨(some 33), none, .call 13 [(.t 28), (.t 32)]⟩,
  ⟨(some 27), none, .mov (.t 33)⟩,
  ⟨(some 34), none, .ext 0 (.t 27)⟩,
  ⟨(some 35), none, .ext 1 (.t 27)⟩,
  ⟨(some 6), none, .mov (.t 34)⟩,
  ⟨(some 7), none, .mov (.t 35)⟩]
@[go_sem] def scriptinglaw38_LabelsCalls_r8 : List AI := [
  ⟨(some 37), none, .mov (.t 4)⟩,
  ⟨(some 38), none, .mov (.t 0)⟩,
  ⟨(some 39), none, .mov (.t 5)⟩,
  ⟨(some 40), none, .iaddr 8 (.t 38) (.t 39)⟩,
  ⟨(some 41), none, .load 8 true (.t 40)⟩,
  ⟨(some 42), none, .call 14 [(.t 37), (.t 41)]⟩,
  ⟨(some 36), none, .mov (.t 42)⟩,
  ⟨(some 43), none, .ext 0 (.t 36)⟩,
  ⟨(some 44), none, .ext 1 (.t 36)⟩,
  ⟨(some 8), none, .mov (.t 43)⟩,
  ⟨(some 9), none, .mov (.t 44)⟩]
@[go_sem] def scriptinglaw38_LabelsCalls_r9 : List AI := [
  ⟨(some 45), none, .mov (.t 6)⟩,
  ⟨(some 46), none, .mov (.t 8)⟩,
  ⟨(some 47), none, .bin .neq (.t 45) (.t 46)⟩,
  ⟨(some 48), none, .mov (.t 47)⟩,
  ⟨(some 49), (some (48, false)), .mov (.t 7)⟩,
  ⟨(some 50), (some (48, false)), .mov (.t 9)⟩,
  ⟨(some 51), (some (48, false)), .bin .neq (.t 49) (.t 50)⟩,
  ⟨(some 52), none, .pick (.t 48) (.c (.bool true)) (.t 51)⟩,
  ⟨(some 53), none, .mov (.t 52)⟩,
  ⟨(some 54), (some (53, false)), .mov (.t 3)⟩,
  ⟨(some 55), (some (53, false)), .call 15 [(.t 54)]⟩,
  ⟨(some 56), (some (53, false)), .mov (.t 4)⟩,
  ⟨(some 57), (some (53, false)), .call 16 [(.t 56)]⟩,
  ⟨(some 58), (some (53, false)), .bin .neq (.t 55) (.t 57)⟩,
  ⟨(some 59), none, .pick (.t 53) (.c (.bool true)) (.t 58)⟩]
@[go_sem] def scriptinglaw38_LabelsCalls_r10 : List AI := [
  ⟨(some 2), none, .mov (.c (.bool false))⟩]
@[go_sem] def scriptinglaw38_LabelsCalls_r11 : List AI := [
  ⟨(some 60), none, .mov (.t 5)⟩,
  ⟨(some 61), none, .bin .rem (.t 60) (.c (.int .i64 10))⟩,
  ⟨(some 62), none, .bin .neq (.t 61) (.c (.int .i64 9))⟩,
  ⟨(some 63), none, .mov (.t 62)⟩,
  ⟨(some 64), (some (63, true)), .mov (.t 5)⟩,
  ⟨(some 65), (some (63, true)), .mov (.t 0)⟩,
  ⟨(some 66), (some (63, true)), .len 0 (.t 65)⟩,
  ⟨(some 67), (some (63, true)), .bin .sub (.t 66) (.c (.int .i64 1))⟩,
  ⟨(some 68), (some (63, true)), .bin .neq (.t 64) (.t 67)⟩,
  ⟨(some 69), none, .pick (.t 63) (.t 68) (.c (.bool false))⟩]
@[go_sem] def scriptinglaw38_LabelsCalls_r12 : List AI := [
  ⟨(some 71), none, .mov (.t 3)⟩,
  ⟨(some 72), none, .call 17 [(.t 71)]⟩,
  ⟨(some 70), none, .mov (.t 72)⟩,
  ⟨(some 73), none, .ext 0 (.t 70)⟩,
  ⟨(some 74), none, .ext 1 (.t 70)⟩,
  ⟨(some 75), none, .ext 2 (.t 70)⟩,
  ⟨(some 10), none, .mov (.t 73)⟩,
  ⟨(some 11), none, .mov (.t 74)⟩,
  ⟨(some 12), none, .mov (.t 75)⟩]
@[go_sem] def scriptinglaw38_LabelsCalls_r13 : List AI := [
  ⟨(some 77), none, .mov (.t 4)⟩,
  ⟨(some 78), none, .call 18 [(.t 77)]⟩,
  ⟨(some 76), none, .mov (.t 78)⟩,
  ⟨(some 79), none, .ext 0 (.t 76)⟩,
  ⟨(some 80), none, .ext 1 (.t 76)⟩,
  ⟨(some 81), none, .ext 2 (.t 76)⟩,
  ⟨(some 13), none, .mov (.t 79)⟩,
  ⟨(some 14), none, .mov (.t 80)⟩,
  ⟨(some 15), none, .mov (.t 81)⟩]
@[go_sem] def scriptinglaw38_LabelsCalls_r14 : List AI := [
  ⟨(some 82), none, .mov (.t 12)⟩,
  ⟨(some 83), none, .mov (.t 15)⟩,
  ⟨(some 84), none, .bin .neq (.t 82) (.t 83)⟩,
  ⟨(some 85), none, .mov (.t 84)⟩,
  ⟨(some 86), (some (85, false)), .mov (.t 10)⟩,
  ⟨(some 87), (some (85, false)), .mov (.t 13)⟩,
  ⟨(some 88), (some (85, false)), .mov (.t 11)⟩,
  ⟨(some 89), (some (85, false)), .mov (.t 14)⟩,
  ⟨(some 90), (some (85, false)), .call 19 [(.t 86), (.t 87), (.t 88), (.t 89)]⟩,
  ⟨(some 91), (some (85, false)), .un .not (.t 90)⟩,
  ⟨(some 92), none, .pick (.t 85) (.c (.bool true)) (.t 91)⟩]
@[go_sem] def scriptinglaw38_LabelsCalls_r15 : List AI := [
  ⟨(some 2), none, .mov (.c (.bool false))⟩]
@[go_sem] def scriptinglaw38_LabelsCalls_r16 : List AI := [
  ⟨(some 93), none, .bin .add (.t 24) (.c (.int .i64 1))⟩,
  ⟨(some 24), none, .mov (.t 93)⟩]
def scriptinglaw38_LabelsCalls_l0 : AC := .seq (.ops [scriptinglaw38_LabelsCalls_r5]) (.seq (.cond (.t 25) (.skip) (.exit 0)) (.seq (.block 1 (.seq (.ops [scriptinglaw38_LabelsCalls_r6]) (.seq (.ops [scriptinglaw38_LabelsCalls_r7]) (.seq (.ops [scriptinglaw38_LabelsCalls_r8]) (.seq (.seq (.ops [scriptinglaw38_LabelsCalls_r9]) (.cond (.t 59) (.seq (.ops [scriptinglaw38_LabelsCalls_r10]) (.ret)) (.skip))) (.seq (.seq (.ops [scriptinglaw38_LabelsCalls_r11]) (.cond (.t 69) (.exit 1) (.skip))) (.seq (.ops [scriptinglaw38_LabelsCalls_r12]) (.seq (.ops [scriptinglaw38_LabelsCalls_r13]) (.seq (.ops [scriptinglaw38_LabelsCalls_r14]) (.cond (.t 92) (.seq (.ops [scriptinglaw38_LabelsCalls_r15]) (.ret)) (.skip))))))))))) (.ops [scriptinglaw38_LabelsCalls_r16])))
theorem scriptinglaw38_LabelsCalls_l0_eq : scriptinglaw38_LabelsCalls_l0 = .seq (.ops [scriptinglaw38_LabelsCalls_r5]) (.seq (.cond (.t 25) (.skip) (.exit 0)) (.seq (.block 1 (.seq (.ops [scriptinglaw38_LabelsCalls_r6]) (.seq (.ops [scriptinglaw38_LabelsCalls_r7]) (.seq (.ops [scriptinglaw38_LabelsCalls_r8]) (.seq (.seq (.ops [scriptinglaw38_LabelsCalls_r9]) (.cond (.t 59) (.seq (.ops [scriptinglaw38_LabelsCalls_r10]) (.ret)) (.skip))) (.seq (.seq (.ops [scriptinglaw38_LabelsCalls_r11]) (.cond (.t 69) (.exit 1) (.skip))) (.seq (.ops [scriptinglaw38_LabelsCalls_r12]) (.seq (.ops [scriptinglaw38_LabelsCalls_r13]) (.seq (.ops [scriptinglaw38_LabelsCalls_r14]) (.cond (.t 92) (.seq (.ops [scriptinglaw38_LabelsCalls_r15]) (.ret)) (.skip))))))))))) (.ops [scriptinglaw38_LabelsCalls_r16]))) := rfl
@[go_sem] def scriptinglaw38_LabelsCalls_r17 : List AI := [
  ⟨(some 94), none, .call 10 []⟩,
  ⟨(some 2), none, .mov (.t 94)⟩]
@[go_sem] def scriptinglaw38_LabelsCalls_c : AC := .seq (.ops [scriptinglaw38_LabelsCalls_r0]) (.seq (.seq (.ops [scriptinglaw38_LabelsCalls_r1]) (.cond (.t 18) (.seq (.ops [scriptinglaw38_LabelsCalls_r2]) (.ret)) (.skip))) (.seq (.ops [scriptinglaw38_LabelsCalls_r3]) (.seq (.seq (.ops [scriptinglaw38_LabelsCalls_r4]) (.block 0 (.loop scriptinglaw38_LabelsCalls_l0))) (.seq (.ops [scriptinglaw38_LabelsCalls_r17]) (.ret)))))
theorem scriptinglaw38_LabelsCalls_ok : compF Tryd.prog 3 = some (95, scriptinglaw38_LabelsCalls_c, [.t 2]) := by kernel_rfl

@[go_sem] def scriptinglaw38_LabelsNumbers_r0 : List AI := [
  ⟨(some 2), none, .mov (.c (.bool false))⟩]
@[go_sem] def scriptinglaw38_LabelsNumbers_r1 : List AI := [
  ⟨(some 15), none, .call 11 []⟩,
  ⟨(some 3), none, .mov (.t 15)⟩]
@[go_sem] def scriptinglaw38_LabelsNumbers_r2 : List AI := [
  ⟨(some 16), none, .mov (.t 3)⟩,
  ⟨(some 17), none, .eqp 0 false (.t 16) (.c .nilp)⟩]
@[go_sem] def scriptinglaw38_LabelsNumbers_r3 : List AI := [
  ⟨(some 2), none, .mov (.c (.bool false))⟩]
@[go_sem] def scriptinglaw38_LabelsNumbers_r4 : List AI := [
  ⟨(some 18), none, .mov (.t 0)⟩,
  ⟨(some 19), none, .len 0 (.t 18)⟩,
  ⟨(some 20), none, .bin .gtr (.t 19) (.c (.int .i64 100))⟩]
@[go_sem] def scriptinglaw38_LabelsNumbers_r5 : List AI := [
  ⟨(some 21), none, .call 10 []⟩,
  ⟨(some 2), none, .mov (.t 21)⟩]
@[go_sem] def scriptinglaw38_LabelsNumbers_r6 : List AI := [
  ⟨(some 4), none, .mov (.c (.int .i64 0))⟩,
  ⟨(some 5), none, .mov (.c (.int .i64 0))⟩]
@[go_sem] def scriptinglaw38_LabelsNumbers_r7 : List AI := [
  ⟨(some 22), none, .mov (.t 0)⟩,
  ⟨(some 23), none, .len 0 (.t 22)⟩,
  ⟨(some 24), none, .mov (.c (.int .i64 0))⟩]
@[go_sem] def scriptinglaw38_LabelsNumbers_r8 : List AI := [
  ⟨(some 25), none, .bin .lss (.t 24) (.t 23)⟩]
@[go_sem] def scriptinglaw38_LabelsNumbers_r9 : List AI := [
  ⟨(some 26), none, .mov (.t 24)⟩,
  ⟨(some 6), none, .mov (.t 26)⟩]
@[go_sem] def scriptinglaw38_LabelsNumbers_r10 : List AI := [
  ⟨(some 28), none, .mov (.t 3)⟩,
  ⟨(some 29), none, .call 17 [(.t 28)]⟩,
  ⟨(some 27), none, .mov (.t 29)⟩,
  ⟨(some 30), none, .ext 0 (.t 27)⟩,
  ⟨(some 31), none, .ext 1 (.t 27)⟩,
  ⟨(some 32), none, .ext 2 (.t 27)⟩,
  ⟨(some 7), none, .mov (.t 30)⟩,
  ⟨(some 8), none, .mov (.t 31)⟩,
  ⟨(some 9), none, .mov (.t 32)⟩]
@[go_sem] def scriptinglaw38_LabelsNumbers_r11 : List AI := [
  ⟨(some 34), none, .mov (.t 3)⟩,
  ⟨(some 35), none, .mov (.t 0)⟩,
  ⟨(some 36), none, .mov (.t 6)⟩,
  ⟨(some 37), none, .iaddr 8 (.t 35) (.t 36)⟩,
  ⟨(some 38), none, .load 8 true (.t 37)⟩,
  ⟨(some 39), none, .call 13 [(.t 34), (.t 38)]⟩,
  ⟨(some 33), none, .mov (.t 39)⟩,
  ⟨(some 40), none, .ext 0 (.t 33)⟩,
  ⟨(some 41), none, .ext 1 (.t 33)⟩,
  ⟨(some 10), none, .mov (.t 40)⟩,
  ⟨(some 11), none, .mov (.t 41)⟩]
@[go_sem] def scriptinglaw38_LabelsNumbers_r12 : List AI := [
  ⟨(some 42), none, .mov (.t 11)⟩,
  ⟨(some 43), none, .bin .neq (.t 42) (.c (.int .i64 0))⟩]
@[go_sem] def scriptinglaw38_LabelsNumbers_r13 : List AI := [
  ⟨(some 45), none, .mov (.t 3)⟩,
  ⟨(some 46), none, .call 17 [(.t 45)]⟩,
  ⟨(some 44), none, .mov (.t 46)⟩,
  ⟨(some 47), none, .ext 0 (.t 44)⟩,
  ⟨(some 48), none, .ext 1 (.t 44)⟩,
  ⟨(some 49), none, .ext 2 (.t 44)⟩,
  ⟨(some 12), none, .mov (.t 47)⟩,
  ⟨(some 13), none, .mov (.t 48)⟩,
  ⟨(some 14), none, .mov (.t 49)⟩]
@[go_sem] def scriptinglaw38_LabelsNumbers_r14 : List AI := [
  ⟨(some 50), none, .mov (.t 9)⟩,
  ⟨(some 51), none, .mov (.t 14)⟩,
  ⟨(some 52), none, .bin .neq (.t 50) (.t 51)⟩,
  ⟨(some 53), none, .mov (.t 52)⟩,
  ⟨(some 54), (some (53, false)), .mov (.t 7)⟩,
  ⟨(some 55), (some (53, false)), .mov (.t 12)⟩,
  ⟨(some 56), (some (53, false)), .mov (.t 8)⟩,
  ⟨(some 57), (some (53, false)), .mov (.t 13)⟩,
  ⟨(some 58), (some (53, false)), .call 19 [(.t 54), (.t 55), (.t 56), (.t 57)]⟩,
  ⟨(some 59), (some (53, false)), .un .not (.t 58)⟩,
  ⟨(some 60), none, .pick (.t 53) (.c (.bool true)) (.t 59)⟩,
  ⟨(some 61), none, .mov (.t 60)⟩,
  ⟨(some 62), (some (61, false)), .mov (.t 3)⟩,
  ⟨(some 63), (some (61, false)), .call 15 [(.t 62)]⟩,
  ⟨(some 64), (some (61, false)), .mov (.t 4)⟩,
  ⟨(some 65), (some (61, false)), .bin .neq (.t 63) (.t 64)⟩,
  ⟨(some 66), none, .pick (.t 61) (.c (.bool true)) (.t 65)⟩]
@[go_sem] def scriptinglaw38_LabelsNumbers_r15 : List AI := [
  ⟨(some 2), none, .mov (.c (.bool false))⟩]
@[go_sem] def scriptinglaw38_LabelsNumbers_r16 : List AI := [
  ⟨(some 67), none, .mov (.t 0)⟩,
  ⟨(some 68), none, .mov (.t 6)⟩,
  ⟨(some 69), none, .iaddr 8 (.t 67) (.t 68)⟩,
  ⟨(some 70), none, .faddr 0 (.t 69)⟩,
  ⟨(some 71), none, .load 1 false (.t 70)⟩,
  ⟨(some 72), none, .bin .eql (.t 71) (.c (.int .i64 0))⟩,
  ⟨(some 73), none, .mov (.t 72)⟩,
  ⟨(some 74), (some (73, false)), .mov (.t 0)⟩,
  ⟨(some 75), (some (73, false)), .mov (.t 6)⟩,
  ⟨(some 76), (some (73, false)), .iaddr 8 (.t 74) (.t 75)⟩,
  ⟨(some 77), (some (73, false)), .faddr 0 (.t 76)⟩,
  ⟨(some 78), (some (73, false)), .load 1 false (.t 77)⟩,
  ⟨(some 79), (some (73, false)), .bin .eql (.t 78) (.c (.int .i64 1))⟩,
  ⟨(some 80), none, .pick (.t 73) (.c (.bool true)) (.t 79)⟩]
@[go_sem] def scriptinglaw38_LabelsNumbers_r17 : List AI := [
  ⟨(some 81), none, .mov (.t 10)⟩,
  ⟨(some 82), none, .mov (.t 4)⟩,
  ⟨(some 83), none, .bin .neq (.t 81) (.t 82)⟩]
@[go_sem] def scriptinglaw38_LabelsNumbers_r18 : List AI := [
  ⟨(some 2), none, .mov (.c (.bool false))⟩]
@[go_sem] def scriptinglaw38_LabelsNumbers_r19 : List AI := [
  ⟨(some 84), none, .mov (.t 4)⟩,
  ⟨(some 85), none, .bin .add (.t 84) (.c (.int .i64 1))⟩,
  ⟨(some 4), none, .mov (.t 85)⟩]
@[go_sem] def scriptinglaw38_LabelsNumbers_r20 : List AI := [
  ⟨(some 86), none, .mov (.t 0)⟩,
  ⟨(some 87), none, .mov (.t 6)⟩,
  ⟨(some 88), none, .iaddr 8 (.t 86) (.t 87)⟩,
  ⟨(some 89), none, .faddr 0 (.t 88)⟩,
  ⟨(some 90), none, .load 1 false (.t 89)⟩,
  ⟨(some 91), none, .bin .eql (.t 90) (.c (.int .i64 2))⟩]
@[go_sem] def scriptinglaw38_LabelsNumbers_r21 : List AI := [
  ⟨(some 92), none, .mov (.t 10)⟩,
  ⟨(some 93), none, .mov (.t 5)⟩,
  ⟨(some 94), none, .bin .neq (.t 92) (.t 93)⟩]
@[go_sem] def scriptinglaw38_LabelsNumbers_r22 : List AI := [
  ⟨(some 2), none, .mov (.c (.bool false))⟩]
@[go_sem] def scriptinglaw38_LabelsNumbers_r23 : List AI := [
  ⟨(some 95), none, .mov (.t 5)⟩,
  ⟨(some 96), none, .bin .add (.t 95) (.c (.int .i64 1))⟩,
  ⟨(some 5), none, .mov (.t 96)⟩]
@[go_sem] def scriptinglaw38_LabelsNumbers_r24 : List AI := [
  ⟨(some 97), none, .bin .add (.t 24) (.c (.int .i64 1))⟩,
  ⟨(some 24), none, .mov (.t 97)⟩]
def scriptinglaw38_LabelsNumbers_l0 : AC := .seq (.ops [scriptinglaw38_LabelsNumbers_r8]) (.seq (.cond (.t 25) (.skip) (.exit 0)) (.seq (.block 1 (.seq (.ops [scriptinglaw38_LabelsNumbers_r9]) (.seq (.ops [scriptinglaw38_LabelsNumbers_r10]) (.seq (.ops [scriptinglaw38_LabelsNumbers_r11]) (.seq (.seq (.ops [scriptinglaw38_LabelsNumbers_r12]) (.cond (.t 43) (.seq (.ops [scriptinglaw38_LabelsNumbers_r13]) (.seq (.seq (.ops [scriptinglaw38_LabelsNumbers_r14]) (.cond (.t 66) (.seq (.ops [scriptinglaw38_LabelsNumbers_r15]) (.ret)) (.skip))) (.exit 1))) (.skip))) (.seq (.seq (.ops [scriptinglaw38_LabelsNumbers_r16]) (.cond (.t 80) (.seq (.seq (.ops [scriptinglaw38_LabelsNumbers_r17]) (.cond (.t 83) (.seq (.ops [scriptinglaw38_LabelsNumbers_r18]) (.ret)) (.skip))) (.ops [scriptinglaw38_LabelsNumbers_r19])) (.skip))) (.seq (.ops [scriptinglaw38_LabelsNumbers_r20]) (.cond (.t 91) (.seq (.seq (.ops [scriptinglaw38_LabelsNumbers_r21]) (.cond (.t 94) (.seq (.ops [scriptinglaw38_LabelsNumbers_r22]) (.ret)) (.skip))) (.ops [scriptinglaw38_LabelsNumbers_r23])) (.skip))))))))) (.ops [scriptinglaw38_LabelsNumbers_r24])))
theorem scriptinglaw38_LabelsNumbers_l0_eq : scriptinglaw38_LabelsNumbers_l0 = .seq (.ops [scriptinglaw38_LabelsNumbers_r8]) (.seq (.cond (.t 25) (.skip) (.exit 0)) (.seq (.block 1 (.seq (.ops [scriptinglaw38_LabelsNumbers_r9]) (.seq (.ops [scriptinglaw38_LabelsNumbers_r10]) (.seq (.ops [scriptinglaw38_LabelsNumbers_r11]) (.seq (.seq (.ops [scriptinglaw38_LabelsNumbers_r12]) (.cond (.t 43) (.seq (.ops [scriptinglaw38_LabelsNumbers_r13]) (.seq (.seq (.ops [scriptinglaw38_LabelsNumbers_r14]) (.cond (.t 66) (.seq (.ops [scriptinglaw38_LabelsNumbers_r15]) (.ret)) (.skip))) (.exit 1))) (.skip))) (.seq (.seq (.ops [scriptinglaw38_LabelsNumbers_r16]) (.cond (.t 80) (.seq (.seq (.ops [scriptinglaw38_LabelsNumbers_r17]) (.cond (.t 83) (.seq (.ops [scriptinglaw38_LabelsNumbers_r18]) (.ret)) (.skip))) (.ops [scriptinglaw38_LabelsNumbers_r19])) (.skip))) (.seq (.ops [scriptinglaw38_LabelsNumbers_r20]) (.cond (.t 91) (.seq (.seq (.ops [scriptinglaw38_LabelsNumbers_r21]) (.cond (.t 94) (.seq (.ops [scriptinglaw38_LabelsNumbers_r22]) (.ret)) (.skip))) (.ops [scriptinglaw38_LabelsNumbers_r23])) (.skip))))))))) (.ops [scriptinglaw38_LabelsNumbers_r24]))) := rfl
@[go_sem] def scriptinglaw38_LabelsNumbers_r25 : List AI := [
  ⟨(some 98), none, .mov (.t 3)⟩,
  ⟨(some 99), none, .call 15 [(.t 98)]⟩,
  ⟨(some 100), none, .mov (.t 4)⟩,
  ⟨(some 101), none, .bin .eql (.t 99) (.t 100)⟩,
  ⟨(some 102), none, .mov (.t 101)⟩,
  ⟨(some 103), (some (102, true)), .call 10 []⟩,
  ⟨(some 104), none, .pick (.t 102) (.t 103) (.c (.bool false))⟩,
  ⟨(some 2), none, .mov (.t 104)⟩]
@[go_sem] def scriptinglaw38_LabelsNumbers_c : AC := .seq (.ops [scriptinglaw38_LabelsNumbers_r0]) (.seq (.ops [scriptinglaw38_LabelsNumbers_r1]) (.seq (.seq (.ops [scriptinglaw38_LabelsNumbers_r2]) (.cond (.t 17) (.seq (.ops [scriptinglaw38_LabelsNumbers_r3]) (.ret)) (.skip))) (.seq (.seq (.ops [scriptinglaw38_LabelsNumbers_r4]) (.cond (.t 20) (.seq (.ops [scriptinglaw38_LabelsNumbers_r5]) (.ret)) (.skip))) (.seq (.ops [scriptinglaw38_LabelsNumbers_r6]) (.seq (.seq (.ops [scriptinglaw38_LabelsNumbers_r7]) (.block 0 (.loop scriptinglaw38_LabelsNumbers_l0))) (.seq (.ops [scriptinglaw38_LabelsNumbers_r25]) (.ret)))))))
theorem scriptinglaw38_LabelsNumbers_ok : compF Tryd.prog 4 = some (105, scriptinglaw38_LabelsNumbers_c, [.t 2]) := by kernel_rfl

@[go_sem] def scriptinglaw38_LabelsTargets_r0 : List AI := [
  ⟨(some 2), none, .mov (.c (.bool false))⟩]
@[go_sem] def scriptinglaw38_LabelsTargets_r1 : List AI := [
  ⟨(some 17), none, .call 11 []⟩,
  ⟨(some 3), none, .mov (.t 17)⟩]
@[go_sem] def scriptinglaw38_LabelsTargets_r2 : List AI := [
  ⟨(some 18), none, .mov (.t 3)⟩,
  ⟨(some 19), none, .eqp 0 false (.t 18) (.c .nilp)⟩]
@[go_sem] def scriptinglaw38_LabelsTargets_r3 : List AI := [
  ⟨(some 2), none, .mov (.c (.bool false))⟩]
@[go_sem] def scriptinglaw38_LabelsTargets_r4 : List AI := [
  ⟨(some 20), none, .mov (.t 0)⟩,
  ⟨(some 21), none, .len 0 (.t 20)⟩,
  ⟨(some 22), none, .bin .gtr (.t 21) (.c (.int .i64 100))⟩]
@[go_sem] def scriptinglaw38_LabelsTargets_r5 : List AI := [
  ⟨(some 23), none, .call 10 []⟩,
  ⟨(some 2), none, .mov (.t 23)⟩]
@[go_sem] def scriptinglaw38_LabelsTargets_r6 : List AI := [
  ⟨(some 24), none, .mksl 50024 [(.int .i64 0)] (.c (.int .i64 101))⟩,
  ⟨(some 4), none, .mov (.t 24)⟩]
@[go_sem] def scriptinglaw38_LabelsTargets_r7 : List AI := [
  ⟨(some 25), none, .mkrow 50025 8 []⟩,
  ⟨(some 5), none, .mov (.t 25)⟩]
@[go_sem] def scriptinglaw38_LabelsTargets_r8 : List AI := [
  ⟨(some 26), none, .mov (.t 0)⟩,
  ⟨(some 27), none, .len 0 (.t 26)⟩,
  ⟨(some 28), none, .mov (.c (.int .i64 0))⟩]
@[go_sem] def scriptinglaw38_LabelsTargets_r9 : List AI := [
  ⟨(some 29), none, .bin .lss (.t 28) (.t 27)⟩]
@[go_sem] def scriptinglaw38_LabelsTargets_r10 : List AI := [
  ⟨(some 30), none, .mov (.t 28)⟩,
  ⟨(some 6), none, .mov (.t 30)⟩]
@[go_sem] def scriptinglaw38_LabelsTargets_r11 : List AI := [
  ⟨(some 32), none, .mov (.t 3)⟩,
  ⟨(some 33), none, .mov (.t 0)⟩,
  ⟨(some 34), none, .mov (.t 6)⟩,
  ⟨(some 35), none, .iaddr 8 (.t 33) (.t 34)⟩,
  ⟨(some 36), none, .load 8 true (.t 35)⟩,
  ⟨(some 37), none, .call 13 [(.t 32), (.t 36)]⟩,
  ⟨(some 31), none, .mov (.t 37)⟩,
  ⟨(some 38), none, .ext 0 (.t 31)⟩,
  ⟨(some 39), none, .ext 1 (.t 31)⟩,
  ⟨(some 7), none, .mov (.t 38)⟩,
  ⟨(some 8), none, .mov (.t 39)⟩]
@[go_sem] def scriptinglaw38_LabelsTargets_r12 : List AI := [
  ⟨(some 40), none, .mov (.t 8)⟩,
  ⟨(some 41), none, .bin .neq (.t 40) (.c (.int .i64 0))⟩]
@[go_sem] def scriptinglaw38_LabelsTargets_r13 : List AI := [
  ⟨(some 42), none, .mov (.t 0)⟩,
  ⟨(some 43), none, .mov (.t 6)⟩,
  ⟨(some 44), none, .iaddr 8 (.t 42) (.t 43)⟩,
  ⟨(some 45), none, .faddr 0 (.t 44)⟩,
  ⟨(some 46), none, .load 1 false (.t 45)⟩,
  ⟨(some 47), none, .bin .eql (.t 46) (.c (.int .i64 2))⟩,
  ⟨(some 48), none, .mov (.t 47)⟩,
  ⟨(some 49), (some (48, true)), .mov (.t 7)⟩,
  ⟨(some 50), (some (48, true)), .bin .lss (.t 49) (.c (.int .i64 0))⟩,
  ⟨(some 51), (some (48, true)), .mov (.t 50)⟩,
  ⟨(some 52), (some (51, false)), .mov (.t 7)⟩,
  ⟨(some 53), (some (51, false)), .bin .gtr (.t 52) (.c (.int .i64 100))⟩,
  ⟨(some 54), (some (48, true)), .pick (.t 51) (.c (.bool true)) (.t 53)⟩,
  ⟨(some 55), none, .pick (.t 48) (.t 54) (.c (.bool false))⟩,
  ⟨(some 56), none, .mov (.t 55)⟩,
  ⟨(some 57), (some (56, false)), .mov (.t 0)⟩,
  ⟨(some 58), (some (56, false)), .mov (.t 6)⟩,
  ⟨(some 59), (some (56, false)), .iaddr 8 (.t 57) (.t 58)⟩,
  ⟨(some 60), (some (56, false)), .faddr 0 (.t 59)⟩,
  ⟨(some 61), (some (56, false)), .load 1 false (.t 60)⟩,
  ⟨(some 62), (some (56, false)), .bin .neq (.t 61) (.c (.int .i64 2))⟩,
  ⟨(some 63), (some (56, false)), .mov (.t 62)⟩,
  ⟨(some 64), (some (63, true)), .mov (.t 0)⟩,
  ⟨(some 65), (some (63, true)), .mov (.t 6)⟩,
  ⟨(some 66), (some (63, true)), .iaddr 8 (.t 64) (.t 65)⟩,
  ⟨(some 67), (some (63, true)), .faddr 0 (.t 66)⟩,
  ⟨(some 68), (some (63, true)), .load 1 false (.t 67)⟩,
  ⟨(some 69), (some (63, true)), .bin .neq (.t 68) (.c (.int .i64 0))⟩,
  ⟨(some 70), (some (56, false)), .pick (.t 63) (.t 69) (.c (.bool false))⟩,
  ⟨(some 71), (some (56, false)), .mov (.t 70)⟩,
  ⟨(some 72), (some (71, true)), .mov (.t 0)⟩,
  ⟨(some 73), (some (71, true)), .mov (.t 6)⟩,
  ⟨(some 74), (some (71, true)), .iaddr 8 (.t 72) (.t 73)⟩,
  ⟨(some 75), (some (71, true)), .faddr 7 (.t 74)⟩,
  ⟨(some 76), (some (71, true)), .load 1 false (.t 75)⟩,
  ⟨(some 77), (some (71, true)), .bin .lss (.t 76) (.c (.int .i64 0))⟩,
  ⟨(some 78), (some (71, true)), .mov (.t 77)⟩,
  ⟨(some 79), (some (78, false)), .mov (.t 0)⟩,
  ⟨(some 80), (some (78, false)), .mov (.t 6)⟩,
  ⟨(some 81), (some (78, false)), .iaddr 8 (.t 79) (.t 80)⟩,
  ⟨(some 82), (some (78, false)), .faddr 7 (.t 81)⟩,
  ⟨(some 83), (some (78, false)), .load 1 false (.t 82)⟩,
  ⟨(some 84), (some (78, false)), .bin .gtr (.t 83) (.c (.int .i64 100))⟩,
  ⟨(some 85), (some (71, true)), .pick (.t 78) (.c (.bool true)) (.t 84)⟩,
  ⟨(some 86), (some (56, false)), .pick (.t 71) (.t 85) (.c (.bool false))⟩,
  ⟨(some 87), none, .pick (.t 56) (.c (.bool true)) (.t 86)⟩]
@[go_sem] def scriptinglaw38_LabelsTargets_r14 : List AI := [
  ⟨(some 2), none, .mov (.c (.bool false))⟩]
@[go_sem] def scriptinglaw38_LabelsTargets_r15 : List AI := [
  ⟨(some 88), none, .mov (.t 0)⟩,
  ⟨(some 89), none, .mov (.t 6)⟩,
  ⟨(some 90), none, .iaddr 8 (.t 88) (.t 89)⟩,
  ⟨(some 91), none, .faddr 0 (.t 90)⟩,
  ⟨(some 92), none, .load 1 false (.t 91)⟩]
@[go_sem] def scriptinglaw38_LabelsTargets_r16 : List AI := [
  ⟨(some 103), none, .bin .eql (.t 92) (.c (.int .i64 0))⟩,
  ⟨(some 102), none, .mov (.t 103)⟩]
@[go_sem] def scriptinglaw38_LabelsTargets_r17 : List AI := [
  ⟨(some 104), none, .bin .eql (.t 92) (.c (.int .i64 1))⟩,
  ⟨(some 102), none, .mov (.t 104)⟩]
@[go_sem] def scriptinglaw38_LabelsTargets_r18 : List AI := [
  ⟨(some 105), none, .mov (.t 5)⟩,
  ⟨(some 106), none, .mov (.t 0)⟩,
  ⟨(some 107), none, .mov (.t 6)⟩,
  ⟨(some 108), none, .iaddr 8 (.t 106) (.t 107)⟩,
  ⟨(some 109), none, .load 8 true (.t 108)⟩,
  ⟨(some 110), none, .mkisl 8 [(.t 109)]⟩,
  ⟨(some 111), none, .app 50111 8 (.t 105) (.t 110)⟩,
  ⟨(some 5), none, .mov (.t 111)⟩]
@[go_sem] def scriptinglaw38_LabelsTargets_r19 : List AI := [
  ⟨(some 113), none, .bin .eql (.t 92) (.c (.int .i64 2))⟩,
  ⟨(some 112), none, .mov (.t 113)⟩]
@[go_sem] def scriptinglaw38_LabelsTargets_r20 : List AI := [
  ⟨(some 114), none, .mov (.t 4)⟩,
  ⟨(some 115), none, .mov (.t 7)⟩,
  ⟨(some 116), none, .iaddr 1 (.t 114) (.t 115)⟩,
  ⟨none, none, .store 1 (.t 116) (.c (.int .i64 (-1)))⟩]
@[go_sem] def scriptinglaw38_LabelsTargets_r21_0 : List AI := [
  ⟨(some 93), none, .mov (.t 4)⟩,
  ⟨(some 94), none, .mov (.t 0)⟩,
  ⟨(some 95), none, .mov (.t 6)⟩,
  ⟨(some 96), none, .iaddr 8 (.t 94) (.t 95)⟩,
  ⟨(some 97), none, .faddr 7 (.t 96)⟩,
  ⟨(some 98), none, .load 1 false (.t 97)⟩,
  ⟨(some 99), none, .mov (.t 3)⟩,
  ⟨(some 100), none, .call 15 [(.t 99)]⟩,
  ⟨(some 101), none, .iaddr 1 (.t 93) (.t 98)⟩,
  ⟨none, none, .store 1 (.t 101) (.t 100)⟩]
@[go_sem] def scriptinglaw38_LabelsTargets_r21_1 : List AI := [
  ⟨(some 93), none, .mov (.t 4)⟩,
  ⟨(some 94), none, .mov (.t 0)⟩,
  ⟨(some 95), none, .mov (.t 6)⟩,
  ⟨(some 96), none, .iaddr 8 (.t 94) (.t 95)⟩,
  ⟨(some 97), none, .faddr 7 (.t 96)⟩,
  ⟨(some 99), none, .mov (.t 3)⟩,
  ⟨(some 100), none, .call 15 [(.t 99)]⟩,
  ⟨(some 98), none, .load 1 false (.t 97)⟩,
  ⟨(some 101), none, .iaddr 1 (.t 93) (.t 98)⟩,
  ⟨none, none, .store 1 (.t 101) (.t 100)⟩]
@[go_sem] def scriptinglaw38_LabelsTargets_r21_2 : List AI := [
  ⟨(some 93), none, .mov (.t 4)⟩,
  ⟨(some 94), none, .mov (.t 0)⟩,
  ⟨(some 95), none, .mov (.t 6)⟩,
  ⟨(some 99), none, .mov (.t 3)⟩,
  ⟨(some 100), none, .call 15 [(.t 99)]⟩,
  ⟨(some 96), none, .iaddr 8 (.t 94) (.t 95)⟩,
  ⟨(some 97), none, .faddr 7 (.t 96)⟩,
  ⟨(some 98), none, .load 1 false (.t 97)⟩,
  ⟨(some 101), none, .iaddr 1 (.t 93) (.t 98)⟩,
  ⟨none, none, .store 1 (.t 101) (.t 100)⟩]
@[go_sem] def scriptinglaw38_LabelsTargets_r22 : List AI := [
  ⟨(some 117), none, .bin .add (.t 28) (.c (.int .i64 1))⟩,
  ⟨(some 28), none, .mov (.t 117)⟩]
def scriptinglaw38_LabelsTargets_l0 : AC := .seq (.ops [scriptinglaw38_LabelsTargets_r9]) (.seq (.cond (.t 29) (.skip) (.exit 0)) (.seq (.block 1 (.seq (.ops [scriptinglaw38_LabelsTargets_r10]) (.seq (.ops [scriptinglaw38_LabelsTargets_r11]) (.seq (.seq (.ops [scriptinglaw38_LabelsTargets_r12]) (.cond (.t 41) (.exit 1) (.skip))) (.seq (.seq (.ops [scriptinglaw38_LabelsTargets_r13]) (.cond (.t 87) (.seq (.ops [scriptinglaw38_LabelsTargets_r14]) (.ret)) (.skip))) (.seq (.ops [scriptinglaw38_LabelsTargets_r15]) (.block 2 (.seq (.seq (.ops [scriptinglaw38_LabelsTargets_r16]) (.cond (.t 102) (.skip) (.ops [scriptinglaw38_LabelsTargets_r17]))) (.cond (.t 102) (.ops [scriptinglaw38_LabelsTargets_r18]) (.seq (.ops [scriptinglaw38_LabelsTargets_r19]) (.cond (.t 112) (.ops [scriptinglaw38_LabelsTargets_r20]) (.ops [scriptinglaw38_LabelsTargets_r21_0, scriptinglaw38_LabelsTargets_r21_1, scriptinglaw38_LabelsTargets_r21_2])))))))))))) (.ops [scriptinglaw38_LabelsTargets_r22])))
theorem scriptinglaw38_LabelsTargets_l0_eq : scriptinglaw38_LabelsTargets_l0 = .seq (.ops [scriptinglaw38_LabelsTargets_r9]) (.seq (.cond (.t 29) (.skip) (.exit 0)) (.seq (.block 1 (.seq (.ops [scriptinglaw38_LabelsTargets_r10]) (.seq (.ops [scriptinglaw38_LabelsTargets_r11]) (.seq (.seq (.ops [scriptinglaw38_LabelsTargets_r12]) (.cond (.t 41) (.exit 1) (.skip))) (.seq (.seq (.ops [scriptinglaw38_LabelsTargets_r13]) (.cond (.t 87) (.seq (.ops [scriptinglaw38_LabelsTargets_r14]) (.ret)) (.skip))) (.seq (.ops [scriptinglaw38_LabelsTargets_r15]) (.block 2 (.seq (.seq (.ops [scriptinglaw38_LabelsTargets_r16]) (.cond (.t 102) (.skip) (.ops [scriptinglaw38_LabelsTargets_r17]))) (.cond (.t 102) (.ops [scriptinglaw38_LabelsTargets_r18]) (.seq (.ops [scriptinglaw38_LabelsTargets_r19]) (.cond (.t 112) (.ops [scriptinglaw38_LabelsTargets_r20]) (.ops [scriptinglaw38_LabelsTargets_r21_0, scriptinglaw38_LabelsTargets_r21_1, scriptinglaw38_LabelsTargets_r21_2])))))))))))) (.ops [scriptinglaw38_LabelsTargets_r22]))) := rfl
@[go_sem] def scriptinglaw38_LabelsTargets_r23 : List AI := [
  ⟨(some 119), none, .mov (.t 3)⟩,
  ⟨(some 120), none, .call 17 [(.t 119)]⟩,
  ⟨(some 118), none, .mov (.t 120)⟩,
  ⟨(some 121), none, .ext 0 (.t 118)⟩,
  ⟨(some 122), none, .ext 1 (.t 118)⟩,
  ⟨(some 123), none, .ext 2 (.t 118)⟩,
  ⟨(some 9), none, .mov (.t 121)⟩,
  ⟨(some 10), none, .mov (.t 122)⟩,
  ⟨(some 11), none, .mov (.t 123)⟩]
@[go_sem] def scriptinglaw38_LabelsTargets_r24 : List AI := [
  ⟨(some 12), none, .mov (.c (.bool true))⟩]
@[go_sem] def scriptinglaw38_LabelsTargets_r25 : List AI := [
  ⟨(some 124), none, .mov (.t 5)⟩,
  ⟨(some 125), none, .len 0 (.t 124)⟩,
  ⟨(some 126), none, .mov (.c (.int .i64 0))⟩]
@[go_sem] def scriptinglaw38_LabelsTargets_r26 : List AI := [
  ⟨(some 127), none, .bin .lss (.t 126) (.t 125)⟩]
@[go_sem] def scriptinglaw38_LabelsTargets_r27 : List AI := [
  ⟨(some 128), none, .mov (.t 126)⟩,
  ⟨(some 13), none, .mov (.t 128)⟩]
@[go_sem] def scriptinglaw38_LabelsTargets_r28 : List AI := [
  ⟨(some 129), none, .mov (.t 5)⟩,
  ⟨(some 130), none, .mov (.t 13)⟩,
  ⟨(some 131), none, .iaddr 8 (.t 129) (.t 130)⟩,
  ⟨(some 132), none, .faddr 0 (.t 131)⟩,
  ⟨(some 133), none, .load 1 false (.t 132)⟩,
  ⟨(some 134), none, .bin .eql (.t 133) (.c (.int .i64 1))⟩]
@[go_sem] def scriptinglaw38_LabelsTargets_r29 : List AI := [
  ⟨(some 135), none, .mov (.t 4)⟩,
  ⟨(some 136), none, .mov (.t 5)⟩,
  ⟨(some 137), none, .mov (.t 13)⟩,
  ⟨(some 138), none, .iaddr 8 (.t 136) (.t 137)⟩,
  ⟨(some 139), none, .faddr 7 (.t 138)⟩,
  ⟨(some 140), none, .load 1 false (.t 139)⟩,
  ⟨(some 141), none, .iaddr 1 (.t 135) (.t 140)⟩,
  ⟨(some 142), none, .load 1 false (.t 141)⟩,
  ⟨(some 14), none, .mov (.t 142)⟩]
@[go_sem] def scriptinglaw38_LabelsTargets_r30 : List AI := [
  ⟨(some 143), none, .mov (.t 12)⟩,
  ⟨(some 144), none, .mov (.t 143)⟩,
  ⟨(some 145), (some (144, true)), .mov (.t 14)⟩,
  ⟨(some 146), (some (144, true)), .bin .geq (.t 145) (.c (.int .i64 0))⟩,
  ⟨(some 147), none, .pick (.t 144) (.t 146) (.c (.bool false))⟩,
  ⟨(some 148), none, .mov (.t 147)⟩,
  ⟨(some 149), (some (148, true)), .mov (.t 14)⟩,
  ⟨(some 150), (some (148, true)), .mov (.t 5)⟩,
  ⟨(some 151), (some (148, true)), .len 0 (.t 150)⟩,
  ⟨(some 152), (some (148, true)), .bin .lss (.t 149) (.t 151)⟩,
  ⟨(some 153), none, .pick (.t 148) (.t 152) (.c (.bool false))⟩,
  ⟨(some 12), none, .mov (.t 153)⟩]
@[go_sem] def scriptinglaw38_LabelsTargets_r31 : List AI := [
  ⟨(some 154), none, .bin .add (.t 126) (.c (.int .i64 1))⟩,
  ⟨(some 126), none, .mov (.t 154)⟩]
def scriptinglaw38_LabelsTargets_l1 : AC := .seq (.ops [scriptinglaw38_LabelsTargets_r26]) (.seq (.cond (.t 127) (.skip) (.exit 3)) (.seq (.block 4 (.seq (.ops [scriptinglaw38_LabelsTargets_r27]) (.seq (.ops [scriptinglaw38_LabelsTargets_r28]) (.cond (.t 134) (.seq (.ops [scriptinglaw38_LabelsTargets_r29]) (.ops [scriptinglaw38_LabelsTargets_r30])) (.skip))))) (.ops [scriptinglaw38_LabelsTargets_r31])))
theorem scriptinglaw38_LabelsTargets_l1_eq : scriptinglaw38_LabelsTargets_l1 = .seq (.ops [scriptinglaw38_LabelsTargets_r26]) (.seq (.cond (.t 127) (.skip) (.exit 3)) (.seq (.block 4 (.seq (.ops [scriptinglaw38_LabelsTargets_r27]) (.seq (.ops [scriptinglaw38_LabelsTargets_r28]) (.cond (.t 134) (.seq (.ops [scriptinglaw38_LabelsTargets_r29]) (.ops [scriptinglaw38_LabelsTargets_r30])) (.skip))))) (.ops [scriptinglaw38_LabelsTargets_r31]))) := rfl
@[go_sem] def scriptinglaw38_LabelsTargets_r32 : List AI := [
  ⟨(some 155), none, .mov (.t 12)⟩,
  ⟨(some 156), none, .mov (.t 11)⟩,
  ⟨(some 157), none, .bin .eql (.t 156) (.c (.int .i64 0))⟩,
  ⟨(some 158), none, .eqp 2 true (.t 155) (.t 157)⟩,
  ⟨(some 159), none, .mov (.t 158)⟩,
  ⟨(some 160), (some (159, false)), .mov (.t 11)⟩,
  ⟨(some 161), (some (159, false)), .bin .neq (.t 160) (.c (.int .i64 0))⟩,
  ⟨(some 162), (some (159, false)), .mov (.t 161)⟩,
  ⟨(some 163), (some (162, true)), .mov (.t 11)⟩,
  ⟨(some 164), (some (162, true)), .bin .neq (.t 163) (.c (.int .i64 12))⟩,
  ⟨(some 165), (some (159, false)), .pick (.t 162) (.t 164) (.c (.bool false))⟩,
  ⟨(some 166), none, .pick (.t 159) (.c (.bool true)) (.t 165)⟩]
@[go_sem] def scriptinglaw38_LabelsTargets_r33 : List AI := [
  ⟨(some 2), none, .mov (.c (.bool false))⟩]
@[go_sem] def scriptinglaw38_LabelsTargets_r34 : List AI := [
  ⟨(some 167), none, .mov (.t 12)⟩,
  ⟨(some 168), none, .un .not (.t 167)⟩]
@[go_sem] def scriptinglaw38_LabelsTargets_r35 : List AI := [
  ⟨(some 169), none, .mov (.t 9)⟩,
  ⟨(some 170), none, .len 0 (.t 169)⟩,
  ⟨(some 171), none, .bin .eql (.t 170) (.c (.int .i64 0))⟩,
  ⟨(some 172), none, .mov (.t 171)⟩,
  ⟨(some 173), (some (172, true)), .mov (.t 10)⟩,
  ⟨(some 174), (some (172, true)), .len 0 (.t 173)⟩,
  ⟨(some 175), (some (172, true)), .bin .eql (.t 174) (.c (.int .i64 0))⟩,
  ⟨(some 176), none, .pick (.t 172) (.t 175) (.c (.bool false))⟩,
  ⟨(some 177), none, .mov (.t 176)⟩,
  ⟨(some 178), (some (177, true)), .call 10 []⟩,
  ⟨(some 179), none, .pick (.t 177) (.t 178) (.c (.bool false))⟩,
  ⟨(some 2), none, .mov (.t 179)⟩]
@[go_sem] def scriptinglaw38_LabelsTargets_r36 : List AI := [
  ⟨(some 180), none, .mov (.t 9)⟩,
  ⟨(some 181), none, .len 0 (.t 180)⟩,
  ⟨(some 182), none, .mov (.t 5)⟩,
  ⟨(some 183), none, .len 0 (.t 182)⟩,
  ⟨(some 184), none, .bin .neq (.t 181) (.t 183)⟩,
  ⟨(some 185), none, .mov (.t 184)⟩,
  ⟨(some 186), (some (185, false)), .mov (.t 10)⟩,
  ⟨(some 187), (some (185, false)), .len 0 (.t 186)⟩,
  ⟨(some 188), (some (185, false)), .mov (.t 5)⟩,
  ⟨(some 189), (some (185, false)), .len 0 (.t 188)⟩,
  ⟨(some 190), (some (185, false)), .bin .neq (.t 187) (.t 189)⟩,
  ⟨(some 191), none, .pick (.t 185) (.c (.bool true)) (.t 190)⟩]
@[go_sem] def scriptinglaw38_LabelsTargets_r37 : List AI := [
  ⟨(some 2), none, .mov (.c (.bool false))⟩]
@[go_sem] def scriptinglaw38_LabelsTargets_r38 : List AI := [
  ⟨(some 192), none, .mov (.t 5)⟩,
  ⟨(some 193), none, .len 0 (.t 192)⟩,
  ⟨(some 194), none, .mov (.c (.int .i64 0))⟩]
@[go_sem] def scriptinglaw38_LabelsTargets_r39 : List AI := [
  ⟨(some 195), none, .bin .lss (.t 194) (.t 193)⟩]
@[go_sem] def scriptinglaw38_LabelsTargets_r40 : List AI := [
  ⟨(some 196), none, .mov (.t 194)⟩,
  ⟨(some 15), none, .mov (.t 196)⟩]
@[go_sem] def scriptinglaw38_LabelsTargets_r41 : List AI := [
  ⟨(some 197), none, .mov (.t 5)⟩,
  ⟨(some 198), none, .mov (.t 15)⟩,
  ⟨(some 199), none, .iaddr 8 (.t 197) (.t 198)⟩,
  ⟨(some 200), none, .faddr 1 (.t 199)⟩,
  ⟨(some 201), none, .load 5 true (.t 200)⟩,
  ⟨(some 16), none, .box 50016 5 (.c (.agg [(.int .i64 0), (.int .i64 0), (.int .i64 0), (.int .i64 0), (.int .i64 0)]))⟩,
  ⟨none, none, .store 5 (.t 16) (.t 201)⟩]
@[go_sem] def scriptinglaw38_LabelsTargets_r42 : List AI := [
  ⟨(some 202), none, .mov (.t 5)⟩,
  ⟨(some 203), none, .mov (.t 15)⟩,
  ⟨(some 204), none, .iaddr 8 (.t 202) (.t 203)⟩,
  ⟨(some 205), none, .faddr 0 (.t 204)⟩,
  ⟨(some 206), none, .load 1 false (.t 205)⟩,
  ⟨(some 207), none, .bin .eql (.t 206) (.c (.int .i64 1))⟩]
@[go_sem] def scriptinglaw38_LabelsTargets_r43 : List AI := [
  ⟨(some 208), none, .mov (.t 4)⟩,
  ⟨(some 209), none, .mov (.t 5)⟩,
  ⟨(some 210), none, .mov (.t 15)⟩,
  ⟨(some 211), none, .iaddr 8 (.t 209) (.t 210)⟩,
  ⟨(some 212), none, .faddr 7 (.t 211)⟩,
  ⟨(some 213), none, .load 1 false (.t 212)⟩,
  ⟨(some 214), none, .iaddr 1 (.t 208) (.t 213)⟩,
  ⟨(some 215), none, .load 1 false (.t 214)⟩,
  ⟨(some 216), none, .faddr 2 (.t 16)⟩,
  ⟨none, none, .store 1 (.t 216) (.t 215)⟩]
@[go_sem] def scriptinglaw38_LabelsTargets_r44 : List AI := [
  ⟨(some 217), none, .mov (.t 9)⟩,
  ⟨(some 218), none, .mov (.t 15)⟩,
  ⟨(some 219), none, .iaddr 5 (.t 217) (.t 218)⟩,
  ⟨(some 220), none, .load 5 true (.t 219)⟩,
  ⟨(some 221), none, .load 5 true (.t 16)⟩,
  ⟨(some 222), none, .eqa true (.agg [(0, 1, (.leaf 1)), (1, 1, (.leaf 1)), (2, 1, (.leaf 1)), (3, 1, (.leaf 1)), (4, 1, (.leaf 1))]) (.t 220) (.t 221)⟩,
  ⟨(some 223), none, .mov (.t 222)⟩,
  ⟨(some 224), (some (223, false)), .mov (.t 10)⟩,
  ⟨(some 225), (some (223, false)), .mov (.t 15)⟩,
  ⟨(some 226), (some (223, false)), .iaddr 1 (.t 224) (.t 225)⟩,
  ⟨(some 227), (some (223, false)), .load 1 false (.t 226)⟩,
  ⟨(some 228), (some (223, false)), .mov (.t 5)⟩,
  ⟨(some 229), (some (223, false)), .mov (.t 15)⟩,
  ⟨(some 230), (some (223, false)), .iaddr 8 (.t 228) (.t 229)⟩,
  ⟨(some 231), (some (223, false)), .faddr 6 (.t 230)⟩,
  ⟨(some 232), (some (223, false)), .load 1 false (.t 231)⟩,
  ⟨(some 233), (some (223, false)), .bin .neq (.t 227) (.t 232)⟩,
  ⟨(some 234), none, .pick (.t 223) (.c (.bool true)) (.t 233)⟩,
  ⟨(some 235), none, .mov (.t 234)⟩,
  ⟨(some 236), (some (235, false)), .mov (.t 9)⟩,
  ⟨(some 237), (some (235, false)), .mov (.t 15)⟩,
  ⟨(some 238), (some (235, false)), .iaddr 5 (.t 236) (.t 237)⟩,
  ⟨(some 239), (some (235, false)), .load 5 true (.t 238)⟩,
  ⟨(some 240), (some (235, false)), .call 20 [(.t 239)]⟩,
  ⟨(some 241), (some (235, false)), .bin .neq (.t 240) (.c (.int .i64 0))⟩,
  ⟨(some 242), none, .pick (.t 235) (.c (.bool true)) (.t 241)⟩]
@[go_sem] def scriptinglaw38_LabelsTargets_r45 : List AI := [
  ⟨(some 2), none, .mov (.c (.bool false))⟩]
@[go_sem] def scriptinglaw38_LabelsTargets_r46 : List AI := [
  ⟨(some 243), none, .bin .add (.t 194) (.c (.int .i64 1))⟩,
  ⟨(some 194), none, .mov (.t 243)⟩]
def scriptinglaw38_LabelsTargets_l2 : AC := .seq (.ops [scriptinglaw38_LabelsTargets_r39]) (.seq (.cond (.t 195) (.skip) (.exit 5)) (.seq (.block 6 (.seq (.ops [scriptinglaw38_LabelsTargets_r40]) (.seq (.ops [scriptinglaw38_LabelsTargets_r41]) (.seq (.seq (.ops [scriptinglaw38_LabelsTargets_r42]) (.cond (.t 207) (.ops [scriptinglaw38_LabelsTargets_r43]) (.skip))) (.seq (.ops [scriptinglaw38_LabelsTargets_r44]) (.cond (.t 242) (.seq (.ops [scriptinglaw38_LabelsTargets_r45]) (.ret)) (.skip))))))) (.ops [scriptinglaw38_LabelsTargets_r46])))
theorem scriptinglaw38_LabelsTargets_l2_eq : scriptinglaw38_LabelsTargets_l2 = .seq (.ops [scriptinglaw38_LabelsTargets_r39]) (.seq (.cond (.t 195) (.skip) (.exit 5)) (.seq (.block 6 (.seq (.ops [scriptinglaw38_LabelsTargets_r40]) (.seq (.ops [scriptinglaw38_LabelsTargets_r41]) (.seq (.seq (.ops [scriptinglaw38_LabelsTargets_r42]) (.cond (.t 207) (.ops [scriptinglaw38_LabelsTargets_r43]) (.skip))) (.seq (.ops [scriptinglaw38_LabelsTargets_r44]) (.cond (.t 242) (.seq (.ops [scriptinglaw38_LabelsTargets_r45]) (.ret)) (.skip))))))) (.ops [scriptinglaw38_LabelsTargets_r46]))) := rfl
@[go_sem] def scriptinglaw38_LabelsTargets_r47 : List AI := [
  ⟨(some 244), none, .call 10 []⟩,
  ⟨(some 2), none, .mov (.t 244)⟩]
@[go_sem] def scriptinglaw38_LabelsTargets_c : AC := .seq (.ops [scriptinglaw38_LabelsTargets_r0]) (.seq (.ops [scriptinglaw38_LabelsTargets_r1]) (.seq (.seq (.ops [scriptinglaw38_LabelsTargets_r2]) (.cond (.t 19) (.seq (.ops [scriptinglaw38_LabelsTargets_r3]) (.ret)) (.skip))) (.seq (.seq (.ops [scriptinglaw38_LabelsTargets_r4]) (.cond (.t 22) (.seq (.ops [scriptinglaw38_LabelsTargets_r5]) (.ret)) (.skip))) (.seq (.ops [scriptinglaw38_LabelsTargets_r6]) (.seq (.ops [scriptinglaw38_LabelsTargets_r7]) (.seq (.seq (.ops [scriptinglaw38_LabelsTargets_r8]) (.block 0 (.loop scriptinglaw38_LabelsTargets_l0))) (.seq (.ops [scriptinglaw38_LabelsTargets_r23]) (.seq (.ops [scriptinglaw38_LabelsTargets_r24]) (.seq (.seq (.ops [scriptinglaw38_LabelsTargets_r25]) (.block 3 (.loop scriptinglaw38_LabelsTargets_l1))) (.seq (.seq (.ops [scriptinglaw38_LabelsTargets_r32]) (.cond (.t 166) (.seq (.ops [scriptinglaw38_LabelsTargets_r33]) (.ret)) (.skip))) (.seq (.seq (.ops [scriptinglaw38_LabelsTargets_r34]) (.cond (.t 168) (.seq (.ops [scriptinglaw38_LabelsTargets_r35]) (.ret)) (.skip))) (.seq (.seq (.ops [scriptinglaw38_LabelsTargets_r36]) (.cond (.t 191) (.seq (.ops [scriptinglaw38_LabelsTargets_r37]) (.ret)) (.skip))) (.seq (.seq (.ops [scriptinglaw38_LabelsTargets_r38]) (.block 5 (.loop scriptinglaw38_LabelsTargets_l2))) (.seq (.ops [scriptinglaw38_LabelsTargets_r47]) (.ret)))))))))))))))
theorem scriptinglaw38_LabelsTargets_ok : compF Tryd.prog 5 = some (245, scriptinglaw38_LabelsTargets_c, [.t 2]) := by kernel_rfl

@[go_sem] def scriptinglaw38_LabelsStraight_r0 : List AI := [
  ⟨(some 4), none, .mov (.c (.bool false))⟩]
@[go_sem] def scriptinglaw38_LabelsStraight_r1 : List AI := [
  ⟨(some 15), none, .call 11 []⟩,
  ⟨(some 5), none, .mov (.t 15)⟩]
@[go_sem] def scriptinglaw38_LabelsStraight_r2 : List AI := [
  ⟨(some 16), none, .mov (.t 5)⟩,
  ⟨(some 17), none, .eqp 0 false (.t 16) (.c .nilp)⟩]
@[go_sem] def scriptinglaw38_LabelsStraight_r3 : List AI := [
  ⟨(some 4), none, .mov (.c (.bool false))⟩]
@[go_sem] def scriptinglaw38_LabelsStraight_r4 : List AI := [
  ⟨(some 18), none, .mov (.t 0)⟩,
  ⟨(some 19), none, .len 0 (.t 18)⟩,
  ⟨(some 20), none, .bin .gtr (.t 19) (.c (.int .i64 100))⟩]
@[go_sem] def scriptinglaw38_LabelsStraight_r5 : List AI := [
  ⟨(some 21), none, .call 10 []⟩,
  ⟨(some 4), none, .mov (.t 21)⟩]
@[go_sem] def scriptinglaw38_LabelsStraight_r6 : List AI := [
  ⟨(some 22), none, .mkrow 60022 5 []⟩,
  ⟨(some 23), none, .mkrow 60023 1 []⟩,
  ⟨(some 6), none, .mov (.t 22)⟩,
  ⟨(some 7), none, .mov (.t 23)⟩]
@[go_sem] def scriptinglaw38_LabelsStraight_r7 : List AI := [
  ⟨(some 24), none, .mov (.t 0)⟩,
  ⟨(some 25), none, .len 0 (.t 24)⟩,
  ⟨(some 26), none, .mov (.c (.int .i64 0))⟩]
@[go_sem] def scriptinglaw38_LabelsStraight_r8 : List AI := [
  ⟨(some 27), none, .bin .lss (.t 26) (.t 25)⟩]
@[go_sem] def scriptinglaw38_LabelsStraight_r9 : List AI := [
  ⟨(some 28), none, .mov (.t 26)⟩,
  ⟨(some 8), none, .mov (.t 28)⟩]
@[go_sem] def scriptinglaw38_LabelsStraight_r10 : List AI := [
  ⟨(some 30), none, .mov (.t 5)⟩,
  ⟨(some 31), none, .mov (.t 0)⟩,
  ⟨(some 32), none, .mov (.t 8)⟩,
  ⟨(some 33), none, .iaddr 5 (.t 31) (.t 32)⟩,
  ⟨(some 34), none, .load 5 true (.t 33)⟩,
  ⟨(some 35), none, .mov (.t 1)⟩,
  ⟨(some 36), none, .call 21 [(.t 30), (.t 34), (.t 35)]⟩,
  ⟨(some 29), none, .mov (.t 36)⟩,
  ⟨(some 37), none, .ext 0 (.t 29)⟩,
  ⟨(some 38), none, .ext 1 (.t 29)⟩,
  ⟨(some 9), none, .mov (.t 37)⟩,
  ⟨(some 10), none, .mov (.t 38)⟩]
@[go_sem] def scriptinglaw38_LabelsStraight_r11 : List AI := [
  ⟨(some 39), none, .mov (.t 0)⟩,
  ⟨(some 40), none, .mov (.t 8)⟩,
  ⟨(some 41), none, .iaddr 5 (.t 39) (.t 40)⟩,
  ⟨(some 42), none, .load 5 true (.t 41)⟩,
  ⟨(some 43), none, .call 20 [(.t 42)]⟩,
  ⟨(some 11), none, .mov (.t 43)⟩]
@[go_sem] def scriptinglaw38_LabelsStraight_r12 : List AI := [
  ⟨(some 44), none, .mov (.t 11)⟩,
  ⟨(some 45), none, .bin .eql (.t 44) (.c (.int .i64 0))⟩,
  ⟨(some 46), none, .mov (.t 45)⟩,
  ⟨(some 47), (some (46, true)), .mov (.t 1)⟩,
  ⟨(some 48), (some (46, true)), .bin .lss (.t 47) (.c (.int .i64 0))⟩,
  ⟨(some 49), none, .pick (.t 46) (.t 48) (.c (.bool false))⟩]
@[go_sem] def scriptinglaw38_LabelsStraight_r13 : List AI := [
  ⟨(some 11), none, .mov (.c (.int .i64 2))⟩]
@[go_sem] def scriptinglaw38_LabelsStraight_r14 : List AI := [
  ⟨(some 50), none, .mov (.t 10)⟩,
  ⟨(some 51), none, .mov (.t 11)⟩,
  ⟨(some 52), none, .bin .neq (.t 50) (.t 51)⟩,
  ⟨(some 53), none, .mov (.t 52)⟩,
  ⟨(some 54), (some (53, false)), .mov (.t 10)⟩,
  ⟨(some 55), (some (53, false)), .bin .eql (.t 54) (.c (.int .i64 0))⟩,
  ⟨(some 56), (some (53, false)), .mov (.t 55)⟩,
  ⟨(some 57), (some (56, true)), .mov (.t 9)⟩,
  ⟨(some 58), (some (56, true)), .mov (.t 6)⟩,
  ⟨(some 59), (some (56, true)), .len 0 (.t 58)⟩,
  ⟨(some 60), (some (56, true)), .bin .neq (.t 57) (.t 59)⟩,
  ⟨(some 61), (some (53, false)), .pick (.t 56) (.t 60) (.c (.bool false))⟩,
  ⟨(some 62), none, .pick (.t 53) (.c (.bool true)) (.t 61)⟩]
@[go_sem] def scriptinglaw38_LabelsStraight_r15 : List AI := [
  ⟨(some 4), none, .mov (.c (.bool false))⟩]
@[go_sem] def scriptinglaw38_LabelsStraight_r16 : List AI := [
  ⟨(some 63), none, .mov (.t 10)⟩,
  ⟨(some 64), none, .bin .eql (.t 63) (.c (.int .i64 0))⟩]
@[go_sem] def scriptinglaw38_LabelsStraight_r17 : List AI := [
  ⟨(some 65), none, .mov (.t 6)⟩,
  ⟨(some 66), none, .mov (.t 0)⟩,
  ⟨(some 67), none, .mov (.t 8)⟩,
  ⟨(some 68), none, .iaddr 5 (.t 66) (.t 67)⟩,
  ⟨(some 69), none, .load 5 true (.t 68)⟩,
  ⟨(some 70), none, .mkisl 5 [(.t 69)]⟩,
  ⟨(some 71), none, .app 60071 5 (.t 65) (.t 70)⟩,
  ⟨(some 6), none, .mov (.t 71)⟩]
@[go_sem] def scriptinglaw38_LabelsStraight_r18 : List AI := [
  ⟨(some 72), none, .mov (.t 7)⟩,
  ⟨(some 73), none, .mov (.t 1)⟩,
  ⟨(some 74), none, .mkisl 1 [(.t 73)]⟩,
  ⟨(some 75), none, .app 60075 1 (.t 72) (.t 74)⟩,
  ⟨(some 7), none, .mov (.t 75)⟩]
@[go_sem] def scriptinglaw38_LabelsStraight_r19 : List AI := [
  ⟨(some 76), none, .bin .add (.t 26) (.c (.int .i64 1))⟩,
  ⟨(some 26), none, .mov (.t 76)⟩]
def scriptinglaw38_LabelsStraight_l0 : AC := .seq (.ops [scriptinglaw38_LabelsStraight_r8]) (.seq (.cond (.t 27) (.skip) (.exit 0)) (.seq (.block 1 (.seq (.ops [scriptinglaw38_LabelsStraight_r9]) (.seq (.ops [scriptinglaw38_LabelsStraight_r10]) (.seq (.ops [scriptinglaw38_LabelsStraight_r11]) (.seq (.seq (.ops [scriptinglaw38_LabelsStraight_r12]) (.cond (.t 49) (.ops [scriptinglaw38_LabelsStraight_r13]) (.skip))) (.seq (.seq (.ops [scriptinglaw38_LabelsStraight_r14]) (.cond (.t 62) (.seq (.ops [scriptinglaw38_LabelsStraight_r15]) (.ret)) (.skip))) (.seq (.ops [scriptinglaw38_LabelsStraight_r16]) (.cond (.t 64) (.seq (.ops [scriptinglaw38_LabelsStraight_r17]) (.ops [scriptinglaw38_LabelsStraight_r18])) (.skip))))))))) (.ops [scriptinglaw38_LabelsStraight_r19])))
theorem scriptinglaw38_LabelsStraight_l0_eq : scriptinglaw38_LabelsStraight_l0 = .seq (.ops [scriptinglaw38_LabelsStraight_r8]) (.seq (.cond (.t 27) (.skip) (.exit 0)) (.seq (.block 1 (.seq (.ops [scriptinglaw38_LabelsStraight_r9]) (.seq (.ops [scriptinglaw38_LabelsStraight_r10]) (.seq (.ops [scriptinglaw38_LabelsStraight_r11]) (.seq (.seq (.ops [scriptinglaw38_LabelsStraight_r12]) (.cond (.t 49) (.ops [scriptinglaw38_LabelsStraight_r13]) (.skip))) (.seq (.seq (.ops [scriptinglaw38_LabelsStraight_r14]) (.cond (.t 62) (.seq (.ops [scriptinglaw38_LabelsStraight_r15]) (.ret)) (.skip))) (.seq (.ops [scriptinglaw38_LabelsStraight_r16]) (.cond (.t 64) (.seq (.ops [scriptinglaw38_LabelsStraight_r17]) (.ops [scriptinglaw38_LabelsStraight_r18])) (.skip))))))))) (.ops [scriptinglaw38_LabelsStraight_r19]))) := rfl
@[go_sem] def scriptinglaw38_LabelsStraight_r20 : List AI := [
  ⟨(some 78), none, .mov (.t 5)⟩,
  ⟨(some 79), none, .call 17 [(.t 78)]⟩,
  ⟨(some 77), none, .mov (.t 79)⟩,
  ⟨(some 80), none, .ext 0 (.t 77)⟩,
  ⟨(some 81), none, .ext 1 (.t 77)⟩,
  ⟨(some 82), none, .ext 2 (.t 77)⟩,
  ⟨(some 12), none, .mov (.t 80)⟩,
  ⟨(some 13), none, .mov (.t 81)⟩,
  ⟨(some 14), none, .mov (.t 82)⟩]
@[go_sem] def scriptinglaw38_LabelsStraight_r21 : List AI := [
  ⟨(some 83), none, .mov (.t 14)⟩,
  ⟨(some 84), none, .bin .eql (.t 83) (.c (.int .i64 0))⟩,
  ⟨(some 85), none, .mov (.t 84)⟩,
  ⟨(some 86), (some (85, true)), .mov (.t 12)⟩,
  ⟨(some 87), (some (85, true)), .mov (.t 6)⟩,
  ⟨(some 88), (some (85, true)), .mov (.t 13)⟩,
  ⟨(some 89), (some (85, true)), .mov (.t 7)⟩,
  ⟨(some 90), (some (85, true)), .call 19 [(.t 86), (.t 87), (.t 88), (.t 89)]⟩,
  ⟨(some 91), none, .pick (.t 85) (.t 90) (.c (.bool false))⟩,
  ⟨(some 92), none, .mov (.t 91)⟩,
  ⟨(some 93), (some (92, true)), .call 10 []⟩,
  ⟨(some 94), none, .pick (.t 92) (.t 93) (.c (.bool false))⟩,
  ⟨(some 4), none, .mov (.t 94)⟩]
@[go_sem] def scriptinglaw38_LabelsStraight_c : AC := .seq (.ops [scriptinglaw38_LabelsStraight_r0]) (.seq (.ops [scriptinglaw38_LabelsStraight_r1]) (.seq (.seq (.ops [scriptinglaw38_LabelsStraight_r2]) (.cond (.t 17) (.seq (.ops [scriptinglaw38_LabelsStraight_r3]) (.ret)) (.skip))) (.seq (.seq (.ops [scriptinglaw38_LabelsStraight_r4]) (.cond (.t 20) (.seq (.ops [scriptinglaw38_LabelsStraight_r5]) (.ret)) (.skip))) (.seq (.ops [scriptinglaw38_LabelsStraight_r6]) (.seq (.seq (.ops [scriptinglaw38_LabelsStraight_r7]) (.block 0 (.loop scriptinglaw38_LabelsStraight_l0))) (.seq (.ops [scriptinglaw38_LabelsStraight_r20]) (.seq (.ops [scriptinglaw38_LabelsStraight_r21]) (.ret))))))))
theorem scriptinglaw38_LabelsStraight_ok : compF Tryd.prog 6 = some (95, scriptinglaw38_LabelsStraight_c, [.t 4]) := by kernel_rfl

@[go_sem] def scriptinglaw38_LabelsShares_r0 : List AI := [
  ⟨(some 2), none, .mov (.c (.bool false))⟩]
@[go_sem] def scriptinglaw38_LabelsShares_r1 : List AI := [
  ⟨(some 15), none, .call 11 []⟩,
  ⟨(some 3), none, .mov (.t 15)⟩]
@[go_sem] def scriptinglaw38_LabelsShares_r2 : List AI := [
  ⟨(some 16), none, .mov (.t 3)⟩,
  ⟨(some 17), none, .eqp 0 false (.t 16) (.c .nilp)⟩]
@[go_sem] def scriptinglaw38_LabelsShares_r3 : List AI := [
  ⟨(some 2), none, .mov (.c (.bool false))⟩]
@[go_sem] def scriptinglaw38_LabelsShares_r4 : List AI := [
  ⟨(some 18), none, .mov (.t 0)⟩,
  ⟨(some 19), none, .len 0 (.t 18)⟩,
  ⟨(some 20), none, .bin .gtr (.t 19) (.c (.int .i64 100))⟩]
@[go_sem] def scriptinglaw38_LabelsShares_r5 : List AI := [
  ⟨(some 21), none, .call 10 []⟩,
  ⟨(some 2), none, .mov (.t 21)⟩]
@[go_sem] def scriptinglaw38_LabelsShares_r6 : List AI := [
  ⟨(some 22), none, .mov (.t 0)⟩,
  ⟨(some 23), none, .len 0 (.t 22)⟩,
  ⟨(some 24), none, .mov (.c (.int .i64 0))⟩]
@[go_sem] def scriptinglaw38_LabelsShares_r7 : List AI := [
  ⟨(some 25), none, .bin .lss (.t 24) (.t 23)⟩]
@[go_sem] def scriptinglaw38_LabelsShares_r8 : List AI := [
  ⟨(some 26), none, .mov (.t 24)⟩,
  ⟨(some 4), none, .mov (.t 26)⟩]
@[go_sem] def scriptinglaw38_LabelsShares_r9 : List AI := [
  ⟨(some 27), none, .mov (.t 3)⟩,
  ⟨(some 28), none, .mov (.t 0)⟩,
  ⟨(some 29), none, .mov (.t 4)⟩,
  ⟨(some 30), none, .iaddr 8 (.t 28) (.t 29)⟩,
  ⟨(some 31), none, .load 8 true (.t 30)⟩,
  ⟨(some 32), none, .call 13 [(.t 27), (.t 31)]⟩]
@[go_sem] def scriptinglaw38_LabelsShares_r10 : List AI := [
  ⟨(some 33), none, .bin .add (.t 24) (.c (.int .i64 1))⟩,
  ⟨(some 24), none, .mov (.t 33)⟩]
def scriptinglaw38_LabelsShares_l0 : AC := .seq (.ops [scriptinglaw38_LabelsShares_r7]) (.seq (.cond (.t 25) (.skip) (.exit 0)) (.seq (.block 1 (.seq (.ops [scriptinglaw38_LabelsShares_r8]) (.ops [scriptinglaw38_LabelsShares_r9]))) (.ops [scriptinglaw38_LabelsShares_r10])))
theorem scriptinglaw38_LabelsShares_l0_eq : scriptinglaw38_LabelsShares_l0 = .seq (.ops [scriptinglaw38_LabelsShares_r7]) (.seq (.cond (.t 25) (.skip) (.exit 0)) (.seq (.block 1 (.seq (.ops [scriptinglaw38_LabelsShares_r8]) (.ops [scriptinglaw38_LabelsShares_r9]))) (.ops [scriptinglaw38_LabelsShares_r10]))) := rfl
@[go_sem] def scriptinglaw38_LabelsShares_r11 : List AI := [
  ⟨(some 35), none, .mov (.t 3)⟩,
  ⟨(some 36), none, .call 17 [(.t 35)]⟩,
  ⟨(some 34), none, .mov (.t 36)⟩,
  ⟨(some 37), none, .ext 0 (.t 34)⟩,
  ⟨(some 38), none, .ext 1 (.t 34)⟩,
  ⟨(some 39), none, .ext 2 (.t 34)⟩,
  ⟨(some 5), none, .mov (.t 37)⟩,
  ⟨(some 6), none, .mov (.t 38)⟩,
  ⟨(some 7), none, .mov (.t 39)⟩]
@[go_sem] def scriptinglaw38_LabelsShares_r12 : List AI := [
  ⟨(some 41), none, .mov (.t 3)⟩,
  ⟨(some 42), none, .call 17 [(.t 41)]⟩,
  ⟨(some 40), none, .mov (.t 42)⟩,
  ⟨(some 43), none, .ext 0 (.t 40)⟩,
  ⟨(some 44), none, .ext 1 (.t 40)⟩,
  ⟨(some 45), none, .ext 2 (.t 40)⟩,
  ⟨(some 8), none, .mov (.t 43)⟩,
  ⟨(some 9), none, .mov (.t 44)⟩,
  ⟨(some 10), none, .mov (.t 45)⟩]
@[go_sem] def scriptinglaw38_LabelsShares_r13 : List AI := [
  ⟨(some 46), none, .mov (.t 7)⟩,
  ⟨(some 47), none, .mov (.t 10)⟩,
  ⟨(some 48), none, .bin .neq (.t 46) (.t 47)⟩,
  ⟨(some 49), none, .mov (.t 48)⟩,
  ⟨(some 50), (some (49, false)), .mov (.t 6)⟩,
  ⟨(some 51), (some (49, false)), .len 0 (.t 50)⟩,
  ⟨(some 52), (some (49, false)), .mov (.t 5)⟩,
  ⟨(some 53), (some (49, false)), .len 0 (.t 52)⟩,
  ⟨(some 54), (some (49, false)), .bin .neq (.t 51) (.t 53)⟩,
  ⟨(some 55), none, .pick (.t 49) (.c (.bool true)) (.t 54)⟩,
  ⟨(some 56), none, .mov (.t 55)⟩,
  ⟨(some 57), (some (56, false)), .mov (.t 5)⟩,
  ⟨(some 58), (some (56, false)), .mov (.t 8)⟩,
  ⟨(some 59), (some (56, false)), .mov (.t 6)⟩,
  ⟨(some 60), (some (56, false)), .mov (.t 9)⟩,
  ⟨(some 61), (some (56, false)), .call 19 [(.t 57), (.t 58), (.t 59), (.t 60)]⟩,
  ⟨(some 62), (some (56, false)), .un .not (.t 61)⟩,
  ⟨(some 63), none, .pick (.t 56) (.c (.bool true)) (.t 62)⟩]
@[go_sem] def scriptinglaw38_LabelsShares_r14 : List AI := [
  ⟨(some 2), none, .mov (.c (.bool false))⟩]
@[go_sem] def scriptinglaw38_LabelsShares_r15 : List AI := [
  ⟨(some 64), none, .mov (.t 5)⟩,
  ⟨(some 65), none, .len 0 (.t 64)⟩,
  ⟨(some 66), none, .mov (.c (.int .i64 0))⟩]
@[go_sem] def scriptinglaw38_LabelsShares_r16 : List AI := [
  ⟨(some 67), none, .bin .lss (.t 66) (.t 65)⟩]
@[go_sem] def scriptinglaw38_LabelsShares_r17 : List AI := [
  ⟨(some 68), none, .mov (.t 66)⟩,
  ⟨(some 11), none, .mov (.t 68)⟩]
@[go_sem] def scriptinglaw38_LabelsShares_r18 : List AI := [
  ⟨(some 69), none, .mov (.t 5)⟩,
  ⟨(some 70), none, .mov (.t 11)⟩,
  ⟨(some 71), none, .build [(.int .i64 0), (.int .i64 0), (.int .i64 0), (.int .i64 0), (.int .i64 0)] [(0, 1, (.c (.int .i64 77)))]⟩,
  ⟨(some 72), none, .iaddr 5 (.t 69) (.t 70)⟩,
  ⟨none, none, .store 5 (.t 72) (.t 71)⟩]
@[go_sem] def scriptinglaw38_LabelsShares_r19 : List AI := [
  ⟨(some 73), none, .mov (.t 6)⟩,
  ⟨(some 74), none, .mov (.t 11)⟩,
  ⟨(some 75), none, .iaddr 1 (.t 73) (.t 74)⟩,
  ⟨none, none, .store 1 (.t 75) (.c (.int .i64 77))⟩]
@[go_sem] def scriptinglaw38_LabelsShares_r20 : List AI := [
  ⟨(some 76), none, .bin .add (.t 66) (.c (.int .i64 1))⟩,
  ⟨(some 66), none, .mov (.t 76)⟩]
def scriptinglaw38_LabelsShares_l1 : AC := .seq (.ops [scriptinglaw38_LabelsShares_r16]) (.seq (.cond (.t 67) (.skip) (.exit 2)) (.seq (.block 3 (.seq (.ops [scriptinglaw38_LabelsShares_r17]) (.seq (.ops [scriptinglaw38_LabelsShares_r18]) (.ops [scriptinglaw38_LabelsShares_r19])))) (.ops [scriptinglaw38_LabelsShares_r20])))
theorem scriptinglaw38_LabelsShares_l1_eq : scriptinglaw38_LabelsShares_l1 = .seq (.ops [scriptinglaw38_LabelsShares_r16]) (.seq (.cond (.t 67) (.skip) (.exit 2)) (.seq (.block 3 (.seq (.ops [scriptinglaw38_LabelsShares_r17]) (.seq (.ops [scriptinglaw38_LabelsShares_r18]) (.ops [scriptinglaw38_LabelsShares_r19])))) (.ops [scriptinglaw38_LabelsShares_r20]))) := rfl
@[go_sem] def scriptinglaw38_LabelsShares_r21 : List AI := [
  ⟨(some 78), none, .mov (.t 3)⟩,
  ⟨(some 79), none, .call 17 [(.t 78)]⟩,
  ⟨(some 77), none, .mov (.t 79)⟩,
  ⟨(some 80), none, .ext 0 (.t 77)⟩,
  ⟨(some 81), none, .ext 1 (.t 77)⟩,
  ⟨(some 82), none, .ext 2 (.t 77)⟩,
  ⟨(some 12), none, .mov (.t 80)⟩,
  ⟨(some 13), none, .mov (.t 81)⟩,
  ⟨(some 14), none, .mov (.t 82)⟩]
@[go_sem] def scriptinglaw38_LabelsShares_r22 : List AI := [
  ⟨(some 83), none, .mov (.t 8)⟩,
  ⟨(some 84), none, .mov (.t 12)⟩,
  ⟨(some 85), none, .mov (.t 9)⟩,
  ⟨(some 86), none, .mov (.t 13)⟩,
  ⟨(some 87), none, .call 19 [(.t 83), (.t 84), (.t 85), (.t 86)]⟩,
  ⟨(some 88), none, .mov (.t 87)⟩,
  ⟨(some 89), (some (88, true)), .call 10 []⟩,
  ⟨(some 90), none, .pick (.t 88) (.t 89) (.c (.bool false))⟩,
  ⟨(some 2), none, .mov (.t 90)⟩]
@[go_sem] def scriptinglaw38_LabelsShares_c : AC := .seq (.ops [scriptinglaw38_LabelsShares_r0]) (.seq (.ops [scriptinglaw38_LabelsShares_r1]) (.seq (.seq (.ops [scriptinglaw38_LabelsShares_r2]) (.cond (.t 17) (.seq (.ops [scriptinglaw38_LabelsShares_r3]) (.ret)) (.skip))) (.seq (.seq (.ops [scriptinglaw38_LabelsShares_r4]) (.cond (.t 20) (.seq (.ops [scriptinglaw38_LabelsShares_r5]) (.ret)) (.skip))) (.seq (.seq (.ops [scriptinglaw38_LabelsShares_r6]) (.block 0 (.loop scriptinglaw38_LabelsShares_l0))) (.seq (.ops [scriptinglaw38_LabelsShares_r11]) (.seq (.ops [scriptinglaw38_LabelsShares_r12]) (.seq (.seq (.ops [scriptinglaw38_LabelsShares_r13]) (.cond (.t 63) (.seq (.ops [scriptinglaw38_LabelsShares_r14]) (.ret)) (.skip))) (.seq (.seq (.ops [scriptinglaw38_LabelsShares_r15]) (.block 2 (.loop scriptinglaw38_LabelsShares_l1))) (.seq (.ops [scriptinglaw38_LabelsShares_r21]) (.seq (.ops [scriptinglaw38_LabelsShares_r22]) (.ret)))))))))))
theorem scriptinglaw38_LabelsShares_ok : compF Tryd.prog 7 = some (91, scriptinglaw38_LabelsShares_c, [.t 2]) := by kernel_rfl

@[go_sem] def scriptinglaw38_LabelsNone_r0 : List AI := [
  ⟨(some 1), none, .box 80001 8 (.t 0)⟩,
  ⟨(some 2), none, .mov (.c (.bool false))⟩]
@[go_sem] def scriptinglaw38_LabelsNone_r1 : List AI := [
  ⟨(some 3), none, .mov (.c .nilp)⟩]
@[go_sem] def scriptinglaw38_LabelsNone_r2 : List AI := [
  ⟨(some 11), none, .mov (.t 3)⟩,
  ⟨(some 12), none, .load 8 true (.t 1)⟩,
  ⟨(some 13), none, .call 13 [(.t 11), (.t 12)]⟩,
  ⟨(some 10), none, .mov (.t 13)⟩,
  ⟨(some 14), none, .ext 0 (.t 10)⟩,
  ⟨(some 15), none, .ext 1 (.t 10)⟩,
  ⟨(some 4), none, .mov (.t 14)⟩,
  ⟨(some 5), none, .mov (.t 15)⟩]
@[go_sem] def scriptinglaw38_LabelsNone_r3 : List AI := [
  ⟨(some 17), none, .mov (.t 3)⟩,
  ⟨(some 18), none, .call 17 [(.t 17)]⟩,
  ⟨(some 16), none, .mov (.t 18)⟩,
  ⟨(some 19), none, .ext 0 (.t 16)⟩,
  ⟨(some 20), none, .ext 1 (.t 16)⟩,
  ⟨(some 21), none, .ext 2 (.t 16)⟩,
  ⟨(some 6), none, .mov (.t 19)⟩,
  ⟨(some 7), none, .mov (.t 20)⟩,
  ⟨(some 8), none, .mov (.t 21)⟩]
@[go_sem] def scriptinglaw38_LabelsNone_r4 : List AI := [
  ⟨(some 9), none, .mov (.c (.int .i64 1))⟩]
@[go_sem] def scriptinglaw38_LabelsNone_r5 : List AI := [
  ⟨(some 22), none, .faddr 0 (.t 1)⟩,
  ⟨(some 23), none, .load 1 false (.t 22)⟩,
  ⟨(some 24), none, .bin .eql (.t 23) (.c (.int .i64 2))⟩]
@[go_sem] def scriptinglaw38_LabelsNone_r6 : List AI := [
  ⟨(some 9), none, .mov (.c (.int .i64 0))⟩]
@[go_sem] def scriptinglaw38_LabelsNone_r7 : List AI := [
  ⟨(some 25), none, .mov (.t 4)⟩,
  ⟨(some 26), none, .bin .eql (.t 25) (.c (.int .i64 0))⟩,
  ⟨(some 27), none, .mov (.t 26)⟩,
  ⟨(some 28), (some (27, true)), .mov (.t 5)⟩,
  ⟨(some 29), (some (27, true)), .mov (.t 9)⟩,
  ⟨(some 30), (some (27, true)), .bin .eql (.t 28) (.t 29)⟩,
  ⟨(some 31), none, .pick (.t 27) (.t 30) (.c (.bool false))⟩,
  ⟨(some 32), none, .mov (.t 31)⟩,
  ⟨(some 33), (some (32, true)), .mov (.t 8)⟩,
  ⟨(some 34), (some (32, true)), .bin .eql (.t 33) (.c (.int .i64 1))⟩,
  ⟨(some 35), none, .pick (.t 32) (.t 34) (.c (.bool false))⟩,
  ⟨(some 36), none, .mov (.t 35)⟩,
  ⟨(some 37), (some (36, true)), .mov (.t 6)⟩,
  ⟨(some 38), (some (36, true)), .len 0 (.t 37)⟩,
  ⟨(some 39), (some (36, true)), .bin .eql (.t 38) (.c (.int .i64 0))⟩,
  ⟨(some 40), none, .pick (.t 36) (.t 39) (.c (.bool false))⟩,
  ⟨(some 41), none, .mov (.t 40)⟩,
  ⟨(some 42), (some (41, true)), .mov (.t 7)⟩,
  ⟨(some 43), (some (41, true)), .len 0 (.t 42)⟩,
  ⟨(some 44), (some (41, true)), .bin .eql (.t 43) (.c (.int .i64 0))⟩,
  ⟨(some 45), none, .pick (.t 41) (.t 44) (.c (.bool false))⟩,
  ⟨(some 46), none, .mov (.t 45)⟩,
  ⟨(some 47), (some (46, true)), .mov (.t 3)⟩,
  ⟨(some 48), (some (46, true)), .call 15 [(.t 47)]⟩,
  ⟨(some 49), (some (46, true)), .bin .eql (.t 48) (.c (.int .i64 0))⟩,
  ⟨(some 50), none, .pick (.t 46) (.t 49) (.c (.bool false))⟩,
  ⟨(some 51), none, .mov (.t 50)⟩,
  ⟨(some 52), (some (51, true)), .call 10 []⟩,
  ⟨(some 53), none, .pick (.t 51) (.t 52) (.c (.bool false))⟩,
  ⟨(some 2), none, .mov (.t 53)⟩]
@[go_sem] def scriptinglaw38_LabelsNone_c : AC := .seq (.ops [scriptinglaw38_LabelsNone_r0]) (.seq (.ops [scriptinglaw38_LabelsNone_r1]) (.seq (.ops [scriptinglaw38_LabelsNone_r2]) (.seq (.ops [scriptinglaw38_LabelsNone_r3]) (.seq (.ops [scriptinglaw38_LabelsNone_r4]) (.seq (.seq (.ops [scriptinglaw38_LabelsNone_r5]) (.cond (.t 24) (.ops [scriptinglaw38_LabelsNone_r6]) (.skip))) (.seq (.ops [scriptinglaw38_LabelsNone_r7]) (.ret)))))))
theorem scriptinglaw38_LabelsNone_ok : compF Tryd.prog 8 = some (54, scriptinglaw38_LabelsNone_c, [.t 2]) := by kernel_rfl

@[go_sem] def scriptinglaw38_LabelsFollows_r0 : List AI := [
  ⟨(some 2), none, .mov (.c (.bool false))⟩]
@[go_sem] def scriptinglaw38_LabelsFollows_r1 : List AI := [
  ⟨(some 17), none, .call 11 []⟩,
  ⟨(some 3), none, .mov (.t 17)⟩]
@[go_sem] def scriptinglaw38_LabelsFollows_r2 : List AI := [
  ⟨(some 18), none, .mov (.t 3)⟩,
  ⟨(some 19), none, .eqp 0 false (.t 18) (.c .nilp)⟩]
@[go_sem] def scriptinglaw38_LabelsFollows_r3 : List AI := [
  ⟨(some 2), none, .mov (.c (.bool false))⟩]
@[go_sem] def scriptinglaw38_LabelsFollows_r4 : List AI := [
  ⟨(some 20), none, .mov (.t 0)⟩,
  ⟨(some 21), none, .len 0 (.t 20)⟩,
  ⟨(some 22), none, .bin .gtr (.t 21) (.c (.int .i64 100))⟩]
@[go_sem] def scriptinglaw38_LabelsFollows_r5 : List AI := [
  ⟨(some 23), none, .call 10 []⟩,
  ⟨(some 2), none, .mov (.t 23)⟩]
@[go_sem] def scriptinglaw38_LabelsFollows_r6 : List AI := [
  ⟨(some 24), none, .mkrow 90024 8 []⟩,
  ⟨(some 4), none, .mov (.t 24)⟩]
@[go_sem] def scriptinglaw38_LabelsFollows_r7 : List AI := [
  ⟨(some 25), none, .mov (.t 0)⟩,
  ⟨(some 26), none, .len 0 (.t 25)⟩,
  ⟨(some 27), none, .mov (.c (.int .i64 0))⟩]
@[go_sem] def scriptinglaw38_LabelsFollows_r8 : List AI := [
  ⟨(some 28), none, .bin .lss (.t 27) (.t 26)⟩]
@[go_sem] def scriptinglaw38_LabelsFollows_r9 : List AI := [
  ⟨(some 29), none, .mov (.t 27)⟩,
  ⟨(some 5), none, .mov (.t 29)⟩]
@[go_sem] def scriptinglaw38_LabelsFollows_r10 : List AI := [
  ⟨(some 31), none, .mov (.t 3)⟩,
  ⟨(some 32), none, .mov (.t 0)⟩,
  ⟨(some 33), none, .mov (.t 5)⟩,
  ⟨(some 34), none, .iaddr 8 (.t 32) (.t 33)⟩,
  ⟨(some 35), none, .load 8 true (.t 34)⟩,
  ⟨(some 36), none, .call 13 [(.t 31), (.t 35)]⟩,
  ⟨(some 30), none, .mov (.t 36)⟩,
  ⟨(some 37), none, .ext 0 (.t 30)⟩,
  ⟨(some 38), none, .ext 1 (.t 30)⟩,
  ⟨(some 6), none, .mov (.t 37)⟩,
  ⟨(some 7), none, .mov (.t 38)⟩]
@[go_sem] def scriptinglaw38_LabelsFollows_r11 : List AI := [
  ⟨(some 39), none, .mov (.t 7)⟩,
  ⟨(some 40), none, .bin .eql (.t 39) (.c (.int .i64 0))⟩,
  ⟨(some 41), none, .mov (.t 40)⟩,
  ⟨(some 42), (some (41, true)), .mov (.t 0)⟩,
  ⟨(some 43), (some (41, true)), .mov (.t 5)⟩,
  ⟨(some 44), (some (41, true)), .iaddr 8 (.t 42) (.t 43)⟩,
  ⟨(some 45), (some (41, true)), .faddr 0 (.t 44)⟩,
  ⟨(some 46), (some (41, true)), .load 1 false (.t 45)⟩,
  ⟨(some 47), (some (41, true)), .bin .eql (.t 46) (.c (.int .i64 0))⟩,
  ⟨(some 48), (some (41, true)), .mov (.t 47)⟩,
  ⟨(some 49), (some (48, false)), .mov (.t 0)⟩,
  ⟨(some 50), (some (48, false)), .mov (.t 5)⟩,
  ⟨(some 51), (some (48, false)), .iaddr 8 (.t 49) (.t 50)⟩,
  ⟨(some 52), (some (48, false)), .faddr 0 (.t 51)⟩,
  ⟨(some 53), (some (48, false)), .load 1 false (.t 52)⟩,
  ⟨(some 54), (some (48, false)), .bin .eql (.t 53) (.c (.int .i64 1))⟩,
  ⟨(some 55), (some (41, true)), .pick (.t 48) (.c (.bool true)) (.t 54)⟩,
  ⟨(some 56), none, .pick (.t 41) (.t 55) (.c (.bool false))⟩]
@[go_sem] def scriptinglaw38_LabelsFollows_r12 : List AI := [
  ⟨(some 57), none, .mov (.t 4)⟩,
  ⟨(some 58), none, .mov (.t 0)⟩,
  ⟨(some 59), none, .mov (.t 5)⟩,
  ⟨(some 60), none, .iaddr 8 (.t 58) (.t 59)⟩,
  ⟨(some 61), none, .load 8 true (.t 60)⟩,
  ⟨(some 62), none, .mkisl 8 [(.t 61)]⟩,
  ⟨(some 63), none, .app 90063 8 (.t 57) (.t 62)⟩,
  ⟨(some 4), none, .mov (.t 63)⟩]
@[go_sem] def scriptinglaw38_LabelsFollows_r13 : List AI := [
  ⟨(some 64), none, .bin .add (.t 27) (.c (.int .i64 1))⟩,
  ⟨(some 27), none, .mov (.t 64)⟩]
def scriptinglaw38_LabelsFollows_l0 : AC := .seq (.ops [scriptinglaw38_LabelsFollows_r8]) (.seq (.cond (.t 28) (.skip) (.exit 0)) (.seq (.block 1 (.seq (.ops [scriptinglaw38_LabelsFollows_r9]) (.seq (.ops [scriptinglaw38_LabelsFollows_r10]) (.seq (.ops [scriptinglaw38_LabelsFollows_r11]) (.cond (.t 56) (.ops [scriptinglaw38_LabelsFollows_r12]) (.skip)))))) (.ops [scriptinglaw38_LabelsFollows_r13])))
theorem scriptinglaw38_LabelsFollows_l0_eq : scriptinglaw38_LabelsFollows_l0 = .seq (.ops [scriptinglaw38_LabelsFollows_r8]) (.seq (.cond (.t 28) (.skip) (.exit 0)) (.seq (.block 1 (.seq (.ops [scriptinglaw38_LabelsFollows_r9]) (.seq (.ops [scriptinglaw38_LabelsFollows_r10]) (.seq (.ops [scriptinglaw38_LabelsFollows_r11]) (.cond (.t 56) (.ops [scriptinglaw38_LabelsFollows_r12]) (.skip)))))) (.ops [scriptinglaw38_LabelsFollows_r13]))) := rfl
@[go_sem] def scriptinglaw38_LabelsFollows_r14 : List AI := [
  ⟨(some 66), none, .mov (.t 3)⟩,
  ⟨(some 67), none, .call 17 [(.t 66)]⟩,
  ⟨(some 65), none, .mov (.t 67)⟩,
  ⟨(some 68), none, .ext 0 (.t 65)⟩,
  ⟨(some 69), none, .ext 1 (.t 65)⟩,
  ⟨(some 70), none, .ext 2 (.t 65)⟩,
  ⟨(some 8), none, .mov (.t 68)⟩,
  ⟨(some 9), none, .mov (.t 69)⟩,
  ⟨(some 10), none, .mov (.t 70)⟩]
@[go_sem] def scriptinglaw38_LabelsFollows_r15 : List AI := [
  ⟨(some 71), none, .mov (.t 10)⟩,
  ⟨(some 72), none, .bin .neq (.t 71) (.c (.int .i64 0))⟩]
@[go_sem] def scriptinglaw38_LabelsFollows_r16 : List AI := [
  ⟨(some 73), none, .call 10 []⟩,
  ⟨(some 2), none, .mov (.t 73)⟩]
@[go_sem] def scriptinglaw38_LabelsFollows_r17 : List AI := [
  ⟨(some 74), none, .mov (.t 8)⟩,
  ⟨(some 75), none, .len 0 (.t 74)⟩,
  ⟨(some 76), none, .mov (.t 4)⟩,
  ⟨(some 77), none, .len 0 (.t 76)⟩,
  ⟨(some 78), none, .bin .neq (.t 75) (.t 77)⟩]
@[go_sem] def scriptinglaw38_LabelsFollows_r18 : List AI := [
  ⟨(some 2), none, .mov (.c (.bool false))⟩]
@[go_sem] def scriptinglaw38_LabelsFollows_r19 : List AI := [
  ⟨(some 79), none, .mov (.t 8)⟩,
  ⟨(some 80), none, .build [(.str []), (.int .i64 0), (.int .i64 0), (.bool false), (.int .i64 0), .nils, .nils, .nils, .nils, .nils, .nils] [(5, 1, (.t 79))]⟩,
  ⟨(some 11), none, .box 90011 11 (.c (.agg [(.str []), (.int .i64 0), (.int .i64 0), (.bool false), (.int .i64 0), .nils, .nils, .nils, .nils, .nils, .nils]))⟩,
  ⟨none, none, .store 11 (.t 11) (.t 80)⟩]
@[go_sem] def scriptinglaw38_LabelsFollows_r20 : List AI := [
  ⟨(some 81), none, .mov (.t 4)⟩,
  ⟨(some 82), none, .len 0 (.t 81)⟩,
  ⟨(some 83), none, .mov (.c (.int .i64 0))⟩]
@[go_sem] def scriptinglaw38_LabelsFollows_r21 : List AI := [
  ⟨(some 84), none, .bin .lss (.t 83) (.t 82)⟩]
@[go_sem] def scriptinglaw38_LabelsFollows_r22 : List AI := [
  ⟨(some 85), none, .mov (.t 83)⟩,
  ⟨(some 12), none, .mov (.t 85)⟩]
@[go_sem] def scriptinglaw38_LabelsFollows_r23 : List AI := [
  ⟨(some 86), none, .mov (.t 4)⟩,
  ⟨(some 87), none, .mov (.t 12)⟩,
  ⟨(some 88), none, .iaddr 8 (.t 86) (.t 87)⟩,
  ⟨(some 89), none, .faddr 0 (.t 88)⟩,
  ⟨(some 90), none, .load 1 false (.t 89)⟩,
  ⟨(some 91), none, .bin .neq (.t 90) (.c (.int .i64 1))⟩]
@[go_sem] def scriptinglaw38_LabelsFollows_r24 : List AI := [
  ⟨(some 92), none, .load 11 true (.t 11)⟩,
  ⟨(some 93), none, .mov (.t 12)⟩,
  ⟨(some 94), none, .call 22 [(.t 92), (.t 93)]⟩,
  ⟨(some 13), none, .mov (.t 94)⟩]
@[go_sem] def scriptinglaw38_LabelsFollows_r25 : List AI := [
  ⟨(some 14), none, .mov (.c (.bool false))⟩]
@[go_sem] def scriptinglaw38_LabelsFollows_r26 : List AI := [
  ⟨(some 95), none, .mov (.t 13)⟩,
  ⟨(some 96), none, .len 0 (.t 95)⟩,
  ⟨(some 97), none, .mov (.c (.int .i64 0))⟩]
@[go_sem] def scriptinglaw38_LabelsFollows_r27 : List AI := [
  ⟨(some 98), none, .bin .lss (.t 97) (.t 96)⟩]
@[go_sem] def scriptinglaw38_LabelsFollows_r28 : List AI := [
  ⟨(some 99), none, .mov (.t 97)⟩,
  ⟨(some 15), none, .mov (.t 99)⟩]
@[go_sem] def scriptinglaw38_LabelsFollows_r29 : List AI := [
  ⟨(some 100), none, .mov (.t 14)⟩,
  ⟨(some 101), none, .mov (.t 100)⟩,
  ⟨(some 102), (some (101, false)), .mov (.t 13)⟩,
  ⟨(some 103), (some (101, false)), .mov (.t 15)⟩,
  ⟨(some 104), (some (101, false)), .iaddr 1 (.t 102) (.t 103)⟩,
  ⟨(some 105), (some (101, false)), .load 1 false (.t 104)⟩,
  ⟨(some 106), (some (101, false)), .mov (.t 8)⟩,
  ⟨(some 107), (some (101, false)), .mov (.t 12)⟩,
  ⟨(some 108), (some (101, false)), .iaddr 5 (.t 106) (.t 107)⟩,
  ⟨(some 109), (some (101, false)), .faddr 2 (.t 108)⟩,
  ⟨(some 110), (some (101, false)), .load 1 false (.t 109)⟩,
  ⟨(some 111), (some (101, false)), .bin .eql (.t 105) (.t 110)⟩,
  ⟨(some 112), none, .pick (.t 101) (.c (.bool true)) (.t 111)⟩,
  ⟨(some 14), none, .mov (.t 112)⟩]
@[go_sem] def scriptinglaw38_LabelsFollows_r30 : List AI := [
  ⟨(some 113), none, .bin .add (.t 97) (.c (.int .i64 1))⟩,
  ⟨(some 97), none, .mov (.t 113)⟩]
def scriptinglaw38_LabelsFollows_l2 : AC := .seq (.ops [scriptinglaw38_LabelsFollows_r27]) (.seq (.cond (.t 98) (.skip) (.exit 4)) (.seq (.block 5 (.seq (.ops [scriptinglaw38_LabelsFollows_r28]) (.ops [scriptinglaw38_LabelsFollows_r29]))) (.ops [scriptinglaw38_LabelsFollows_r30])))
theorem scriptinglaw38_LabelsFollows_l2_eq : scriptinglaw38_LabelsFollows_l2 = .seq (.ops [scriptinglaw38_LabelsFollows_r27]) (.seq (.cond (.t 98) (.skip) (.exit 4)) (.seq (.block 5 (.seq (.ops [scriptinglaw38_LabelsFollows_r28]) (.ops [scriptinglaw38_LabelsFollows_r29]))) (.ops [scriptinglaw38_LabelsFollows_r30]))) := rfl
@[go_sem] def scriptinglaw38_LabelsFollows_r31 : List AI := [
  ⟨(some 114), none, .mov (.t 14)⟩,
  ⟨(some 115), none, .un .not (.t 114)⟩]
@[go_sem] def scriptinglaw38_LabelsFollows_r32 : List AI := [
  ⟨(some 2), none, .mov (.c (.bool false))⟩]
@[go_sem] def scriptinglaw38_LabelsFollows_r33 : List AI := [
  ⟨(some 116), none, .mov (.t 4)⟩,
  ⟨(some 117), none, .len 0 (.t 116)⟩,
  ⟨(some 118), none, .mov (.c (.int .i64 0))⟩]
@[go_sem] def scriptinglaw38_LabelsFollows_r34 : List AI := [
  ⟨(some 119), none, .bin .lss (.t 118) (.t 117)⟩]
@[go_sem] def scriptinglaw38_LabelsFollows_r35 : List AI := [
  ⟨(some 120), none, .mov (.t 118)⟩,
  ⟨(some 16), none, .mov (.t 120)⟩]
@[go_sem] def scriptinglaw38_LabelsFollows_r36 : List AI := [
  ⟨(some 121), none, .mov (.t 4)⟩,
  ⟨(some 122), none, .mov (.t 16)⟩,
  ⟨(some 123), none, .iaddr 8 (.t 121) (.t 122)⟩,
  ⟨(some 124), none, .faddr 0 (.t 123)⟩,
  ⟨(some 125), none, .load 1 false (.t 124)⟩,
  ⟨(some 126), none, .bin .eql (.t 125) (.c (.int .i64 1))⟩,
  ⟨(some 127), none, .mov (.t 126)⟩,
  ⟨(some 128), (some (127, true)), .mov (.t 4)⟩,
  ⟨(some 129), (some (127, true)), .mov (.t 16)⟩,
  ⟨(some 130), (some (127, true)), .iaddr 8 (.t 128) (.t 129)⟩,
  ⟨(some 131), (some (127, true)), .faddr 7 (.t 130)⟩,
  ⟨(some 132), (some (127, true)), .load 1 false (.t 131)⟩,
  ⟨(some 133), (some (127, true)), .mov (.t 4)⟩,
  ⟨(some 134), (some (127, true)), .mov (.t 12)⟩,
  ⟨(some 135), (some (127, true)), .iaddr 8 (.t 133) (.t 134)⟩,
  ⟨(some 136), (some (127, true)), .faddr 7 (.t 135)⟩,
  ⟨(some 137), (some (127, true)), .load 1 false (.t 136)⟩,
  ⟨(some 138), (some (127, true)), .bin .eql (.t 132) (.t 137)⟩,
  ⟨(some 139), none, .pick (.t 127) (.t 138) (.c (.bool false))⟩,
  ⟨(some 140), none, .mov (.t 139)⟩,
  ⟨(some 141), (some (140, true)), .mov (.t 8)⟩,
  ⟨(some 142), (some (140, true)), .mov (.t 16)⟩,
  ⟨(some 143), (some (140, true)), .iaddr 5 (.t 141) (.t 142)⟩,
  ⟨(some 144), (some (140, true)), .faddr 2 (.t 143)⟩,
  ⟨(some 145), (some (140, true)), .load 1 false (.t 144)⟩,
  ⟨(some 146), (some (140, true)), .mov (.t 8)⟩,
  ⟨(some 147), (some (140, true)), .mov (.t 12)⟩,
  ⟨(some 148), (some (140, true)), .iaddr 5 (.t 146) (.t 147)⟩,
  ⟨(some 149), (some (140, true)), .faddr 2 (.t 148)⟩,
  ⟨(some 150), (some (140, true)), .load 1 false (.t 149)⟩,
  ⟨(some 151), (some (140, true)), .bin .neq (.t 145) (.t 150)⟩,
  ⟨(some 152), none, .pick (.t 140) (.t 151) (.c (.bool false))⟩]
@[go_sem] def scriptinglaw38_LabelsFollows_r37 : List AI := [
  ⟨(some 2), none, .mov (.c (.bool false))⟩]
@[go_sem] def scriptinglaw38_LabelsFollows_r38 : List AI := [
  ⟨(some 153), none, .bin .add (.t 118) (.c (.int .i64 1))⟩,
  ⟨(some 118), none, .mov (.t 153)⟩]
def scriptinglaw38_LabelsFollows_l3 : AC := .seq (.ops [scriptinglaw38_LabelsFollows_r34]) (.seq (.cond (.t 119) (.skip) (.exit 6)) (.seq (.block 7 (.seq (.ops [scriptinglaw38_LabelsFollows_r35]) (.seq (.ops [scriptinglaw38_LabelsFollows_r36]) (.cond (.t 152) (.seq (.ops [scriptinglaw38_LabelsFollows_r37]) (.ret)) (.skip))))) (.ops [scriptinglaw38_LabelsFollows_r38])))
theorem scriptinglaw38_LabelsFollows_l3_eq : scriptinglaw38_LabelsFollows_l3 = .seq (.ops [scriptinglaw38_LabelsFollows_r34]) (.seq (.cond (.t 119) (.skip) (.exit 6)) (.seq (.block 7 (.seq (.ops [scriptinglaw38_LabelsFollows_r35]) (.seq (.ops [scriptinglaw38_LabelsFollows_r36]) (.cond (.t 152) (.seq (.ops [scriptinglaw38_LabelsFollows_r37]) (.ret)) (.skip))))) (.ops [scriptinglaw38_LabelsFollows_r38]))) := rfl
@[go_sem] def scriptinglaw38_LabelsFollows_r39 : List AI := [
  ⟨(some 154), none, .bin .add (.t 83) (.c (.int .i64 1))⟩,
  ⟨(some 83), none, .mov (.t 154)⟩]
def scriptinglaw38_LabelsFollows_l1 : AC := .seq (.ops [scriptinglaw38_LabelsFollows_r21]) (.seq (.cond (.t 84) (.skip) (.exit 2)) (.seq (.block 3 (.seq (.ops [scriptinglaw38_LabelsFollows_r22]) (.seq (.seq (.ops [scriptinglaw38_LabelsFollows_r23]) (.cond (.t 91) (.exit 3) (.skip))) (.seq (.ops [scriptinglaw38_LabelsFollows_r24]) (.seq (.ops [scriptinglaw38_LabelsFollows_r25]) (.seq (.seq (.ops [scriptinglaw38_LabelsFollows_r26]) (.block 4 (.loop scriptinglaw38_LabelsFollows_l2))) (.seq (.seq (.ops [scriptinglaw38_LabelsFollows_r31]) (.cond (.t 115) (.seq (.ops [scriptinglaw38_LabelsFollows_r32]) (.ret)) (.skip))) (.seq (.ops [scriptinglaw38_LabelsFollows_r33]) (.block 6 (.loop scriptinglaw38_LabelsFollows_l3)))))))))) (.ops [scriptinglaw38_LabelsFollows_r39])))
theorem scriptinglaw38_LabelsFollows_l1_eq : scriptinglaw38_LabelsFollows_l1 = .seq (.ops [scriptinglaw38_LabelsFollows_r21]) (.seq (.cond (.t 84) (.skip) (.exit 2)) (.seq (.block 3 (.seq (.ops [scriptinglaw38_LabelsFollows_r22]) (.seq (.seq (.ops [scriptinglaw38_LabelsFollows_r23]) (.cond (.t 91) (.exit 3) (.skip))) (.seq (.ops [scriptinglaw38_LabelsFollows_r24]) (.seq (.ops [scriptinglaw38_LabelsFollows_r25]) (.seq (.seq (.ops [scriptinglaw38_LabelsFollows_r26]) (.block 4 (.loop scriptinglaw38_LabelsFollows_l2))) (.seq (.seq (.ops [scriptinglaw38_LabelsFollows_r31]) (.cond (.t 115) (.seq (.ops [scriptinglaw38_LabelsFollows_r32]) (.ret)) (.skip))) (.seq (.ops [scriptinglaw38_LabelsFollows_r33]) (.block 6 (.loop scriptinglaw38_LabelsFollows_l3)))))))))) (.ops [scriptinglaw38_LabelsFollows_r39]))) := rfl
@[go_sem] def scriptinglaw38_LabelsFollows_r40 : List AI := [
  ⟨(some 155), none, .call 10 []⟩,
  ⟨(some 2), none, .mov (.t 155)⟩]
@[go_sem] def scriptinglaw38_LabelsFollows_c : AC := .seq (.ops [scriptinglaw38_LabelsFollows_r0]) (.seq (.ops [scriptinglaw38_LabelsFollows_r1]) (.seq (.seq (.ops [scriptinglaw38_LabelsFollows_r2]) (.cond (.t 19) (.seq (.ops [scriptinglaw38_LabelsFollows_r3]) (.ret)) (.skip))) (.seq (.seq (.ops [scriptinglaw38_LabelsFollows_r4]) (.cond (.t 22) (.seq (.ops [scriptinglaw38_LabelsFollows_r5]) (.ret)) (.skip))) (.seq (.ops [scriptinglaw38_LabelsFollows_r6]) (.seq (.seq (.ops [scriptinglaw38_LabelsFollows_r7]) (.block 0 (.loop scriptinglaw38_LabelsFollows_l0))) (.seq (.ops [scriptinglaw38_LabelsFollows_r14]) (.seq (.seq (.ops [scriptinglaw38_LabelsFollows_r15]) (.cond (.t 72) (.seq (.ops [scriptinglaw38_LabelsFollows_r16]) (.ret)) (.skip))) (.seq (.seq (.ops [scriptinglaw38_LabelsFollows_r17]) (.cond (.t 78) (.seq (.ops [scriptinglaw38_LabelsFollows_r18]) (.ret)) (.skip))) (.seq (.ops [scriptinglaw38_LabelsFollows_r19]) (.seq (.seq (.ops [scriptinglaw38_LabelsFollows_r20]) (.block 2 (.loop scriptinglaw38_LabelsFollows_l1))) (.seq (.ops [scriptinglaw38_LabelsFollows_r40]) (.ret))))))))))))
theorem scriptinglaw38_LabelsFollows_ok : compF Tryd.prog 9 = some (156, scriptinglaw38_LabelsFollows_c, [.t 2]) := by kernel_rfl

@[go_sem] def scriptinglaw38_awake_r0 : List AI := [
  ⟨(some 0), none, .mov (.c (.bool false))⟩]
@[go_sem] def scriptinglaw38_awake_r1 : List AI := [
  ⟨(some 13), none, .call 11 []⟩,
  ⟨(some 1), none, .mov (.t 13)⟩]
@[go_sem] def scriptinglaw38_awake_r2 : List AI := [
  ⟨(some 14), none, .mov (.t 1)⟩,
  ⟨(some 15), none, .eqp 0 false (.t 14) (.c .nilp)⟩,
  ⟨(some 16), none, .mov (.t 15)⟩,
  ⟨(some 17), (some (16, false)), .mov (.t 1)⟩,
  ⟨(some 18), (some (16, false)), .call 23 [(.t 17), (.c (.int .i64 0))]⟩,
  ⟨(some 19), (some (16, false)), .bin .neq (.t 18) (.c (.int .i64 12))⟩,
  ⟨(some 20), none, .pick (.t 16) (.c (.bool true)) (.t 19)⟩]
@[go_sem] def scriptinglaw38_awake_r3 : List AI := [
  ⟨(some 0), none, .mov (.c (.bool false))⟩]
@[go_sem] def scriptinglaw38_awake_r4 : List AI := [
  ⟨(some 21), none, .mov (.t 1)⟩,
  ⟨(some 22), none, .call 24 [(.t 21)]⟩,
  ⟨(some 2), none, .mov (.t 22)⟩]
@[go_sem] def scriptinglaw38_awake_r5 : List AI := [
  ⟨(some 24), none, .mov (.t 1)⟩,
  ⟨(some 25), none, .build [(.int .i64 0), (.int .i64 0), (.int .i64 0), (.int .i64 0), (.int .i64 0)] [(0, 1, (.c (.int .i64 14)))]⟩,
  ⟨(some 26), none, .mov (.t 2)⟩,
  ⟨(some 27), none, .call 25 [(.t 24), (.t 25), (.c (.int .i64 1)), (.t 26)]⟩,
  ⟨(some 23), none, .mov (.t 27)⟩,
  ⟨(some 28), none, .ext 0 (.t 23)⟩,
  ⟨(some 29), none, .ext 1 (.t 23)⟩,
  ⟨(some 3), none, .mov (.t 28)⟩,
  ⟨(some 4), none, .mov (.t 29)⟩]
@[go_sem] def scriptinglaw38_awake_r6 : List AI := [
  ⟨(some 31), none, .mov (.t 1)⟩,
  ⟨(some 32), none, .build [(.int .i64 0), (.int .i64 0), (.int .i64 0), (.int .i64 0), (.int .i64 0)] [(0, 1, (.c (.int .i64 29)))]⟩,
  ⟨(some 33), none, .call 21 [(.t 31), (.t 32), (.c (.int .i64 2))]⟩,
  ⟨(some 30), none, .mov (.t 33)⟩,
  ⟨(some 34), none, .ext 0 (.t 30)⟩,
  ⟨(some 35), none, .ext 1 (.t 30)⟩,
  ⟨(some 5), none, .mov (.t 34)⟩,
  ⟨(some 6), none, .mov (.t 35)⟩]
@[go_sem] def scriptinglaw38_awake_r7 : List AI := [
  ⟨(some 37), none, .mov (.t 1)⟩,
  ⟨(some 38), none, .call 17 [(.t 37)]⟩,
  ⟨(some 36), none, .mov (.t 38)⟩,
  ⟨(some 39), none, .ext 0 (.t 36)⟩,
  ⟨(some 40), none, .ext 1 (.t 36)⟩,
  ⟨(some 41), none, .ext 2 (.t 36)⟩,
  ⟨(some 7), none, .mov (.t 39)⟩,
  ⟨(some 8), none, .mov (.t 40)⟩,
  ⟨(some 9), none, .mov (.t 41)⟩]
@[go_sem] def scriptinglaw38_awake_r8 : List AI := [
  ⟨(some 42), none, .mov (.t 3)⟩,
  ⟨(some 43), none, .bin .neq (.t 42) (.c (.int .i64 0))⟩,
  ⟨(some 44), none, .mov (.t 43)⟩,
  ⟨(some 45), (some (44, false)), .mov (.t 5)⟩,
  ⟨(some 46), (some (44, false)), .bin .neq (.t 45) (.c (.int .i64 1))⟩,
  ⟨(some 47), none, .pick (.t 44) (.c (.bool true)) (.t 46)⟩,
  ⟨(some 48), none, .mov (.t 47)⟩,
  ⟨(some 49), (some (48, false)), .mov (.t 4)⟩,
  ⟨(some 50), (some (48, false)), .bin .neq (.t 49) (.c (.int .i64 0))⟩,
  ⟨(some 51), none, .pick (.t 48) (.c (.bool true)) (.t 50)⟩,
  ⟨(some 52), none, .mov (.t 51)⟩,
  ⟨(some 53), (some (52, false)), .mov (.t 6)⟩,
  ⟨(some 54), (some (52, false)), .bin .neq (.t 53) (.c (.int .i64 0))⟩,
  ⟨(some 55), none, .pick (.t 52) (.c (.bool true)) (.t 54)⟩,
  ⟨(some 56), none, .mov (.t 55)⟩,
  ⟨(some 57), (some (56, false)), .mov (.t 9)⟩,
  ⟨(some 58), (some (56, false)), .bin .neq (.t 57) (.c (.int .i64 12))⟩,
  ⟨(some 59), none, .pick (.t 56) (.c (.bool true)) (.t 58)⟩,
  ⟨(some 60), none, .mov (.t 59)⟩,
  ⟨(some 61), (some (60, false)), .mov (.t 1)⟩,
  ⟨(some 62), (some (60, false)), .mov (.t 2)⟩,
  ⟨(some 63), (some (60, false)), .call 23 [(.t 61), (.t 62)]⟩,
  ⟨(some 64), (some (60, false)), .bin .neq (.t 63) (.c (.int .i64 0))⟩,
  ⟨(some 65), none, .pick (.t 60) (.c (.bool true)) (.t 64)⟩,
  ⟨(some 66), none, .mov (.t 65)⟩,
  ⟨(some 67), (some (66, false)), .mov (.t 1)⟩,
  ⟨(some 68), (some (66, false)), .mov (.t 2)⟩,
  ⟨(some 69), (some (66, false)), .call 23 [(.t 67), (.t 68)]⟩,
  ⟨(some 70), (some (66, false)), .bin .neq (.t 69) (.c (.int .i64 10))⟩,
  ⟨(some 71), none, .pick (.t 66) (.c (.bool true)) (.t 70)⟩]
@[go_sem] def scriptinglaw38_awake_r9 : List AI := [
  ⟨(some 0), none, .mov (.c (.bool false))⟩]
@[go_sem] def scriptinglaw38_awake_r10 : List AI := [
  ⟨(some 72), none, .mov (.t 1)⟩,
  ⟨(some 73), none, .build [(.int .i64 0), (.int .i64 0), (.int .i64 0), (.int .i64 0), (.int .i64 0)] [(0, 1, (.c (.int .i64 18)))]⟩,
  ⟨(some 74), none, .call 21 [(.t 72), (.t 73), (.c (.int .i64 3))]⟩]
@[go_sem] def scriptinglaw38_awake_r11 : List AI := [
  ⟨(some 76), none, .mov (.t 1)⟩,
  ⟨(some 77), none, .call 17 [(.t 76)]⟩,
  ⟨(some 75), none, .mov (.t 77)⟩,
  ⟨(some 78), none, .ext 0 (.t 75)⟩,
  ⟨(some 79), none, .ext 1 (.t 75)⟩,
  ⟨(some 80), none, .ext 2 (.t 75)⟩,
  ⟨(some 10), none, .mov (.t 78)⟩,
  ⟨(some 11), none, .mov (.t 79)⟩,
  ⟨(some 12), none, .mov (.t 80)⟩]
@[go_sem] def scriptinglaw38_awake_r12 : List AI := [
  ⟨(some 81), none, .mov (.t 12)⟩,
  ⟨(some 82), none, .bin .eql (.t 81) (.c (.int .i64 0))⟩,
  ⟨(some 83), none, .mov (.t 82)⟩,
  ⟨(some 84), (some (83, true)), .mov (.t 10)⟩,
  ⟨(some 85), (some (83, true)), .build [(.int .i64 0), (.int .i64 0), (.int .i64 0), (.int .i64 0), (.int .i64 0)] [(0, 1, (.c (.int .i64 14))), (2, 1, (.c (.int .i64 2)))]⟩,
  ⟨(some 86), (some (83, true)), .build [(.int .i64 0), (.int .i64 0), (.int .i64 0), (.int .i64 0), (.int .i64 0)] [(0, 1, (.c (.int .i64 29)))]⟩,
  ⟨(some 87), (some (83, true)), .build [(.int .i64 0), (.int .i64 0), (.int .i64 0), (.int .i64 0), (.int .i64 0)] [(0, 1, (.c (.int .i64 18)))]⟩,
  ⟨(some 88), (some (83, true)), .mkisl 5 [(.t 85), (.t 86), (.t 87)]⟩,
  ⟨(some 89), (some (83, true)), .mov (.t 11)⟩,
  ⟨(some 90), (some (83, true)), .mkisl 1 [(.c (.int .i64 1)), (.c (.int .i64 2)), (.c (.int .i64 3))]⟩,
  ⟨(some 91), (some (83, true)), .call 19 [(.t 84), (.t 88), (.t 89), (.t 90)]⟩,
  ⟨(some 92), none, .pick (.t 83) (.t 91) (.c (.bool false))⟩,
  ⟨(some 93), none, .mov (.t 92)⟩,
  ⟨(some 94), (some (93, true)), .mov (.t 1)⟩,
  ⟨(some 95), (some (93, true)), .call 15 [(.t 94)]⟩,
  ⟨(some 96), (some (93, true)), .bin .eql (.t 95) (.c (.int .i64 3))⟩,
  ⟨(some 97), none, .pick (.t 93) (.t 96) (.c (.bool false))⟩,
  ⟨(some 0), none, .mov (.t 97)⟩]
@[go_sem] def scriptinglaw38_awake_c : AC := .seq (.ops [scriptinglaw38_awake_r0]) (.seq (.ops [scriptinglaw38_awake_r1]) (.seq (.seq (.ops [scriptinglaw38_awake_r2]) (.cond (.t 20) (.seq (.ops [scriptinglaw38_awake_r3]) (.ret)) (.skip))) (.seq (.ops [scriptinglaw38_awake_r4]) (.seq (.ops [scriptinglaw38_awake_r5]) (.seq (.ops [scriptinglaw38_awake_r6]) (.seq (.ops [scriptinglaw38_awake_r7]) (.seq (.seq (.ops [scriptinglaw38_awake_r8]) (.cond (.t 71) (.seq (.ops [scriptinglaw38_awake_r9]) (.ret)) (.skip))) (.seq (.ops [scriptinglaw38_awake_r10]) (.seq (.ops [scriptinglaw38_awake_r11]) (.seq (.ops [scriptinglaw38_awake_r12]) (.ret)))))))))))
theorem scriptinglaw38_awake_ok : compF Tryd.prog 10 = some (98, scriptinglaw38_awake_c, [.t 0]) := by kernel_rfl

@[go_sem] def labels_New_r0 : List AI := [
  ⟨(some 0), none, .mov (.c .nilp)⟩]
@[go_sem] def labels_New_r1 : List AI := [
  ⟨(some 1), none, .mkmap 110001⟩,
  ⟨(some 2), none, .build [.nils, .nils, .nilm] [(2, 1, (.t 1))]⟩,
  ⟨(some 3), none, .box 110003 3 (.t 2)⟩,
  ⟨(some 0), none, .mov (.t 3)⟩]
@[go_sem] def labels_New_c : AC := .seq (.ops [labels_New_r0]) (.seq (.ops [labels_New_r1]) (.ret))
theorem labels_New_ok : compF Tryd.prog 11 = some (4, labels_New_c, [.t 0]) := by kernel_rfl

@[go_sem] def scriptingref38_New_r0 : List AI := [
  ⟨(some 0), none, .mov (.c .nilp)⟩]
@[go_sem] def scriptingref38_New_r1 : List AI := [
  ⟨(some 1), none, .build [.nils, .nils, .nils, .nils] []⟩,
  ⟨(some 2), none, .box 120002 4 (.t 1)⟩,
  ⟨(some 0), none, .mov (.t 2)⟩]
@[go_sem] def scriptingref38_New_c : AC := .seq (.ops [scriptingref38_New_r0]) (.seq (.ops [scriptingref38_New_r1]) (.ret))
theorem scriptingref38_New_ok : compF Tryd.prog 12 = some (3, scriptingref38_New_c, [.t 0]) := by kernel_rfl

@[go_sem] def scriptinglaw38_program_r0 : List AI := [
  ⟨(some 3), none, .box 130003 8 (.t 1)⟩,
  ⟨(some 4), none, .mov (.c (.int .i64 0))⟩,
  ⟨(some 5), none, .mov (.c (.int .i64 0))⟩]
@[go_sem] def scriptinglaw38_program_r1 : List AI := [
  ⟨(some 6), none, .faddr 0 (.t 3)⟩,
  ⟨(some 7), none, .load 1 false (.t 6)⟩]
@[go_sem] def scriptinglaw38_program_r2 : List AI := [
  ⟨(some 9), none, .bin .eql (.t 7) (.c (.int .i64 0))⟩,
  ⟨(some 8), none, .mov (.t 9)⟩]
@[go_sem] def scriptinglaw38_program_r3 : List AI := [
  ⟨(some 10), none, .mov (.t 0)⟩,
  ⟨(some 11), none, .faddr 1 (.t 3)⟩,
  ⟨(some 12), none, .load 5 true (.t 11)⟩,
  ⟨(some 13), none, .faddr 6 (.t 3)⟩,
  ⟨(some 14), none, .load 1 false (.t 13)⟩,
  ⟨(some 15), none, .call 21 [(.t 10), (.t 12), (.t 14)]⟩,
  ⟨(some 16), none, .ext 0 (.t 15)⟩,
  ⟨(some 17), none, .ext 1 (.t 15)⟩,
  ⟨(some 4), none, .mov (.t 16)⟩,
  ⟨(some 5), none, .mov (.t 17)⟩]
@[go_sem] def scriptinglaw38_program_r4 : List AI := [
  ⟨(some 19), none, .bin .eql (.t 7) (.c (.int .i64 1))⟩,
  ⟨(some 18), none, .mov (.t 19)⟩]
@[go_sem] def scriptinglaw38_program_r5 : List AI := [
  ⟨(some 20), none, .mov (.t 0)⟩,
  ⟨(some 21), none, .faddr 1 (.t 3)⟩,
  ⟨(some 22), none, .load 5 true (.t 21)⟩,
  ⟨(some 23), none, .faddr 6 (.t 3)⟩,
  ⟨(some 24), none, .load 1 false (.t 23)⟩,
  ⟨(some 25), none, .faddr 7 (.t 3)⟩,
  ⟨(some 26), none, .load 1 false (.t 25)⟩,
  ⟨(some 27), none, .call 25 [(.t 20), (.t 22), (.t 24), (.t 26)]⟩,
  ⟨(some 28), none, .ext 0 (.t 27)⟩,
  ⟨(some 29), none, .ext 1 (.t 27)⟩,
  ⟨(some 4), none, .mov (.t 28)⟩,
  ⟨(some 5), none, .mov (.t 29)⟩]
@[go_sem] def scriptinglaw38_program_r6 : List AI := [
  ⟨(some 31), none, .bin .eql (.t 7) (.c (.int .i64 2))⟩,
  ⟨(some 30), none, .mov (.t 31)⟩]
@[go_sem] def scriptinglaw38_program_r7 : List AI := [
  ⟨(some 32), none, .mov (.t 0)⟩,
  ⟨(some 33), none, .call 24 [(.t 32)]⟩,
  ⟨(some 4), none, .mov (.t 33)⟩,
  ⟨(some 5), none, .mov (.c (.int .i64 0))⟩]
@[go_sem] def scriptinglaw38_program_r8 : List AI := [
  ⟨(some 34), none, .mov (.t 0)⟩,
  ⟨(some 35), none, .faddr 7 (.t 3)⟩,
  ⟨(some 36), none, .load 1 false (.t 35)⟩,
  ⟨(some 37), none, .call 23 [(.t 34), (.t 36)]⟩,
  ⟨(some 4), none, .mov (.c (.int .i64 0))⟩,
  ⟨(some 5), none, .mov (.t 37)⟩]
@[go_sem] def scriptinglaw38_program_c : AC := .seq (.ops [scriptinglaw38_program_r0]) (.seq (.seq (.ops [scriptinglaw38_program_r1]) (.block 0 (.seq (.ops [scriptinglaw38_program_r2]) (.cond (.t 8) (.seq (.ops [scriptinglaw38_program_r3]) (.ret)) (.seq (.ops [scriptinglaw38_program_r4]) (.cond (.t 18) (.seq (.ops [scriptinglaw38_program_r5]) (.ret)) (.seq (.ops [scriptinglaw38_program_r6]) (.cond (.t 30) (.seq (.ops [scriptinglaw38_program_r7]) (.ret)) (.skip))))))))) (.seq (.ops [scriptinglaw38_program_r8]) (.ret)))
theorem scriptinglaw38_program_ok : compF Tryd.prog 13 = some (38, scriptinglaw38_program_c, [.t 4, .t 5]) := by kernel_rfl

@[go_sem] def scriptinglaw38_document_r0 : List AI := [
  ⟨(some 3), none, .box 140003 8 (.t 1)⟩,
  ⟨(some 4), none, .mov (.c (.int .i64 0))⟩,
  ⟨(some 5), none, .mov (.c (.int .i64 0))⟩]
@[go_sem] def scriptinglaw38_document_r1 : List AI := [
  ⟨(some 6), none, .faddr 0 (.t 3)⟩,
  ⟨(some 7), none, .load 1 false (.t 6)⟩]
@[go_sem] def scriptinglaw38_document_r2 : List AI := [
  ⟨(some 9), none, .bin .eql (.t 7) (.c (.int .i64 0))⟩,
  ⟨(some 8), none, .mov (.t 9)⟩]
@[go_sem] def scriptinglaw38_document_r3 : List AI := [
  ⟨(some 10), none, .mov (.t 0)⟩,
  ⟨(some 11), none, .faddr 1 (.t 3)⟩,
  ⟨(some 12), none, .load 5 true (.t 11)⟩,
  ⟨(some 13), none, .faddr 6 (.t 3)⟩,
  ⟨(some 14), none, .load 1 false (.t 13)⟩,
  ⟨(some 15), none, .call 26 [(.t 10), (.t 12), (.t 14)]⟩,
  ⟨(some 16), none, .ext 0 (.t 15)⟩,
  ⟨(some 17), none, .ext 1 (.t 15)⟩,
  ⟨(some 4), none, .mov (.t 16)⟩,
  ⟨(some 5), none, .mov (.t 17)⟩]
@[go_sem] def scriptinglaw38_document_r4 : List AI := [
  ⟨(some 19), none, .bin .eql (.t 7) (.c (.int .i64 1))⟩,
  ⟨(some 18), none, .mov (.t 19)⟩]
@[go_sem] def scriptinglaw38_document_r5 : List AI := [
  ⟨(some 20), none, .mov (.t 0)⟩,
  ⟨(some 21), none, .faddr 1 (.t 3)⟩,
  ⟨(some 22), none, .load 5 true (.t 21)⟩,
  ⟨(some 23), none, .faddr 6 (.t 3)⟩,
  ⟨(some 24), none, .load 1 false (.t 23)⟩,
  ⟨(some 25), none, .faddr 7 (.t 3)⟩,
  ⟨(some 26), none, .load 1 false (.t 25)⟩,
  ⟨(some 27), none, .call 27 [(.t 20), (.t 22), (.t 24), (.t 26)]⟩,
  ⟨(some 28), none, .ext 0 (.t 27)⟩,
  ⟨(some 29), none, .ext 1 (.t 27)⟩,
  ⟨(some 4), none, .mov (.t 28)⟩,
  ⟨(some 5), none, .mov (.t 29)⟩]
@[go_sem] def scriptinglaw38_document_r6 : List AI := [
  ⟨(some 31), none, .bin .eql (.t 7) (.c (.int .i64 2))⟩,
  ⟨(some 30), none, .mov (.t 31)⟩]
@[go_sem] def scriptinglaw38_document_r7 : List AI := [
  ⟨(some 32), none, .mov (.t 0)⟩,
  ⟨(some 33), none, .call 28 [(.t 32)]⟩,
  ⟨(some 4), none, .mov (.t 33)⟩,
  ⟨(some 5), none, .mov (.c (.int .i64 0))⟩]
@[go_sem] def scriptinglaw38_document_r8 : List AI := [
  ⟨(some 34), none, .mov (.t 0)⟩,
  ⟨(some 35), none, .faddr 7 (.t 3)⟩,
  ⟨(some 36), none, .load 1 false (.t 35)⟩,
  ⟨(some 37), none, .call 29 [(.t 34), (.t 36)]⟩,
  ⟨(some 4), none, .mov (.c (.int .i64 0))⟩,
  ⟨(some 5), none, .mov (.t 37)⟩]
@[go_sem] def scriptinglaw38_document_c : AC := .seq (.ops [scriptinglaw38_document_r0]) (.seq (.seq (.ops [scriptinglaw38_document_r1]) (.block 0 (.seq (.ops [scriptinglaw38_document_r2]) (.cond (.t 8) (.seq (.ops [scriptinglaw38_document_r3]) (.ret)) (.seq (.ops [scriptinglaw38_document_r4]) (.cond (.t 18) (.seq (.ops [scriptinglaw38_document_r5]) (.ret)) (.seq (.ops [scriptinglaw38_document_r6]) (.cond (.t 30) (.seq (.ops [scriptinglaw38_document_r7]) (.ret)) (.skip))))))))) (.seq (.ops [scriptinglaw38_document_r8]) (.ret)))
theorem scriptinglaw38_document_ok : compF Tryd.prog 14 = some (38, scriptinglaw38_document_c, [.t 4, .t 5]) := by kernel_rfl

@[go_sem] def labels_Code_Len_r0 : List AI := [
  ⟨(some 2), none, .mov (.c (.int .i64 0))⟩]
@[go_sem] def labels_Code_Len_r1 : List AI := [
  ⟨(some 3), none, .mov (.t 0)⟩,
  ⟨(some 4), none, .eqp 0 false (.t 3) (.c .nilp)⟩]
@[go_sem] def labels_Code_Len_r2 : List AI := [
  ⟨(some 2), none, .mov (.c (.int .i64 0))⟩]
@[go_sem] def labels_Code_Len_r3 : List AI := [
  ⟨(some 5), none, .mov (.t 0)⟩,
  ⟨(some 6), none, .nilck (.t 5)⟩,
  ⟨(some 7), none, .faddr 0 (.t 6)⟩,
  ⟨(some 8), none, .load 1 false (.t 7)⟩,
  ⟨(some 9), none, .len 0 (.t 8)⟩,
  ⟨(some 2), none, .mov (.t 9)⟩]
@[go_sem] def labels_Code_Len_c : AC := .seq (.ops [labels_Code_Len_r0]) (.seq (.seq (.ops [labels_Code_Len_r1]) (.cond (.t 4) (.seq (.ops [labels_Code_Len_r2]) (.ret)) (.skip))) (.seq (.ops [labels_Code_Len_r3]) (.ret)))
theorem labels_Code_Len_ok : compF Tryd.prog 15 = some (10, labels_Code_Len_c, [.t 2]) := by kernel_rfl

@[go_sem] def scriptingref38_Code_Len_r0 : List AI := [
  ⟨(some 2), none, .mov (.c (.int .i64 0))⟩]
@[go_sem] def scriptingref38_Code_Len_r1 : List AI := [
  ⟨(some 3), none, .mov (.t 0)⟩,
  ⟨(some 4), none, .eqp 0 false (.t 3) (.c .nilp)⟩]
@[go_sem] def scriptingref38_Code_Len_r2 : List AI := [
  ⟨(some 2), none, .mov (.c (.int .i64 0))⟩]
@[go_sem] def scriptingref38_Code_Len_r3 : List AI := [
  ⟨(some 5), none, .mov (.t 0)⟩,
  ⟨(some 6), none, .nilck (.t 5)⟩,
  ⟨(some 7), none, .faddr 0 (.t 6)⟩,
  ⟨(some 8), none, .load 1 false (.t 7)⟩,
  ⟨(some 9), none, .len 0 (.t 8)⟩,
  ⟨(some 2), none, .mov (.t 9)⟩]
@[go_sem] def scriptingref38_Code_Len_c : AC := .seq (.ops [scriptingref38_Code_Len_r0]) (.seq (.seq (.ops [scriptingref38_Code_Len_r1]) (.cond (.t 4) (.seq (.ops [scriptingref38_Code_Len_r2]) (.ret)) (.skip))) (.seq (.ops [scriptingref38_Code_Len_r3]) (.ret)))
theorem scriptingref38_Code_Len_ok : compF Tryd.prog 16 = some (10, scriptingref38_Code_Len_c, [.t 2]) := by kernel_rfl

@[go_sem] def labels_Code_Finish_r0 : List AI := [
  ⟨(some 2), none, .mov (.c .nils)⟩,
  ⟨(some 3), none, .mov (.c .nils)⟩,
  ⟨(some 4), none, .mov (.c (.int .i64 0))⟩]
@[go_sem] def labels_Code_Finish_r1 : List AI := [
  ⟨(some 9), none, .mov (.t 0)⟩,
  ⟨(some 10), none, .eqp 0 false (.t 9) (.c .nilp)⟩]
@[go_sem] def labels_Code_Finish_r2 : List AI := [
  ⟨(some 2), none, .mov (.c .nils)⟩,
  ⟨(some 3), none, .mov (.c .nils)⟩,
  ⟨(some 4), none, .mov (.c (.int .i64 1))⟩]
@[go_sem] def labels_Code_Finish_r3 : List AI := [
  ⟨(some 5), none, .box 170005 1 (.c .nils)⟩]
@[go_sem] def labels_Code_Finish_r4 : List AI := [
  ⟨(some 6), none, .box 170006 1 (.c .nils)⟩]
@[go_sem] def labels_Code_Finish_r5 : List AI := [
  ⟨(some 11), none, .mov (.t 0)⟩,
  ⟨(some 12), none, .nilck (.t 11)⟩,
  ⟨(some 13), none, .faddr 0 (.t 12)⟩,
  ⟨(some 14), none, .load 1 false (.t 13)⟩,
  ⟨(some 15), none, .len 0 (.t 14)⟩,
  ⟨(some 16), none, .mov (.c (.int .i64 0))⟩]
@[go_sem] def labels_Code_Finish_r6 : List AI := [
  ⟨(some 17), none, .bin .lss (.t 16) (.t 15)⟩]
@[go_sem] def labels_Code_Finish_r7 : List AI := [
  ⟨(some 18), none, .iaddr 7 (.t 14) (.t 16)⟩,
  ⟨(some 19), none, .load 7 true (.t 18)⟩,
  ⟨(some 8), none, .box 170008 7 (.c (.agg [(.int .i64 0), (.int .i64 0), (.int .i64 0), (.int .i64 0), (.int .i64 0), (.int .i64 0), (.int .i64 0)]))⟩,
  ⟨none, none, .store 7 (.t 8) (.t 19)⟩]
@[go_sem] def labels_Code_Finish_r8 : List AI := [
  ⟨(some 20), none, .faddr 6 (.t 8)⟩,
  ⟨(some 21), none, .load 1 false (.t 20)⟩,
  ⟨(some 22), none, .bin .geq (.t 21) (.c (.int .i64 0))⟩]
@[go_sem] def labels_Code_Finish_r9 : List AI := [
  ⟨(some 23), none, .mov (.t 0)⟩,
  ⟨(some 24), none, .nilck (.t 23)⟩,
  ⟨(some 25), none, .faddr 2 (.t 24)⟩,
  ⟨(some 26), none, .load 1 false (.t 25)⟩,
  ⟨(some 27), none, .faddr 6 (.t 8)⟩,
  ⟨(some 28), none, .load 1 false (.t 27)⟩,
  ⟨(some 29), none, .look 0 (.bool false) false (.t 26) (.t 28)⟩,
  ⟨(some 30), none, .mov (.t 29)⟩,
  ⟨(some 31), (some (30, false)), .mov (.t 0)⟩,
  ⟨(some 32), (some (30, false)), .nilck (.t 31)⟩,
  ⟨(some 33), (some (30, false)), .faddr 1 (.t 32)⟩,
  ⟨(some 34), (some (30, false)), .load 1 false (.t 33)⟩,
  ⟨(some 35), (some (30, false)), .faddr 6 (.t 8)⟩,
  ⟨(some 36), (some (30, false)), .load 1 false (.t 35)⟩,
  ⟨(some 37), (some (30, false)), .iaddr 1 (.t 34) (.t 36)⟩,
  ⟨(some 38), (some (30, false)), .load 1 false (.t 37)⟩,
  ⟨(some 39), (some (30, false)), .mov (.t 0)⟩,
  ⟨(some 40), (some (30, false)), .nilck (.t 39)⟩,
  ⟨(some 41), (some (30, false)), .faddr 0 (.t 40)⟩,
  ⟨(some 42), (some (30, false)), .load 1 false (.t 41)⟩,
  ⟨(some 43), (some (30, false)), .len 0 (.t 42)⟩,
  ⟨(some 44), (some (30, false)), .bin .geq (.t 38) (.t 43)⟩,
  ⟨(some 45), none, .pick (.t 30) (.c (.bool true)) (.t 44)⟩]
@[go_sem] def labels_Code_Finish_r10 : List AI := [
  ⟨(some 2), none, .mov (.c .nils)⟩,
  ⟨(some 3), none, .mov (.c .nils)⟩,
  ⟨(some 4), none, .mov (.c (.int .i64 12))⟩]
@[go_sem] def labels_Code_Finish_r11 : List AI := [
  ⟨(some 46), none, .mov (.t 0)⟩,
  ⟨(some 47), none, .nilck (.t 46)⟩,
  ⟨(some 48), none, .faddr 1 (.t 47)⟩,
  ⟨(some 49), none, .load 1 false (.t 48)⟩,
  ⟨(some 50), none, .faddr 6 (.t 8)⟩,
  ⟨(some 51), none, .load 1 false (.t 50)⟩,
  ⟨(some 52), none, .iaddr 1 (.t 49) (.t 51)⟩,
  ⟨(some 53), none, .load 1 false (.t 52)⟩,
  ⟨(some 54), none, .faddr 0 (.t 8)⟩,
  ⟨(some 55), none, .faddr 2 (.t 54)⟩,
  ⟨none, none, .store 1 (.t 55) (.t 53)⟩]
@[go_sem] def labels_Code_Finish_r12 : List AI := [
  ⟨(some 56), none, .faddr 0 (.t 8)⟩,
  ⟨(some 57), none, .load 5 true (.t 56)⟩,
  ⟨(some 58), none, .call 30 [(.t 5), (.t 57)]⟩]
@[go_sem] def labels_Code_Finish_r13 : List AI := [
  ⟨(some 59), none, .faddr 5 (.t 8)⟩,
  ⟨(some 60), none, .load 1 false (.t 59)⟩,
  ⟨(some 61), none, .call 31 [(.t 6), (.t 60)]⟩]
@[go_sem] def labels_Code_Finish_r14 : List AI := [
  ⟨(some 62), none, .bin .add (.t 16) (.c (.int .i64 1))⟩,
  ⟨(some 16), none, .mov (.t 62)⟩]
def labels_Code_Finish_l0 : AC := .seq (.ops [labels_Code_Finish_r6]) (.seq (.cond (.t 17) (.skip) (.exit 0)) (.seq (.block 1 (.seq (.ops [labels_Code_Finish_r7]) (.seq (.seq (.ops [labels_Code_Finish_r8]) (.cond (.t 22) (.seq (.seq (.ops [labels_Code_Finish_r9]) (.cond (.t 45) (.seq (.ops [labels_Code_Finish_r10]) (.ret)) (.skip))) (.ops [labels_Code_Finish_r11])) (.skip))) (.seq (.ops [labels_Code_Finish_r12]) (.ops [labels_Code_Finish_r13]))))) (.ops [labels_Code_Finish_r14])))
theorem labels_Code_Finish_l0_eq : labels_Code_Finish_l0 = .seq (.ops [labels_Code_Finish_r6]) (.seq (.cond (.t 17) (.skip) (.exit 0)) (.seq (.block 1 (.seq (.ops [labels_Code_Finish_r7]) (.seq (.seq (.ops [labels_Code_Finish_r8]) (.cond (.t 22) (.seq (.seq (.ops [labels_Code_Finish_r9]) (.cond (.t 45) (.seq (.ops [labels_Code_Finish_r10]) (.ret)) (.skip))) (.ops [labels_Code_Finish_r11])) (.skip))) (.seq (.ops [labels_Code_Finish_r12]) (.ops [labels_Code_Finish_r13]))))) (.ops [labels_Code_Finish_r14]))) := rfl
@[go_sem] def labels_Code_Finish_r15 : List AI := [
  ⟨(some 63), none, .load 1 false (.t 5)⟩,
  ⟨(some 64), none, .load 1 false (.t 6)⟩,
  ⟨(some 2), none, .mov (.t 63)⟩,
  ⟨(some 3), none, .mov (.t 64)⟩,
  ⟨(some 4), none, .mov (.c (.int .i64 0))⟩]
@[go_sem] def labels_Code_Finish_c : AC := .seq (.ops [labels_Code_Finish_r0]) (.seq (.seq (.ops [labels_Code_Finish_r1]) (.cond (.t 10) (.seq (.ops [labels_Code_Finish_r2]) (.ret)) (.skip))) (.seq (.ops [labels_Code_Finish_r3]) (.seq (.ops [labels_Code_Finish_r4]) (.seq (.seq (.ops [labels_Code_Finish_r5]) (.block 0 (.loop labels_Code_Finish_l0))) (.seq (.ops [labels_Code_Finish_r15]) (.ret))))))
theorem labels_Code_Finish_ok : compF Tryd.prog 17 = some (65, labels_Code_Finish_c, [.t 2, .t 3, .t 4]) := by kernel_rfl

@[go_sem] def scriptingref38_Code_Finish_r0 : List AI := [
  ⟨(some 2), none, .mov (.c .nils)⟩,
  ⟨(some 3), none, .mov (.c .nils)⟩,
  ⟨(some 4), none, .mov (.c (.int .i64 0))⟩]
@[go_sem] def scriptingref38_Code_Finish_r1 : List AI := [
  ⟨(some 8), none, .mov (.t 0)⟩,
  ⟨(some 9), none, .eqp 0 false (.t 8) (.c .nilp)⟩]
@[go_sem] def scriptingref38_Code_Finish_r2 : List AI := [
  ⟨(some 2), none, .mov (.c .nils)⟩,
  ⟨(some 3), none, .mov (.c .nils)⟩,
  ⟨(some 4), none, .mov (.c (.int .i64 1))⟩]
@[go_sem] def scriptingref38_Code_Finish_r3 : List AI := [
  ⟨(some 10), none, .mkrow 180010 5 []⟩,
  ⟨(some 5), none, .mov (.t 10)⟩]
@[go_sem] def scriptingref38_Code_Finish_r4 : List AI := [
  ⟨(some 6), none, .mov (.c (.int .i64 0))⟩]
@[go_sem] def scriptingref38_Code_Finish_r5 : List AI := [
  ⟨(some 11), none, .mov (.t 6)⟩,
  ⟨(some 12), none, .mov (.t 0)⟩,
  ⟨(some 13), none, .nilck (.t 12)⟩,
  ⟨(some 14), none, .faddr 0 (.t 13)⟩,
  ⟨(some 15), none, .load 1 false (.t 14)⟩,
  ⟨(some 16), none, .len 0 (.t 15)⟩,
  ⟨(some 17), none, .bin .lss (.t 11) (.t 16)⟩]
@[go_sem] def scriptingref38_Code_Finish_r6 : List AI := [
  ⟨(some 20), none, .mov (.t 0)⟩,
  ⟨(some 21), none, .nilck (.t 20)⟩,
  ⟨(some 22), none, .faddr 0 (.t 21)⟩,
  ⟨(some 23), none, .load 1 false (.t 22)⟩,
  ⟨(some 24), none, .mov (.t 6)⟩,
  ⟨(some 25), none, .iaddr 5 (.t 23) (.t 24)⟩,
  ⟨(some 26), none, .load 5 true (.t 25)⟩,
  ⟨(some 7), none, .box 180007 5 (.c (.agg [(.int .i64 0), (.int .i64 0), (.int .i64 0), (.int .i64 0), (.int .i64 0)]))⟩,
  ⟨none, none, .store 5 (.t 7) (.t 26)⟩]
@[go_sem] def scriptingref38_Code_Finish_r7 : List AI := [
  ⟨(some 27), none, .mov (.t 0)⟩,
  ⟨(some 28), none, .nilck (.t 27)⟩,
  ⟨(some 29), none, .faddr 2 (.t 28)⟩,
  ⟨(some 30), none, .load 1 false (.t 29)⟩,
  ⟨(some 31), none, .mov (.t 6)⟩,
  ⟨(some 32), none, .iaddr 1 (.t 30) (.t 31)⟩,
  ⟨(some 33), none, .load 1 false (.t 32)⟩,
  ⟨(some 34), none, .bin .geq (.t 33) (.c (.int .i64 0))⟩]
@[go_sem] def scriptingref38_Code_Finish_r8 : List AI := [
  ⟨(some 35), none, .mov (.t 0)⟩,
  ⟨(some 36), none, .nilck (.t 35)⟩,
  ⟨(some 37), none, .faddr 3 (.t 36)⟩,
  ⟨(some 38), none, .load 1 false (.t 37)⟩,
  ⟨(some 39), none, .mov (.t 0)⟩,
  ⟨(some 40), none, .nilck (.t 39)⟩,
  ⟨(some 41), none, .faddr 2 (.t 40)⟩,
  ⟨(some 42), none, .load 1 false (.t 41)⟩,
  ⟨(some 43), none, .mov (.t 6)⟩,
  ⟨(some 44), none, .iaddr 1 (.t 42) (.t 43)⟩,
  ⟨(some 45), none, .load 1 false (.t 44)⟩,
  ⟨(some 46), none, .iaddr 1 (.t 38) (.t 45)⟩,
  ⟨(some 47), none, .load 1 false (.t 46)⟩,
  ⟨(some 48), none, .faddr 2 (.t 7)⟩,
  ⟨none, none, .store 1 (.t 48) (.t 47)⟩]
@[go_sem] def scriptingref38_Code_Finish_r9 : List AI := [
  ⟨(some 49), none, .faddr 2 (.t 7)⟩,
  ⟨(some 50), none, .load 1 false (.t 49)⟩,
  ⟨(some 51), none, .bin .lss (.t 50) (.c (.int .i64 0))⟩,
  ⟨(some 52), none, .mov (.t 51)⟩,
  ⟨(some 53), (some (52, false)), .faddr 2 (.t 7)⟩,
  ⟨(some 54), (some (52, false)), .load 1 false (.t 53)⟩,
  ⟨(some 55), (some (52, false)), .mov (.t 0)⟩,
  ⟨(some 56), (some (52, false)), .nilck (.t 55)⟩,
  ⟨(some 57), (some (52, false)), .faddr 0 (.t 56)⟩,
  ⟨(some 58), (some (52, false)), .load 1 false (.t 57)⟩,
  ⟨(some 59), (some (52, false)), .len 0 (.t 58)⟩,
  ⟨(some 60), (some (52, false)), .bin .geq (.t 54) (.t 59)⟩,
  ⟨(some 61), none, .pick (.t 52) (.c (.bool true)) (.t 60)⟩]
@[go_sem] def scriptingref38_Code_Finish_r10 : List AI := [
  ⟨(some 2), none, .mov (.c .nils)⟩,
  ⟨(some 3), none, .mov (.c .nils)⟩,
  ⟨(some 4), none, .mov (.c (.int .i64 12))⟩]
@[go_sem] def scriptingref38_Code_Finish_r11 : List AI := [
  ⟨(some 62), none, .mov (.t 5)⟩,
  ⟨(some 63), none, .load 5 true (.t 7)⟩,
  ⟨(some 64), none, .mkisl 5 [(.t 63)]⟩,
  ⟨(some 65), none, .app 180065 5 (.t 62) (.t 64)⟩,
  ⟨(some 5), none, .mov (.t 65)⟩]
@[go_sem] def scriptingref38_Code_Finish_r12 : List AI := [
  ⟨(some 18), none, .mov (.t 6)⟩,
  ⟨(some 19), none, .bin .add (.t 18) (.c (.int .i64 1))⟩,
  ⟨(some 6), none, .mov (.t 19)⟩]
def scriptingref38_Code_Finish_l0 : AC := .seq (.seq (.ops [scriptingref38_Code_Finish_r5]) (.cond (.t 17) (.skip) (.exit 0))) (.seq (.block 1 (.seq (.ops [scriptingref38_Code_Finish_r6]) (.seq (.seq (.ops [scriptingref38_Code_Finish_r7]) (.cond (.t 34) (.seq (.ops [scriptingref38_Code_Finish_r8]) (.seq (.ops [scriptingref38_Code_Finish_r9]) (.cond (.t 61) (.seq (.ops [scriptingref38_Code_Finish_r10]) (.ret)) (.skip)))) (.skip))) (.ops [scriptingref38_Code_Finish_r11])))) (.ops [scriptingref38_Code_Finish_r12]))
theorem scriptingref38_Code_Finish_l0_eq : scriptingref38_Code_Finish_l0 = .seq (.seq (.ops [scriptingref38_Code_Finish_r5]) (.cond (.t 17) (.skip) (.exit 0))) (.seq (.block 1 (.seq (.ops [scriptingref38_Code_Finish_r6]) (.seq (.seq (.ops [scriptingref38_Code_Finish_r7]) (.cond (.t 34) (.seq (.ops [scriptingref38_Code_Finish_r8]) (.seq (.ops [scriptingref38_Code_Finish_r9]) (.cond (.t 61) (.seq (.ops [scriptingref38_Code_Finish_r10]) (.ret)) (.skip)))) (.skip))) (.ops [scriptingref38_Code_Finish_r11])))) (.ops [scriptingref38_Code_Finish_r12])) := rfl
@[go_sem] def scriptingref38_Code_Finish_r13 : List AI := [
  ⟨(some 66), none, .mov (.t 5)⟩,
  ⟨(some 67), none, .mkrow 180067 1 []⟩,
  ⟨(some 68), none, .mov (.t 0)⟩,
  ⟨(some 69), none, .nilck (.t 68)⟩,
  ⟨(some 70), none, .faddr 1 (.t 69)⟩,
  ⟨(some 71), none, .load 1 false (.t 70)⟩,
  ⟨(some 72), none, .app 180072 1 (.t 67) (.t 71)⟩,
  ⟨(some 2), none, .mov (.t 66)⟩,
  ⟨(some 3), none, .mov (.t 72)⟩,
  ⟨(some 4), none, .mov (.c (.int .i64 0))⟩]
@[go_sem] def scriptingref38_Code_Finish_c : AC := .seq (.ops [scriptingref38_Code_Finish_r0]) (.seq (.seq (.ops [scriptingref38_Code_Finish_r1]) (.cond (.t 9) (.seq (.ops [scriptingref38_Code_Finish_r2]) (.ret)) (.skip))) (.seq (.ops [scriptingref38_Code_Finish_r3]) (.seq (.seq (.ops [scriptingref38_Code_Finish_r4]) (.block 0 (.loop scriptingref38_Code_Finish_l0))) (.seq (.ops [scriptingref38_Code_Finish_r13]) (.ret)))))
theorem scriptingref38_Code_Finish_ok : compF Tryd.prog 18 = some (73, scriptingref38_Code_Finish_c, [.t 2, .t 3, .t 4]) := by kernel_rfl

@[go_sem] def scriptinglaw38_same_r0 : List AI := [
  ⟨(some 8), none, .mov (.c (.bool false))⟩]
@[go_sem] def scriptinglaw38_same_r1 : List AI := [
  ⟨(some 11), none, .mov (.t 0)⟩,
  ⟨(some 12), none, .len 0 (.t 11)⟩,
  ⟨(some 13), none, .mov (.t 1)⟩,
  ⟨(some 14), none, .len 0 (.t 13)⟩,
  ⟨(some 15), none, .bin .neq (.t 12) (.t 14)⟩,
  ⟨(some 16), none, .mov (.t 15)⟩,
  ⟨(some 17), (some (16, false)), .mov (.t 2)⟩,
  ⟨(some 18), (some (16, false)), .len 0 (.t 17)⟩,
  ⟨(some 19), (some (16, false)), .mov (.t 3)⟩,
  ⟨(some 20), (some (16, false)), .len 0 (.t 19)⟩,
  ⟨(some 21), (some (16, false)), .bin .neq (.t 18) (.t 20)⟩,
  ⟨(some 22), none, .pick (.t 16) (.c (.bool true)) (.t 21)⟩]
@[go_sem] def scriptinglaw38_same_r2 : List AI := [
  ⟨(some 8), none, .mov (.c (.bool false))⟩]
@[go_sem] def scriptinglaw38_same_r3 : List AI := [
  ⟨(some 23), none, .mov (.t 0)⟩,
  ⟨(some 24), none, .len 0 (.t 23)⟩,
  ⟨(some 25), none, .mov (.c (.int .i64 0))⟩]
@[go_sem] def scriptinglaw38_same_r4 : List AI := [
  ⟨(some 26), none, .bin .lss (.t 25) (.t 24)⟩]
@[go_sem] def scriptinglaw38_same_r5 : List AI := [
  ⟨(some 27), none, .mov (.t 25)⟩,
  ⟨(some 9), none, .mov (.t 27)⟩]
@[go_sem] def scriptinglaw38_same_r6 : List AI := [
  ⟨(some 28), none, .mov (.t 0)⟩,
  ⟨(some 29), none, .mov (.t 9)⟩,
  ⟨(some 30), none, .iaddr 5 (.t 28) (.t 29)⟩,
  ⟨(some 31), none, .load 5 true (.t 30)⟩,
  ⟨(some 32), none, .mov (.t 1)⟩,
  ⟨(some 33), none, .mov (.t 9)⟩,
  ⟨(some 34), none, .iaddr 5 (.t 32) (.t 33)⟩,
  ⟨(some 35), none, .load 5 true (.t 34)⟩,
  ⟨(some 36), none, .eqa true (.agg [(0, 1, (.leaf 1)), (1, 1, (.leaf 1)), (2, 1, (.leaf 1)), (3, 1, (.leaf 1)), (4, 1, (.leaf 1))]) (.t 31) (.t 35)⟩]
@[go_sem] def scriptinglaw38_same_r7 : List AI := [
  ⟨(some 8), none, .mov (.c (.bool false))⟩]
@[go_sem] def scriptinglaw38_same_r8 : List AI := [
  ⟨(some 37), none, .bin .add (.t 25) (.c (.int .i64 1))⟩,
  ⟨(some 25), none, .mov (.t 37)⟩]
def scriptinglaw38_same_l0 : AC := .seq (.ops [scriptinglaw38_same_r4]) (.seq (.cond (.t 26) (.skip) (.exit 0)) (.seq (.block 1 (.seq (.ops [scriptinglaw38_same_r5]) (.seq (.ops [scriptinglaw38_same_r6]) (.cond (.t 36) (.seq (.ops [scriptinglaw38_same_r7]) (.ret)) (.skip))))) (.ops [scriptinglaw38_same_r8])))
theorem scriptinglaw38_same_l0_eq : scriptinglaw38_same_l0 = .seq (.ops [scriptinglaw38_same_r4]) (.seq (.cond (.t 26) (.skip) (.exit 0)) (.seq (.block 1 (.seq (.ops [scriptinglaw38_same_r5]) (.seq (.ops [scriptinglaw38_same_r6]) (.cond (.t 36) (.seq (.ops [scriptinglaw38_same_r7]) (.ret)) (.skip))))) (.ops [scriptinglaw38_same_r8]))) := rfl
@[go_sem] def scriptinglaw38_same_r9 : List AI := [
  ⟨(some 38), none, .mov (.t 2)⟩,
  ⟨(some 39), none, .len 0 (.t 38)⟩,
  ⟨(some 40), none, .mov (.c (.int .i64 0))⟩]
@[go_sem] def scriptinglaw38_same_r10 : List AI := [
  ⟨(some 41), none, .bin .lss (.t 40) (.t 39)⟩]
@[go_sem] def scriptinglaw38_same_r11 : List AI := [
  ⟨(some 42), none, .mov (.t 40)⟩,
  ⟨(some 10), none, .mov (.t 42)⟩]
@[go_sem] def scriptinglaw38_same_r12 : List AI := [
  ⟨(some 43), none, .mov (.t 2)⟩,
  ⟨(some 44), none, .mov (.t 10)⟩,
  ⟨(some 45), none, .iaddr 1 (.t 43) (.t 44)⟩,
  ⟨(some 46), none, .load 1 false (.t 45)⟩,
  ⟨(some 47), none, .mov (.t 3)⟩,
  ⟨(some 48), none, .mov (.t 10)⟩,
  ⟨(some 49), none, .iaddr 1 (.t 47) (.t 48)⟩,
  ⟨(some 50), none, .load 1 false (.t 49)⟩,
  ⟨(some 51), none, .bin .neq (.t 46) (.t 50)⟩]
@[go_sem] def scriptinglaw38_same_r13 : List AI := [
  ⟨(some 8), none, .mov (.c (.bool false))⟩]
@[go_sem] def scriptinglaw38_same_r14 : List AI := [
  ⟨(some 52), none, .bin .add (.t 40) (.c (.int .i64 1))⟩,
  ⟨(some 40), none, .mov (.t 52)⟩]
def scriptinglaw38_same_l1 : AC := .seq (.ops [scriptinglaw38_same_r10]) (.seq (.cond (.t 41) (.skip) (.exit 2)) (.seq (.block 3 (.seq (.ops [scriptinglaw38_same_r11]) (.seq (.ops [scriptinglaw38_same_r12]) (.cond (.t 51) (.seq (.ops [scriptinglaw38_same_r13]) (.ret)) (.skip))))) (.ops [scriptinglaw38_same_r14])))
theorem scriptinglaw38_same_l1_eq : scriptinglaw38_same_l1 = .seq (.ops [scriptinglaw38_same_r10]) (.seq (.cond (.t 41) (.skip) (.exit 2)) (.seq (.block 3 (.seq (.ops [scriptinglaw38_same_r11]) (.seq (.ops [scriptinglaw38_same_r12]) (.cond (.t 51) (.seq (.ops [scriptinglaw38_same_r13]) (.ret)) (.skip))))) (.ops [scriptinglaw38_same_r14]))) := rfl
@[go_sem] def scriptinglaw38_same_r15 : List AI := [
  ⟨(some 8), none, .mov (.c (.bool true))⟩]
@[go_sem] def scriptinglaw38_same_c : AC := .seq (.ops [scriptinglaw38_same_r0]) (.seq (.seq (.ops [scriptinglaw38_same_r1]) (.cond (.t 22) (.seq (.ops [scriptinglaw38_same_r2]) (.ret)) (.skip))) (.seq (.seq (.ops [scriptinglaw38_same_r3]) (.block 0 (.loop scriptinglaw38_same_l0))) (.seq (.seq (.ops [scriptinglaw38_same_r9]) (.block 2 (.loop scriptinglaw38_same_l1))) (.seq (.ops [scriptinglaw38_same_r15]) (.ret)))))
theorem scriptinglaw38_same_ok : compF Tryd.prog 19 = some (53, scriptinglaw38_same_c, [.t 8]) := by kernel_rfl

@[go_sem] def opcode_Check_r0 : List AI := [
  ⟨(some 1), none, .box 200001 5 (.t 0)⟩,
  ⟨(some 2), none, .mov (.c (.int .i64 0))⟩]
@[go_sem] def opcode_Check_r1 : List AI := [
  ⟨(some 14), none, .faddr 0 (.t 1)⟩,
  ⟨(some 15), none, .load 1 false (.t 14)⟩,
  ⟨(some 16), none, .call 32 [(.t 15)]⟩,
  ⟨(some 13), none, .mov (.t 16)⟩,
  ⟨(some 17), none, .ext 0 (.t 13)⟩,
  ⟨(some 18), none, .ext 1 (.t 13)⟩,
  ⟨(some 3), none, .box 200003 6 (.c (.agg [(.str []), (.int .i64 0), (.int .i64 0), (.int .i64 0), (.int .i64 0), (.int .i64 0)]))⟩,
  ⟨none, none, .store 6 (.t 3) (.t 17)⟩,
  ⟨(some 4), none, .mov (.t 18)⟩]
@[go_sem] def opcode_Check_r2 : List AI := [
  ⟨(some 19), none, .mov (.t 4)⟩,
  ⟨(some 20), none, .un .not (.t 19)⟩]
@[go_sem] def opcode_Check_r3 : List AI := [
  ⟨(some 2), none, .mov (.c (.int .i64 4))⟩]
@[go_sem] def opcode_Check_r4 : List AI := [
  ⟨(some 22), none, .load 6 true (.t 3)⟩,
  ⟨(some 23), none, .load 5 true (.t 1)⟩,
  ⟨(some 24), none, .call 33 [(.t 22), (.t 23)]⟩,
  ⟨(some 21), none, .mov (.t 24)⟩,
  ⟨(some 25), none, .ext 0 (.t 21)⟩,
  ⟨(some 26), none, .ext 1 (.t 21)⟩,
  ⟨(some 5), none, .box 200005 4 (.c (.agg [(.int .i64 0), (.int .i64 0), (.int .i64 0), (.int .i64 0)]))⟩,
  ⟨(some 6), none, .box 200006 4 (.c (.agg [(.int .i64 0), (.int .i64 0), (.int .i64 0), (.int .i64 0)]))⟩,
  ⟨none, none, .store 4 (.t 5) (.t 25)⟩,
  ⟨none, none, .store 4 (.t 6) (.t 26)⟩]
@[go_sem] def opcode_Check_r5 : List AI := [
  ⟨(some 27), none, .load 4 true (.t 5)⟩,
  ⟨(some 28), none, .mov (.c (.int .i64 0))⟩]
@[go_sem] def opcode_Check_r6 : List AI := [
  ⟨(some 29), none, .bin .lss (.t 28) (.c (.int .i64 4))⟩]
@[go_sem] def opcode_Check_r7 : List AI := [
  ⟨(some 30), none, .mov (.t 28)⟩,
  ⟨(some 31), none, .idxA 4 1 1 false (.t 27) (.t 28)⟩,
  ⟨(some 7), none, .mov (.t 30)⟩,
  ⟨(some 8), none, .mov (.t 31)⟩]
@[go_sem] def opcode_Check_r8 : List AI := [
  ⟨(some 32), none, .mov (.t 8)⟩,
  ⟨(some 33), none, .bin .eql (.t 32) (.c (.int .i64 0))⟩,
  ⟨(some 34), none, .mov (.t 33)⟩,
  ⟨(some 35), (some (34, true)), .mov (.t 7)⟩,
  ⟨(some 36), (some (34, true)), .iaddrA 4 1 (.t 6) (.t 35)⟩,
  ⟨(some 37), (some (34, true)), .load 1 false (.t 36)⟩,
  ⟨(some 38), (some (34, true)), .bin .neq (.t 37) (.c (.int .i64 0))⟩,
  ⟨(some 39), none, .pick (.t 34) (.t 38) (.c (.bool false))⟩]
@[go_sem] def opcode_Check_r9 : List AI := [
  ⟨(some 2), none, .mov (.c (.int .i64 4))⟩]
@[go_sem] def opcode_Check_r10 : List AI := [
  ⟨(some 40), none, .bin .add (.t 28) (.c (.int .i64 1))⟩,
  ⟨(some 28), none, .mov (.t 40)⟩]
def opcode_Check_l0 : AC := .seq (.ops [opcode_Check_r6]) (.seq (.cond (.t 29) (.skip) (.exit 0)) (.seq (.block 1 (.seq (.ops [opcode_Check_r7]) (.seq (.ops [opcode_Check_r8]) (.cond (.t 39) (.seq (.ops [opcode_Check_r9]) (.ret)) (.skip))))) (.ops [opcode_Check_r10])))
theorem opcode_Check_l0_eq : opcode_Check_l0 = .seq (.ops [opcode_Check_r6]) (.seq (.cond (.t 29) (.skip) (.exit 0)) (.seq (.block 1 (.seq (.ops [opcode_Check_r7]) (.seq (.ops [opcode_Check_r8]) (.cond (.t 39) (.seq (.ops [opcode_Check_r9]) (.ret)) (.skip))))) (.ops [opcode_Check_r10]))) := rfl
@[go_sem] def opcode_Check_r11 : List AI := [
  ⟨(some 41), none, .load 4 true (.t 5)⟩,
  ⟨(some 42), none, .mov (.c (.int .i64 0))⟩]
@[go_sem] def opcode_Check_r12 : List AI := [
  ⟨(some 43), none, .bin .lss (.t 42) (.c (.int .i64 4))⟩]
@[go_sem] def opcode_Check_r13 : List AI := [
  ⟨(some 44), none, .mov (.t 42)⟩,
  ⟨(some 45), none, .idxA 4 1 1 false (.t 41) (.t 42)⟩,
  ⟨(some 9), none, .mov (.t 44)⟩,
  ⟨(some 10), none, .mov (.t 45)⟩]
@[go_sem] def opcode_Check_r14 : List AI := [
  ⟨(some 47), none, .mov (.t 10)⟩,
  ⟨(some 48), none, .call 34 [(.t 47)]⟩,
  ⟨(some 46), none, .mov (.t 48)⟩,
  ⟨(some 49), none, .ext 0 (.t 46)⟩,
  ⟨(some 50), none, .ext 1 (.t 46)⟩,
  ⟨(some 11), none, .mov (.t 49)⟩,
  ⟨(some 12), none, .mov (.t 50)⟩]
@[go_sem] def opcode_Check_r15 : List AI := [
  ⟨(some 51), none, .mov (.t 9)⟩,
  ⟨(some 52), none, .iaddrA 4 1 (.t 6) (.t 51)⟩,
  ⟨(some 53), none, .load 1 false (.t 52)⟩,
  ⟨(some 54), none, .mov (.t 11)⟩,
  ⟨(some 55), none, .bin .lss (.t 53) (.t 54)⟩,
  ⟨(some 56), none, .mov (.t 55)⟩,
  ⟨(some 57), (some (56, false)), .mov (.t 9)⟩,
  ⟨(some 58), (some (56, false)), .iaddrA 4 1 (.t 6) (.t 57)⟩,
  ⟨(some 59), (some (56, false)), .load 1 false (.t 58)⟩,
  ⟨(some 60), (some (56, false)), .mov (.t 12)⟩,
  ⟨(some 61), (some (56, false)), .bin .gtr (.t 59) (.t 60)⟩,
  ⟨(some 62), none, .pick (.t 56) (.c (.bool true)) (.t 61)⟩]
@[go_sem] def opcode_Check_r16 : List AI := [
  ⟨(some 2), none, .mov (.c (.int .i64 6))⟩]
@[go_sem] def opcode_Check_r17 : List AI := [
  ⟨(some 63), none, .bin .add (.t 42) (.c (.int .i64 1))⟩,
  ⟨(some 42), none, .mov (.t 63)⟩]
def opcode_Check_l1 : AC := .seq (.ops [opcode_Check_r12]) (.seq (.cond (.t 43) (.skip) (.exit 2)) (.seq (.block 3 (.seq (.ops [opcode_Check_r13]) (.seq (.ops [opcode_Check_r14]) (.seq (.ops [opcode_Check_r15]) (.cond (.t 62) (.seq (.ops [opcode_Check_r16]) (.ret)) (.skip)))))) (.ops [opcode_Check_r17])))
theorem opcode_Check_l1_eq : opcode_Check_l1 = .seq (.ops [opcode_Check_r12]) (.seq (.cond (.t 43) (.skip) (.exit 2)) (.seq (.block 3 (.seq (.ops [opcode_Check_r13]) (.seq (.ops [opcode_Check_r14]) (.seq (.ops [opcode_Check_r15]) (.cond (.t 62) (.seq (.ops [opcode_Check_r16]) (.ret)) (.skip)))))) (.ops [opcode_Check_r17]))) := rfl
@[go_sem] def opcode_Check_r18 : List AI := [
  ⟨(some 64), none, .faddr 1 (.t 3)⟩,
  ⟨(some 65), none, .load 1 false (.t 64)⟩,
  ⟨(some 66), none, .bin .eql (.t 65) (.c (.int .i64 1))⟩,
  ⟨(some 67), none, .mov (.t 66)⟩,
  ⟨(some 68), (some (67, true)), .load 6 true (.t 3)⟩,
  ⟨(some 69), (some (67, true)), .load 5 true (.t 1)⟩,
  ⟨(some 70), (some (67, true)), .call 35 [(.t 68), (.t 69)]⟩,
  ⟨(some 71), (some (67, true)), .bin .geq (.t 70) (.c (.int .i64 4096))⟩,
  ⟨(some 72), none, .pick (.t 67) (.t 71) (.c (.bool false))⟩,
  ⟨(some 73), none, .mov (.t 72)⟩,
  ⟨(some 74), (some (73, false)), .faddr 0 (.t 1)⟩,
  ⟨(some 75), (some (73, false)), .load 1 false (.t 74)⟩,
  ⟨(some 76), (some (73, false)), .bin .eql (.t 75) (.c (.int .i64 3))⟩,
  ⟨(some 77), (some (73, false)), .mov (.t 76)⟩,
  ⟨(some 78), (some (77, true)), .faddr 2 (.t 1)⟩,
  ⟨(some 79), (some (77, true)), .load 1 false (.t 78)⟩,
  ⟨(some 80), (some (77, true)), .faddr 1 (.t 1)⟩,
  ⟨(some 81), (some (77, true)), .load 1 false (.t 80)⟩,
  ⟨(some 82), (some (77, true)), .bin .lss (.t 79) (.t 81)⟩,
  ⟨(some 83), (some (73, false)), .pick (.t 77) (.t 82) (.c (.bool false))⟩,
  ⟨(some 84), none, .pick (.t 73) (.c (.bool true)) (.t 83)⟩]
@[go_sem] def opcode_Check_r19 : List AI := [
  ⟨(some 2), none, .mov (.c (.int .i64 6))⟩]
@[go_sem] def opcode_Check_r20 : List AI := [
  ⟨(some 2), none, .mov (.c (.int .i64 0))⟩]
@[go_sem] def opcode_Check_c : AC := .seq (.ops [opcode_Check_r0]) (.seq (.ops [opcode_Check_r1]) (.seq (.seq (.ops [opcode_Check_r2]) (.cond (.t 20) (.seq (.ops [opcode_Check_r3]) (.ret)) (.skip))) (.seq (.ops [opcode_Check_r4]) (.seq (.seq (.ops [opcode_Check_r5]) (.block 0 (.loop opcode_Check_l0))) (.seq (.seq (.ops [opcode_Check_r11]) (.block 2 (.loop opcode_Check_l1))) (.seq (.seq (.ops [opcode_Check_r18]) (.cond (.t 84) (.seq (.ops [opcode_Check_r19]) (.ret)) (.skip))) (.seq (.ops [opcode_Check_r20]) (.ret))))))))
theorem opcode_Check_ok : compF Tryd.prog 20 = some (85, opcode_Check_c, [.t 2]) := by kernel_rfl

@[go_sem] def labels_Code_Emit_r0 : List AI := [
  ⟨(some 4), none, .box 210004 5 (.t 1)⟩,
  ⟨(some 6), none, .mov (.c (.int .i64 0))⟩,
  ⟨(some 7), none, .mov (.c (.int .i64 0))⟩]
@[go_sem] def labels_Code_Emit_r1 : List AI := [
  ⟨(some 10), none, .mov (.t 0)⟩,
  ⟨(some 11), none, .eqp 0 false (.t 10) (.c .nilp)⟩]
@[go_sem] def labels_Code_Emit_r2 : List AI := [
  ⟨(some 6), none, .mov (.c (.int .i64 0))⟩,
  ⟨(some 7), none, .mov (.c (.int .i64 1))⟩]
@[go_sem] def labels_Code_Emit_r3 : List AI := [
  ⟨(some 12), none, .load 5 true (.t 4)⟩,
  ⟨(some 13), none, .call 20 [(.t 12)]⟩,
  ⟨(some 8), none, .mov (.t 13)⟩]
@[go_sem] def labels_Code_Emit_r4 : List AI := [
  ⟨(some 14), none, .mov (.t 8)⟩,
  ⟨(some 15), none, .bin .neq (.t 14) (.c (.int .i64 0))⟩]
@[go_sem] def labels_Code_Emit_r5 : List AI := [
  ⟨(some 16), none, .mov (.t 8)⟩,
  ⟨(some 6), none, .mov (.c (.int .i64 0))⟩,
  ⟨(some 7), none, .mov (.t 16)⟩]
@[go_sem] def labels_Code_Emit_r6 : List AI := [
  ⟨(some 17), none, .mov (.t 2)⟩,
  ⟨(some 18), none, .bin .lss (.t 17) (.c (.int .i64 0))⟩]
@[go_sem] def labels_Code_Emit_r7 : List AI := [
  ⟨(some 6), none, .mov (.c (.int .i64 0))⟩,
  ⟨(some 7), none, .mov (.c (.int .i64 2))⟩]
@[go_sem] def labels_Code_Emit_r8 : List AI := [
  ⟨(some 19), none, .mov (.t 0)⟩,
  ⟨(some 20), none, .call 36 [(.t 19)]⟩,
  ⟨(some 9), none, .mov (.t 20)⟩]
@[go_sem] def labels_Code_Emit_r9 : List AI := [
  ⟨(some 21), none, .mov (.t 9)⟩,
  ⟨(some 22), none, .bin .neq (.t 21) (.c (.int .i64 0))⟩]
@[go_sem] def labels_Code_Emit_r10 : List AI := [
  ⟨(some 23), none, .mov (.t 9)⟩,
  ⟨(some 6), none, .mov (.c (.int .i64 0))⟩,
  ⟨(some 7), none, .mov (.t 23)⟩]
@[go_sem] def labels_Code_Emit_r11 : List AI := [
  ⟨(some 24), none, .mov (.t 0)⟩,
  ⟨(some 25), none, .nilck (.t 24)⟩,
  ⟨(some 26), none, .faddr 0 (.t 25)⟩,
  ⟨(some 27), none, .load 5 true (.t 4)⟩,
  ⟨(some 28), none, .mov (.t 2)⟩,
  ⟨(some 29), none, .build [(.int .i64 0), (.int .i64 0), (.int .i64 0), (.int .i64 0), (.int .i64 0), (.int .i64 0), (.int .i64 0)] [(0, 5, (.t 27)), (5, 1, (.t 28)), (6, 1, (.c (.int .i64 (-1))))]⟩,
  ⟨(some 30), none, .call 37 [(.t 26), (.t 29)]⟩,
  ⟨(some 6), none, .mov (.t 30)⟩,
  ⟨(some 7), none, .mov (.c (.int .i64 0))⟩]
@[go_sem] def labels_Code_Emit_c : AC := .seq (.ops [labels_Code_Emit_r0]) (.seq (.seq (.ops [labels_Code_Emit_r1]) (.cond (.t 11) (.seq (.ops [labels_Code_Emit_r2]) (.ret)) (.skip))) (.seq (.seq (.ops [labels_Code_Emit_r3]) (.seq (.ops [labels_Code_Emit_r4]) (.cond (.t 15) (.seq (.ops [labels_Code_Emit_r5]) (.ret)) (.skip)))) (.seq (.seq (.ops [labels_Code_Emit_r6]) (.cond (.t 18) (.seq (.ops [labels_Code_Emit_r7]) (.ret)) (.skip))) (.seq (.seq (.ops [labels_Code_Emit_r8]) (.seq (.ops [labels_Code_Emit_r9]) (.cond (.t 22) (.seq (.ops [labels_Code_Emit_r10]) (.ret)) (.skip)))) (.seq (.ops [labels_Code_Emit_r11]) (.ret))))))
theorem labels_Code_Emit_ok : compF Tryd.prog 21 = some (31, labels_Code_Emit_c, [.t 6, .t 7]) := by kernel_rfl

@[go_sem] def flow_Next_r0 : List AI := [
  ⟨(some 2), none, .box 220002 11 (.t 0)⟩,
  ⟨(some 4), none, .mov (.c .nils)⟩]
@[go_sem] def flow_Next_r1 : List AI := [
  ⟨(some 8), none, .mov (.t 1)⟩,
  ⟨(some 9), none, .bin .lss (.t 8) (.c (.int .i64 0))⟩,
  ⟨(some 10), none, .mov (.t 9)⟩,
  ⟨(some 11), (some (10, false)), .mov (.t 1)⟩,
  ⟨(some 12), (some (10, false)), .faddr 5 (.t 2)⟩,
  ⟨(some 13), (some (10, false)), .load 1 false (.t 12)⟩,
  ⟨(some 14), (some (10, false)), .len 0 (.t 13)⟩,
  ⟨(some 15), (some (10, false)), .bin .geq (.t 11) (.t 14)⟩,
  ⟨(some 16), none, .pick (.t 10) (.c (.bool true)) (.t 15)⟩]
@[go_sem] def flow_Next_r2 : List AI := [
  ⟨(some 4), none, .mov (.c .nils)⟩]
@[go_sem] def flow_Next_r3 : List AI := [
  ⟨(some 5), none, .mov (.c .nils)⟩]
@[go_sem] def flow_Next_r4 : List AI := [
  ⟨(some 18), none, .faddr 5 (.t 2)⟩,
  ⟨(some 19), none, .load 1 false (.t 18)⟩,
  ⟨(some 20), none, .mov (.t 1)⟩,
  ⟨(some 21), none, .iaddr 5 (.t 19) (.t 20)⟩,
  ⟨(some 22), none, .load 5 true (.t 21)⟩,
  ⟨(some 23), none, .call 38 [(.t 22)]⟩,
  ⟨(some 17), none, .mov (.t 23)⟩,
  ⟨(some 24), none, .ext 0 (.t 17)⟩,
  ⟨(some 25), none, .ext 1 (.t 17)⟩,
  ⟨(some 6), none, .mov (.t 24)⟩,
  ⟨(some 7), none, .mov (.t 25)⟩]
@[go_sem] def flow_Next_r5 : List AI := [
  ⟨(some 26), none, .mov (.t 7)⟩,
  ⟨(some 27), none, .mov (.t 26)⟩,
  ⟨(some 28), (some (27, true)), .mov (.t 6)⟩,
  ⟨(some 29), (some (27, true)), .bin .geq (.t 28) (.c (.int .i64 0))⟩,
  ⟨(some 30), none, .pick (.t 27) (.t 29) (.c (.bool false))⟩,
  ⟨(some 31), none, .mov (.t 30)⟩,
  ⟨(some 32), (some (31, true)), .mov (.t 6)⟩,
  ⟨(some 33), (some (31, true)), .faddr 5 (.t 2)⟩,
  ⟨(some 34), (some (31, true)), .load 1 false (.t 33)⟩,
  ⟨(some 35), (some (31, true)), .len 0 (.t 34)⟩,
  ⟨(some 36), (some (31, true)), .bin .lss (.t 32) (.t 35)⟩,
  ⟨(some 37), none, .pick (.t 31) (.t 36) (.c (.bool false))⟩]
@[go_sem] def flow_Next_r6 : List AI := [
  ⟨(some 38), none, .mov (.t 5)⟩,
  ⟨(some 39), none, .mov (.t 6)⟩,
  ⟨(some 40), none, .mkisl 1 [(.t 39)]⟩,
  ⟨(some 41), none, .app 220041 1 (.t 38) (.t 40)⟩,
  ⟨(some 5), none, .mov (.t 41)⟩]
@[go_sem] def flow_Next_r7 : List AI := [
  ⟨(some 42), none, .faddr 5 (.t 2)⟩,
  ⟨(some 43), none, .load 1 false (.t 42)⟩,
  ⟨(some 44), none, .mov (.t 1)⟩,
  ⟨(some 45), none, .iaddr 5 (.t 43) (.t 44)⟩,
  ⟨(some 46), none, .load 5 true (.t 45)⟩,
  ⟨(some 47), none, .call 39 [(.t 46)]⟩,
  ⟨(some 48), none, .mov (.t 47)⟩,
  ⟨(some 49), (some (48, true)), .mov (.t 1)⟩,
  ⟨(some 50), (some (48, true)), .bin .add (.t 49) (.c (.int .i64 1))⟩,
  ⟨(some 51), (some (48, true)), .faddr 5 (.t 2)⟩,
  ⟨(some 52), (some (48, true)), .load 1 false (.t 51)⟩,
  ⟨(some 53), (some (48, true)), .len 0 (.t 52)⟩,
  ⟨(some 54), (some (48, true)), .bin .lss (.t 50) (.t 53)⟩,
  ⟨(some 55), none, .pick (.t 48) (.t 54) (.c (.bool false))⟩]
@[go_sem] def flow_Next_r8 : List AI := [
  ⟨(some 56), none, .mov (.t 5)⟩,
  ⟨(some 57), none, .mov (.t 1)⟩,
  ⟨(some 58), none, .bin .add (.t 57) (.c (.int .i64 1))⟩,
  ⟨(some 59), none, .mkisl 1 [(.t 58)]⟩,
  ⟨(some 60), none, .app 220060 1 (.t 56) (.t 59)⟩,
  ⟨(some 5), none, .mov (.t 60)⟩]
@[go_sem] def flow_Next_r9 : List AI := [
  ⟨(some 61), none, .mov (.t 5)⟩,
  ⟨(some 62), none, .call 40 [(.t 61)]⟩]
@[go_sem] def flow_Next_r10 : List AI := [
  ⟨(some 63), none, .mov (.t 5)⟩,
  ⟨(some 64), none, .call 41 [(.t 63)]⟩,
  ⟨(some 4), none, .mov (.t 64)⟩]
@[go_sem] def flow_Next_c : AC := .seq (.ops [flow_Next_r0]) (.seq (.seq (.ops [flow_Next_r1]) (.cond (.t 16) (.seq (.ops [flow_Next_r2]) (.ret)) (.skip))) (.seq (.ops [flow_Next_r3]) (.seq (.seq (.ops [flow_Next_r4]) (.seq (.ops [flow_Next_r5]) (.cond (.t 37) (.ops [flow_Next_r6]) (.skip)))) (.seq (.seq (.ops [flow_Next_r7]) (.cond (.t 55) (.ops [flow_Next_r8]) (.skip))) (.seq (.ops [flow_Next_r9]) (.seq (.ops [flow_Next_r10]) (.ret)))))))
theorem flow_Next_ok : compF Tryd.prog 22 = some (65, flow_Next_c, [.t 4]) := by kernel_rfl

@[go_sem] def labels_Code_Place_r0 : List AI := [
  ⟨(some 4), none, .mov (.c (.int .i64 0))⟩]
@[go_sem] def labels_Code_Place_r1 : List AI := [
  ⟨(some 6), none, .mov (.t 0)⟩,
  ⟨(some 7), none, .eqp 0 false (.t 6) (.c .nilp)⟩,
  ⟨(some 5), none, .mov (.t 7)⟩]
@[go_sem] def labels_Code_Place_r2 : List AI := [
  ⟨(some 4), none, .mov (.c (.int .i64 1))⟩]
@[go_sem] def labels_Code_Place_r3 : List AI := [
  ⟨(some 9), none, .mov (.t 1)⟩,
  ⟨(some 10), none, .bin .lss (.t 9) (.c (.int .i64 0))⟩,
  ⟨(some 11), none, .mov (.t 10)⟩,
  ⟨(some 12), (some (11, false)), .mov (.t 1)⟩,
  ⟨(some 13), (some (11, false)), .mov (.t 0)⟩,
  ⟨(some 14), (some (11, false)), .nilck (.t 13)⟩,
  ⟨(some 15), (some (11, false)), .faddr 1 (.t 14)⟩,
  ⟨(some 16), (some (11, false)), .load 1 false (.t 15)⟩,
  ⟨(some 17), (some (11, false)), .len 0 (.t 16)⟩,
  ⟨(some 18), (some (11, false)), .bin .geq (.t 12) (.t 17)⟩,
  ⟨(some 19), none, .pick (.t 11) (.c (.bool true)) (.t 18)⟩,
  ⟨(some 8), none, .mov (.t 19)⟩]
@[go_sem] def labels_Code_Place_r4 : List AI := [
  ⟨(some 4), none, .mov (.c (.int .i64 12))⟩]
@[go_sem] def labels_Code_Place_r5 : List AI := [
  ⟨(some 21), none, .mov (.t 0)⟩,
  ⟨(some 22), none, .nilck (.t 21)⟩,
  ⟨(some 23), none, .faddr 2 (.t 22)⟩,
  ⟨(some 24), none, .load 1 false (.t 23)⟩,
  ⟨(some 25), none, .mov (.t 1)⟩,
  ⟨(some 26), none, .look 0 (.bool false) false (.t 24) (.t 25)⟩,
  ⟨(some 27), none, .un .not (.t 26)⟩,
  ⟨(some 20), none, .mov (.t 27)⟩]
@[go_sem] def labels_Code_Place_r6 : List AI := [
  ⟨(some 4), none, .mov (.c (.int .i64 10))⟩]
@[go_sem] def labels_Code_Place_r7 : List AI := [
  ⟨(some 28), none, .mov (.t 0)⟩,
  ⟨(some 29), none, .nilck (.t 28)⟩,
  ⟨(some 30), none, .faddr 2 (.t 29)⟩,
  ⟨(some 31), none, .load 1 false (.t 30)⟩,
  ⟨(some 32), none, .mov (.t 1)⟩,
  ⟨none, none, .mdel 0 (.t 31) (.t 32)⟩]
@[go_sem] def labels_Code_Place_r8 : List AI := [
  ⟨(some 33), none, .mov (.t 0)⟩,
  ⟨(some 34), none, .nilck (.t 33)⟩,
  ⟨(some 35), none, .faddr 1 (.t 34)⟩,
  ⟨(some 36), none, .load 1 false (.t 35)⟩,
  ⟨(some 37), none, .mov (.t 1)⟩,
  ⟨(some 38), none, .mov (.t 0)⟩,
  ⟨(some 39), none, .nilck (.t 38)⟩,
  ⟨(some 40), none, .faddr 0 (.t 39)⟩,
  ⟨(some 41), none, .load 1 false (.t 40)⟩,
  ⟨(some 42), none, .len 0 (.t 41)⟩,
  ⟨(some 43), none, .iaddr 1 (.t 36) (.t 37)⟩,
  ⟨none, none, .store 1 (.t 43) (.t 42)⟩]
@[go_sem] def labels_Code_Place_r9 : List AI := [
  ⟨(some 4), none, .mov (.c (.int .i64 0))⟩]
@[go_sem] def labels_Code_Place_c : AC := .seq (.ops [labels_Code_Place_r0]) (.seq (.block 0 (.seq (.ops [labels_Code_Place_r1]) (.cond (.t 5) (.seq (.ops [labels_Code_Place_r2]) (.ret)) (.seq (.ops [labels_Code_Place_r3]) (.cond (.t 8) (.seq (.ops [labels_Code_Place_r4]) (.ret)) (.seq (.ops [labels_Code_Place_r5]) (.cond (.t 20) (.seq (.ops [labels_Code_Place_r6]) (.ret)) (.skip)))))))) (.seq (.ops [labels_Code_Place_r7]) (.seq (.ops [labels_Code_Place_r8]) (.seq (.ops [labels_Code_Place_r9]) (.ret)))))
theorem labels_Code_Place_ok : compF Tryd.prog 23 = some (44, labels_Code_Place_c, [.t 4]) := by kernel_rfl

@[go_sem] def labels_Code_Label_r0 : List AI := [
  ⟨(some 2), none, .mov (.c (.int .i64 0))⟩]
@[go_sem] def labels_Code_Label_r1 : List AI := [
  ⟨(some 4), none, .mov (.t 0)⟩,
  ⟨(some 5), none, .eqp 0 false (.t 4) (.c .nilp)⟩]
@[go_sem] def labels_Code_Label_r2 : List AI := [
  ⟨(some 2), none, .mov (.c (.int .i64 0))⟩]
@[go_sem] def labels_Code_Label_r3 : List AI := [
  ⟨(some 6), none, .mov (.t 0)⟩,
  ⟨(some 7), none, .nilck (.t 6)⟩,
  ⟨(some 8), none, .faddr 1 (.t 7)⟩,
  ⟨(some 9), none, .call 31 [(.t 8), (.c (.int .i64 0))]⟩,
  ⟨(some 3), none, .mov (.t 9)⟩]
@[go_sem] def labels_Code_Label_r4 : List AI := [
  ⟨(some 10), none, .mov (.t 0)⟩,
  ⟨(some 11), none, .nilck (.t 10)⟩,
  ⟨(some 12), none, .faddr 2 (.t 11)⟩,
  ⟨(some 13), none, .load 1 false (.t 12)⟩,
  ⟨(some 14), none, .mov (.t 3)⟩,
  ⟨none, none, .mput 0 (.t 13) (.t 14) (.c (.bool true))⟩]
@[go_sem] def labels_Code_Label_r5 : List AI := [
  ⟨(some 15), none, .mov (.t 3)⟩,
  ⟨(some 2), none, .mov (.t 15)⟩]
@[go_sem] def labels_Code_Label_c : AC := .seq (.ops [labels_Code_Label_r0]) (.seq (.seq (.ops [labels_Code_Label_r1]) (.cond (.t 5) (.seq (.ops [labels_Code_Label_r2]) (.ret)) (.skip))) (.seq (.ops [labels_Code_Label_r3]) (.seq (.ops [labels_Code_Label_r4]) (.seq (.ops [labels_Code_Label_r5]) (.ret)))))
theorem labels_Code_Label_ok : compF Tryd.prog 24 = some (16, labels_Code_Label_c, [.t 2]) := by kernel_rfl

@[go_sem] def labels_Code_Jump_r0 : List AI := [
  ⟨(some 5), none, .box 250005 5 (.t 1)⟩,
  ⟨(some 8), none, .mov (.c (.int .i64 0))⟩,
  ⟨(some 9), none, .mov (.c (.int .i64 0))⟩]
@[go_sem] def labels_Code_Jump_r1 : List AI := [
  ⟨(some 14), none, .mov (.t 0)⟩,
  ⟨(some 15), none, .eqp 0 false (.t 14) (.c .nilp)⟩]
@[go_sem] def labels_Code_Jump_r2 : List AI := [
  ⟨(some 8), none, .mov (.c (.int .i64 0))⟩,
  ⟨(some 9), none, .mov (.c (.int .i64 1))⟩]
@[go_sem] def labels_Code_Jump_r3 : List AI := [
  ⟨(some 17), none, .load 5 true (.t 5)⟩,
  ⟨(some 18), none, .call 38 [(.t 17)]⟩,
  ⟨(some 16), none, .mov (.t 18)⟩,
  ⟨(some 19), none, .ext 0 (.t 16)⟩,
  ⟨(some 20), none, .ext 1 (.t 16)⟩,
  ⟨(some 10), none, .mov (.t 19)⟩,
  ⟨(some 11), none, .mov (.t 20)⟩]
@[go_sem] def labels_Code_Jump_r4 : List AI := [
  ⟨(some 21), none, .mov (.t 11)⟩,
  ⟨(some 22), none, .un .not (.t 21)⟩]
@[go_sem] def labels_Code_Jump_r5 : List AI := [
  ⟨(some 8), none, .mov (.c (.int .i64 0))⟩,
  ⟨(some 9), none, .mov (.c (.int .i64 4))⟩]
@[go_sem] def labels_Code_Jump_r6 : List AI := [
  ⟨(some 23), none, .faddr 2 (.t 5)⟩,
  ⟨none, none, .store 1 (.t 23) (.c (.int .i64 0))⟩]
@[go_sem] def labels_Code_Jump_r7 : List AI := [
  ⟨(some 24), none, .load 5 true (.t 5)⟩,
  ⟨(some 25), none, .call 20 [(.t 24)]⟩,
  ⟨(some 12), none, .mov (.t 25)⟩]
@[go_sem] def labels_Code_Jump_r8 : List AI := [
  ⟨(some 26), none, .mov (.t 12)⟩,
  ⟨(some 27), none, .bin .neq (.t 26) (.c (.int .i64 0))⟩]
@[go_sem] def labels_Code_Jump_r9 : List AI := [
  ⟨(some 28), none, .mov (.t 12)⟩,
  ⟨(some 8), none, .mov (.c (.int .i64 0))⟩,
  ⟨(some 9), none, .mov (.t 28)⟩]
@[go_sem] def labels_Code_Jump_r10 : List AI := [
  ⟨(some 30), none, .mov (.t 2)⟩,
  ⟨(some 31), none, .bin .lss (.t 30) (.c (.int .i64 0))⟩,
  ⟨(some 29), none, .mov (.t 31)⟩]
@[go_sem] def labels_Code_Jump_r11 : List AI := [
  ⟨(some 8), none, .mov (.c (.int .i64 0))⟩,
  ⟨(some 9), none, .mov (.c (.int .i64 2))⟩]
@[go_sem] def labels_Code_Jump_r12 : List AI := [
  ⟨(some 33), none, .mov (.t 3)⟩,
  ⟨(some 34), none, .bin .lss (.t 33) (.c (.int .i64 0))⟩,
  ⟨(some 35), none, .mov (.t 34)⟩,
  ⟨(some 36), (some (35, false)), .mov (.t 3)⟩,
  ⟨(some 37), (some (35, false)), .mov (.t 0)⟩,
  ⟨(some 38), (some (35, false)), .nilck (.t 37)⟩,
  ⟨(some 39), (some (35, false)), .faddr 1 (.t 38)⟩,
  ⟨(some 40), (some (35, false)), .load 1 false (.t 39)⟩,
  ⟨(some 41), (some (35, false)), .len 0 (.t 40)⟩,
  ⟨(some 42), (some (35, false)), .bin .geq (.t 36) (.t 41)⟩,
  ⟨(some 43), none, .pick (.t 35) (.c (.bool true)) (.t 42)⟩,
  ⟨(some 32), none, .mov (.t 43)⟩]
@[go_sem] def labels_Code_Jump_r13 : List AI := [
  ⟨(some 8), none, .mov (.c (.int .i64 0))⟩,
  ⟨(some 9), none, .mov (.c (.int .i64 12))⟩]
@[go_sem] def labels_Code_Jump_r14 : List AI := [
  ⟨(some 44), none, .mov (.t 0)⟩,
  ⟨(some 45), none, .call 36 [(.t 44)]⟩,
  ⟨(some 13), none, .mov (.t 45)⟩]
@[go_sem] def labels_Code_Jump_r15 : List AI := [
  ⟨(some 46), none, .mov (.t 13)⟩,
  ⟨(some 47), none, .bin .neq (.t 46) (.c (.int .i64 0))⟩]
@[go_sem] def labels_Code_Jump_r16 : List AI := [
  ⟨(some 48), none, .mov (.t 13)⟩,
  ⟨(some 8), none, .mov (.c (.int .i64 0))⟩,
  ⟨(some 9), none, .mov (.t 48)⟩]
@[go_sem] def labels_Code_Jump_r17 : List AI := [
  ⟨(some 49), none, .mov (.t 0)⟩,
  ⟨(some 50), none, .nilck (.t 49)⟩,
  ⟨(some 51), none, .faddr 0 (.t 50)⟩,
  ⟨(some 52), none, .load 5 true (.t 5)⟩,
  ⟨(some 53), none, .mov (.t 2)⟩,
  ⟨(some 54), none, .mov (.t 3)⟩,
  ⟨(some 55), none, .build [(.int .i64 0), (.int .i64 0), (.int .i64 0), (.int .i64 0), (.int .i64 0), (.int .i64 0), (.int .i64 0)] [(0, 5, (.t 52)), (5, 1, (.t 53)), (6, 1, (.t 54))]⟩,
  ⟨(some 56), none, .call 37 [(.t 51), (.t 55)]⟩,
  ⟨(some 8), none, .mov (.t 56)⟩,
  ⟨(some 9), none, .mov (.c (.int .i64 0))⟩]
@[go_sem] def labels_Code_Jump_c : AC := .seq (.ops [labels_Code_Jump_r0]) (.seq (.seq (.ops [labels_Code_Jump_r1]) (.cond (.t 15) (.seq (.ops [labels_Code_Jump_r2]) (.ret)) (.skip))) (.seq (.seq (.ops [labels_Code_Jump_r3]) (.seq (.ops [labels_Code_Jump_r4]) (.cond (.t 22) (.seq (.ops [labels_Code_Jump_r5]) (.ret)) (.skip)))) (.seq (.ops [labels_Code_Jump_r6]) (.seq (.seq (.ops [labels_Code_Jump_r7]) (.seq (.ops [labels_Code_Jump_r8]) (.cond (.t 27) (.seq (.ops [labels_Code_Jump_r9]) (.ret)) (.skip)))) (.seq (.block 0 (.seq (.ops [labels_Code_Jump_r10]) (.cond (.t 29) (.seq (.ops [labels_Code_Jump_r11]) (.ret)) (.seq (.ops [labels_Code_Jump_r12]) (.cond (.t 32) (.seq (.ops [labels_Code_Jump_r13]) (.ret)) (.skip)))))) (.seq (.seq (.ops [labels_Code_Jump_r14]) (.seq (.ops [labels_Code_Jump_r15]) (.cond (.t 47) (.seq (.ops [labels_Code_Jump_r16]) (.ret)) (.skip)))) (.seq (.ops [labels_Code_Jump_r17]) (.ret))))))))
theorem labels_Code_Jump_ok : compF Tryd.prog 25 = some (57, labels_Code_Jump_c, [.t 8, .t 9]) := by kernel_rfl

@[go_sem] def scriptingref38_Code_Emit_r0 : List AI := [
  ⟨(some 4), none, .box 260004 5 (.t 1)⟩,
  ⟨(some 6), none, .mov (.c (.int .i64 0))⟩,
  ⟨(some 7), none, .mov (.c (.int .i64 0))⟩]
@[go_sem] def scriptingref38_Code_Emit_r1 : List AI := [
  ⟨(some 9), none, .mov (.t 0)⟩,
  ⟨(some 10), none, .eqp 0 false (.t 9) (.c .nilp)⟩]
@[go_sem] def scriptingref38_Code_Emit_r2 : List AI := [
  ⟨(some 6), none, .mov (.c (.int .i64 0))⟩,
  ⟨(some 7), none, .mov (.c (.int .i64 1))⟩]
@[go_sem] def scriptingref38_Code_Emit_r3 : List AI := [
  ⟨(some 11), none, .load 5 true (.t 4)⟩,
  ⟨(some 12), none, .call 42 [(.t 11)]⟩,
  ⟨(some 8), none, .mov (.t 12)⟩]
@[go_sem] def scriptingref38_Code_Emit_r4 : List AI := [
  ⟨(some 13), none, .mov (.t 8)⟩,
  ⟨(some 14), none, .bin .neq (.t 13) (.c (.int .i64 0))⟩]
@[go_sem] def scriptingref38_Code_Emit_r5 : List AI := [
  ⟨(some 15), none, .mov (.t 8)⟩,
  ⟨(some 6), none, .mov (.c (.int .i64 0))⟩,
  ⟨(some 7), none, .mov (.t 15)⟩]
@[go_sem] def scriptingref38_Code_Emit_r6 : List AI := [
  ⟨(some 16), none, .mov (.t 2)⟩,
  ⟨(some 17), none, .bin .lss (.t 16) (.c (.int .i64 0))⟩]
@[go_sem] def scriptingref38_Code_Emit_r7 : List AI := [
  ⟨(some 6), none, .mov (.c (.int .i64 0))⟩,
  ⟨(some 7), none, .mov (.c (.int .i64 2))⟩]
@[go_sem] def scriptingref38_Code_Emit_r8 : List AI := [
  ⟨(some 18), none, .mov (.t 0)⟩,
  ⟨(some 19), none, .load 5 true (.t 4)⟩,
  ⟨(some 20), none, .mov (.t 2)⟩,
  ⟨(some 21), none, .call 43 [(.t 18), (.t 19), (.t 20), (.c (.int .i64 (-1)))]⟩,
  ⟨(some 22), none, .ext 0 (.t 21)⟩,
  ⟨(some 23), none, .ext 1 (.t 21)⟩,
  ⟨(some 6), none, .mov (.t 22)⟩,
  ⟨(some 7), none, .mov (.t 23)⟩]
@[go_sem] def scriptingref38_Code_Emit_c : AC := .seq (.ops [scriptingref38_Code_Emit_r0]) (.seq (.seq (.ops [scriptingref38_Code_Emit_r1]) (.cond (.t 10) (.seq (.ops [scriptingref38_Code_Emit_r2]) (.ret)) (.skip))) (.seq (.ops [scriptingref38_Code_Emit_r3]) (.seq (.seq (.ops [scriptingref38_Code_Emit_r4]) (.cond (.t 14) (.seq (.ops [scriptingref38_Code_Emit_r5]) (.ret)) (.skip))) (.seq (.seq (.ops [scriptingref38_Code_Emit_r6]) (.cond (.t 17) (.seq (.ops [scriptingref38_Code_Emit_r7]) (.ret)) (.skip))) (.seq (.ops [scriptingref38_Code_Emit_r8]) (.ret))))))
theorem scriptingref38_Code_Emit_ok : compF Tryd.prog 26 = some (24, scriptingref38_Code_Emit_c, [.t 6, .t 7]) := by kernel_rfl

@[go_sem] def scriptingref38_Code_Jump_r0 : List AI := [
  ⟨(some 5), none, .box 270005 5 (.t 1)⟩,
  ⟨(some 8), none, .mov (.c (.int .i64 0))⟩,
  ⟨(some 9), none, .mov (.c (.int .i64 0))⟩]
@[go_sem] def scriptingref38_Code_Jump_r1 : List AI := [
  ⟨(some 13), none, .mov (.t 0)⟩,
  ⟨(some 14), none, .eqp 0 false (.t 13) (.c .nilp)⟩]
@[go_sem] def scriptingref38_Code_Jump_r2 : List AI := [
  ⟨(some 8), none, .mov (.c (.int .i64 0))⟩,
  ⟨(some 9), none, .mov (.c (.int .i64 1))⟩]
@[go_sem] def scriptingref38_Code_Jump_r3 : List AI := [
  ⟨(some 16), none, .load 5 true (.t 5)⟩,
  ⟨(some 17), none, .call 44 [(.t 16)]⟩,
  ⟨(some 15), none, .mov (.t 17)⟩,
  ⟨(some 18), none, .ext 0 (.t 15)⟩,
  ⟨(some 19), none, .ext 1 (.t 15)⟩,
  ⟨(some 10), none, .mov (.t 18)⟩,
  ⟨(some 11), none, .mov (.t 19)⟩]
@[go_sem] def scriptingref38_Code_Jump_r4 : List AI := [
  ⟨(some 20), none, .mov (.t 11)⟩,
  ⟨(some 21), none, .un .not (.t 20)⟩]
@[go_sem] def scriptingref38_Code_Jump_r5 : List AI := [
  ⟨(some 8), none, .mov (.c (.int .i64 0))⟩,
  ⟨(some 9), none, .mov (.c (.int .i64 4))⟩]
@[go_sem] def scriptingref38_Code_Jump_r6 : List AI := [
  ⟨(some 22), none, .faddr 2 (.t 5)⟩,
  ⟨none, none, .store 1 (.t 22) (.c (.int .i64 0))⟩]
@[go_sem] def scriptingref38_Code_Jump_r7 : List AI := [
  ⟨(some 23), none, .load 5 true (.t 5)⟩,
  ⟨(some 24), none, .call 42 [(.t 23)]⟩,
  ⟨(some 12), none, .mov (.t 24)⟩]
@[go_sem] def scriptingref38_Code_Jump_r8 : List AI := [
  ⟨(some 25), none, .mov (.t 12)⟩,
  ⟨(some 26), none, .bin .neq (.t 25) (.c (.int .i64 0))⟩]
@[go_sem] def scriptingref38_Code_Jump_r9 : List AI := [
  ⟨(some 27), none, .mov (.t 12)⟩,
  ⟨(some 8), none, .mov (.c (.int .i64 0))⟩,
  ⟨(some 9), none, .mov (.t 27)⟩]
@[go_sem] def scriptingref38_Code_Jump_r10 : List AI := [
  ⟨(some 28), none, .mov (.t 2)⟩,
  ⟨(some 29), none, .bin .lss (.t 28) (.c (.int .i64 0))⟩]
@[go_sem] def scriptingref38_Code_Jump_r11 : List AI := [
  ⟨(some 8), none, .mov (.c (.int .i64 0))⟩,
  ⟨(some 9), none, .mov (.c (.int .i64 2))⟩]
@[go_sem] def scriptingref38_Code_Jump_r12 : List AI := [
  ⟨(some 30), none, .mov (.t 3)⟩,
  ⟨(some 31), none, .bin .lss (.t 30) (.c (.int .i64 0))⟩,
  ⟨(some 32), none, .mov (.t 31)⟩,
  ⟨(some 33), (some (32, false)), .mov (.t 3)⟩,
  ⟨(some 34), (some (32, false)), .mov (.t 0)⟩,
  ⟨(some 35), (some (32, false)), .nilck (.t 34)⟩,
  ⟨(some 36), (some (32, false)), .faddr 3 (.t 35)⟩,
  ⟨(some 37), (some (32, false)), .load 1 false (.t 36)⟩,
  ⟨(some 38), (some (32, false)), .len 0 (.t 37)⟩,
  ⟨(some 39), (some (32, false)), .bin .geq (.t 33) (.t 38)⟩,
  ⟨(some 40), none, .pick (.t 32) (.c (.bool true)) (.t 39)⟩]
@[go_sem] def scriptingref38_Code_Jump_r13 : List AI := [
  ⟨(some 8), none, .mov (.c (.int .i64 0))⟩,
  ⟨(some 9), none, .mov (.c (.int .i64 12))⟩]
@[go_sem] def scriptingref38_Code_Jump_r14 : List AI := [
  ⟨(some 41), none, .mov (.t 0)⟩,
  ⟨(some 42), none, .load 5 true (.t 5)⟩,
  ⟨(some 43), none, .mov (.t 2)⟩,
  ⟨(some 44), none, .mov (.t 3)⟩,
  ⟨(some 45), none, .call 43 [(.t 41), (.t 42), (.t 43), (.t 44)]⟩,
  ⟨(some 46), none, .ext 0 (.t 45)⟩,
  ⟨(some 47), none, .ext 1 (.t 45)⟩,
  ⟨(some 8), none, .mov (.t 46)⟩,
  ⟨(some 9), none, .mov (.t 47)⟩]
@[go_sem] def scriptingref38_Code_Jump_c : AC := .seq (.ops [scriptingref38_Code_Jump_r0]) (.seq (.seq (.ops [scriptingref38_Code_Jump_r1]) (.cond (.t 14) (.seq (.ops [scriptingref38_Code_Jump_r2]) (.ret)) (.skip))) (.seq (.ops [scriptingref38_Code_Jump_r3]) (.seq (.seq (.ops [scriptingref38_Code_Jump_r4]) (.cond (.t 21) (.seq (.ops [scriptingref38_Code_Jump_r5]) (.ret)) (.skip))) (.seq (.ops [scriptingref38_Code_Jump_r6]) (.seq (.ops [scriptingref38_Code_Jump_r7]) (.seq (.seq (.ops [scriptingref38_Code_Jump_r8]) (.cond (.t 26) (.seq (.ops [scriptingref38_Code_Jump_r9]) (.ret)) (.skip))) (.seq (.seq (.ops [scriptingref38_Code_Jump_r10]) (.cond (.t 29) (.seq (.ops [scriptingref38_Code_Jump_r11]) (.ret)) (.skip))) (.seq (.seq (.ops [scriptingref38_Code_Jump_r12]) (.cond (.t 40) (.seq (.ops [scriptingref38_Code_Jump_r13]) (.ret)) (.skip))) (.seq (.ops [scriptingref38_Code_Jump_r14]) (.ret))))))))))
theorem scriptingref38_Code_Jump_ok : compF Tryd.prog 27 = some (48, scriptingref38_Code_Jump_c, [.t 8, .t 9]) := by kernel_rfl

@[go_sem] def scriptingref38_Code_Label_r0 : List AI := [
  ⟨(some 2), none, .mov (.c (.int .i64 0))⟩]
@[go_sem] def scriptingref38_Code_Label_r1 : List AI := [
  ⟨(some 3), none, .mov (.t 0)⟩,
  ⟨(some 4), none, .eqp 0 false (.t 3) (.c .nilp)⟩]
@[go_sem] def scriptingref38_Code_Label_r2 : List AI := [
  ⟨(some 2), none, .mov (.c (.int .i64 0))⟩]
@[go_sem] def scriptingref38_Code_Label_r3 : List AI := [
  ⟨(some 5), none, .mov (.t 0)⟩,
  ⟨(some 6), none, .mov (.t 0)⟩,
  ⟨(some 7), none, .nilck (.t 6)⟩,
  ⟨(some 8), none, .faddr 3 (.t 7)⟩,
  ⟨(some 9), none, .load 1 false (.t 8)⟩,
  ⟨(some 10), none, .mkisl 1 [(.c (.int .i64 (-1)))]⟩,
  ⟨(some 11), none, .app 280011 1 (.t 9) (.t 10)⟩,
  ⟨(some 12), none, .nilck (.t 5)⟩,
  ⟨(some 13), none, .faddr 3 (.t 12)⟩,
  ⟨none, none, .store 1 (.t 13) (.t 11)⟩]
@[go_sem] def scriptingref38_Code_Label_r4 : List AI := [
  ⟨(some 14), none, .mov (.t 0)⟩,
  ⟨(some 15), none, .nilck (.t 14)⟩,
  ⟨(some 16), none, .faddr 3 (.t 15)⟩,
  ⟨(some 17), none, .load 1 false (.t 16)⟩,
  ⟨(some 18), none, .len 0 (.t 17)⟩,
  ⟨(some 19), none, .bin .sub (.t 18) (.c (.int .i64 1))⟩,
  ⟨(some 2), none, .mov (.t 19)⟩]
@[go_sem] def scriptingref38_Code_Label_c : AC := .seq (.ops [scriptingref38_Code_Label_r0]) (.seq (.seq (.ops [scriptingref38_Code_Label_r1]) (.cond (.t 4) (.seq (.ops [scriptingref38_Code_Label_r2]) (.ret)) (.skip))) (.seq (.ops [scriptingref38_Code_Label_r3]) (.seq (.ops [scriptingref38_Code_Label_r4]) (.ret))))
theorem scriptingref38_Code_Label_ok : compF Tryd.prog 28 = some (20, scriptingref38_Code_Label_c, [.t 2]) := by kernel_rfl

@[go_sem] def scriptingref38_Code_Place_r0 : List AI := [
  ⟨(some 4), none, .mov (.c (.int .i64 0))⟩]
@[go_sem] def scriptingref38_Code_Place_r1 : List AI := [
  ⟨(some 5), none, .mov (.t 0)⟩,
  ⟨(some 6), none, .eqp 0 false (.t 5) (.c .nilp)⟩]
@[go_sem] def scriptingref38_Code_Place_r2 : List AI := [
  ⟨(some 4), none, .mov (.c (.int .i64 1))⟩]
@[go_sem] def scriptingref38_Code_Place_r3 : List AI := [
  ⟨(some 7), none, .mov (.t 1)⟩,
  ⟨(some 8), none, .bin .lss (.t 7) (.c (.int .i64 0))⟩,
  ⟨(some 9), none, .mov (.t 8)⟩,
  ⟨(some 10), (some (9, false)), .mov (.t 1)⟩,
  ⟨(some 11), (some (9, false)), .mov (.t 0)⟩,
  ⟨(some 12), (some (9, false)), .nilck (.t 11)⟩,
  ⟨(some 13), (some (9, false)), .faddr 3 (.t 12)⟩,
  ⟨(some 14), (some (9, false)), .load 1 false (.t 13)⟩,
  ⟨(some 15), (some (9, false)), .len 0 (.t 14)⟩,
  ⟨(some 16), (some (9, false)), .bin .geq (.t 10) (.t 15)⟩,
  ⟨(some 17), none, .pick (.t 9) (.c (.bool true)) (.t 16)⟩]
@[go_sem] def scriptingref38_Code_Place_r4 : List AI := [
  ⟨(some 4), none, .mov (.c (.int .i64 12))⟩]
@[go_sem] def scriptingref38_Code_Place_r5 : List AI := [
  ⟨(some 18), none, .mov (.t 0)⟩,
  ⟨(some 19), none, .nilck (.t 18)⟩,
  ⟨(some 20), none, .faddr 3 (.t 19)⟩,
  ⟨(some 21), none, .load 1 false (.t 20)⟩,
  ⟨(some 22), none, .mov (.t 1)⟩,
  ⟨(some 23), none, .iaddr 1 (.t 21) (.t 22)⟩,
  ⟨(some 24), none, .load 1 false (.t 23)⟩,
  ⟨(some 25), none, .bin .geq (.t 24) (.c (.int .i64 0))⟩]
@[go_sem] def scriptingref38_Code_Place_r6 : List AI := [
  ⟨(some 4), none, .mov (.c (.int .i64 10))⟩]
@[go_sem] def scriptingref38_Code_Place_r7 : List AI := [
  ⟨(some 26), none, .mov (.t 0)⟩,
  ⟨(some 27), none, .nilck (.t 26)⟩,
  ⟨(some 28), none, .faddr 3 (.t 27)⟩,
  ⟨(some 29), none, .load 1 false (.t 28)⟩,
  ⟨(some 30), none, .mov (.t 1)⟩,
  ⟨(some 31), none, .mov (.t 0)⟩,
  ⟨(some 32), none, .nilck (.t 31)⟩,
  ⟨(some 33), none, .faddr 0 (.t 32)⟩,
  ⟨(some 34), none, .load 1 false (.t 33)⟩,
  ⟨(some 35), none, .len 0 (.t 34)⟩,
  ⟨(some 36), none, .iaddr 1 (.t 29) (.t 30)⟩,
  ⟨none, none, .store 1 (.t 36) (.t 35)⟩]
@[go_sem] def scriptingref38_Code_Place_r8 : List AI := [
  ⟨(some 4), none, .mov (.c (.int .i64 0))⟩]
@[go_sem] def scriptingref38_Code_Place_c : AC := .seq (.ops [scriptingref38_Code_Place_r0]) (.seq (.seq (.ops [scriptingref38_Code_Place_r1]) (.cond (.t 6) (.seq (.ops [scriptingref38_Code_Place_r2]) (.ret)) (.skip))) (.seq (.seq (.ops [scriptingref38_Code_Place_r3]) (.cond (.t 17) (.seq (.ops [scriptingref38_Code_Place_r4]) (.ret)) (.skip))) (.seq (.seq (.ops [scriptingref38_Code_Place_r5]) (.cond (.t 25) (.seq (.ops [scriptingref38_Code_Place_r6]) (.ret)) (.skip))) (.seq (.ops [scriptingref38_Code_Place_r7]) (.seq (.ops [scriptingref38_Code_Place_r8]) (.ret))))))
theorem scriptingref38_Code_Place_ok : compF Tryd.prog 29 = some (37, scriptingref38_Code_Place_c, [.t 4]) := by kernel_rfl

@[go_sem] def labels_add_api_Instr_r0 : List AI := [
  ⟨(some 3), none, .box 300003 5 (.t 1)⟩,
  ⟨(some 4), none, .mov (.c (.int .i64 0))⟩]
@[go_sem] def labels_add_api_Instr_r1 : List AI := [
  ⟨(some 5), none, .mov (.t 0)⟩,
  ⟨(some 6), none, .mov (.t 0)⟩,
  ⟨(some 7), none, .nilck (.t 6)⟩,
  ⟨(some 8), none, .load 1 false (.t 7)⟩,
  ⟨(some 9), none, .load 5 true (.t 3)⟩,
  ⟨(some 10), none, .mkisl 5 [(.t 9)]⟩,
  ⟨(some 11), none, .app 300011 5 (.t 8) (.t 10)⟩,
  ⟨(some 12), none, .nilck (.t 5)⟩,
  ⟨none, none, .store 1 (.t 12) (.t 11)⟩]
@[go_sem] def labels_add_api_Instr_r2 : List AI := [
  ⟨(some 13), none, .mov (.t 0)⟩,
  ⟨(some 14), none, .nilck (.t 13)⟩,
  ⟨(some 15), none, .load 1 false (.t 14)⟩,
  ⟨(some 16), none, .len 0 (.t 15)⟩,
  ⟨(some 17), none, .bin .sub (.t 16) (.c (.int .i64 1))⟩,
  ⟨(some 4), none, .mov (.t 17)⟩]
@[go_sem] def labels_add_api_Instr_c : AC := .seq (.ops [labels_add_api_Instr_r0]) (.seq (.ops [labels_add_api_Instr_r1]) (.seq (.ops [labels_add_api_Instr_r2]) (.ret)))
theorem labels_add_api_Instr_ok : compF Tryd.prog 30 = some (18, labels_add_api_Instr_c, [.t 4]) := by kernel_rfl

@[go_sem] def labels_add_int_r0 : List AI := [
  ⟨(some 4), none, .mov (.c (.int .i64 0))⟩]
@[go_sem] def labels_add_int_r1 : List AI := [
  ⟨(some 5), none, .mov (.t 0)⟩,
  ⟨(some 6), none, .mov (.t 0)⟩,
  ⟨(some 7), none, .nilck (.t 6)⟩,
  ⟨(some 8), none, .load 1 false (.t 7)⟩,
  ⟨(some 9), none, .mov (.t 1)⟩,
  ⟨(some 10), none, .mkisl 1 [(.t 9)]⟩,
  ⟨(some 11), none, .app 310011 1 (.t 8) (.t 10)⟩,
  ⟨(some 12), none, .nilck (.t 5)⟩,
  ⟨none, none, .store 1 (.t 12) (.t 11)⟩]
@[go_sem] def labels_add_int_r2 : List AI := [
  ⟨(some 13), none, .mov (.t 0)⟩,
  ⟨(some 14), none, .nilck (.t 13)⟩,
  ⟨(some 15), none, .load 1 false (.t 14)⟩,
  ⟨(some 16), none, .len 0 (.t 15)⟩,
  ⟨(some 17), none, .bin .sub (.t 16) (.c (.int .i64 1))⟩,
  ⟨(some 4), none, .mov (.t 17)⟩]
@[go_sem] def labels_add_int_c : AC := .seq (.ops [labels_add_int_r0]) (.seq (.ops [labels_add_int_r1]) (.seq (.ops [labels_add_int_r2]) (.ret)))
theorem labels_add_int_ok : compF Tryd.prog 31 = some (18, labels_add_int_c, [.t 4]) := by kernel_rfl

@[go_sem] def opcode_of_r0 : List AI := [
  ⟨(some 2), none, .box 320002 6 (.c (.agg [(.str []), (.int .i64 0), (.int .i64 0), (.int .i64 0), (.int .i64 0), (.int .i64 0)]))⟩,
  ⟨(some 3), none, .mov (.c (.bool false))⟩]
@[go_sem] def opcode_of_r1 : List AI := [
  ⟨(some 6), none, .call 45 [(.c (.str [109, 111, 118, 101, 32, 99, 111, 110, 115, 116, 32, 110, 105, 108, 32, 98, 111, 111, 108, 32, 117, 112, 103, 101, 116, 32, 117, 112, 115, 101, 116, 32, 103, 108, 111, 98, 97, 108, 32, 115, 101, 116, 103, 108, 111, 98, 32, 103, 101, 116, 32, 115, 101, 116, 32, 115, 101, 108, 102, 32, 117, 110, 97, 114, 121, 32, 98, 105, 110, 97, 114, 121, 32, 106, 117, 109, 112, 32, 116, 101, 115, 116, 32, 99, 97, 108, 108, 32, 116, 97, 105, 108, 32, 114, 101, 116, 117, 114, 110, 32, 118, 97, 114, 97, 114, 103, 32, 116, 97, 98, 108, 101, 32, 97, 112, 112, 101, 110, 100, 32, 99, 108, 111, 115, 117, 114, 101, 32, 112, 114, 101, 112, 32, 108, 111, 111, 112, 32, 105, 116, 101, 114, 32, 110, 101, 120, 116, 32, 99, 108, 111, 115, 101, 32, 109, 97, 114, 107, 32, 115, 116, 97, 116]))]⟩,
  ⟨(some 4), none, .mov (.t 6)⟩]
@[go_sem] def opcode_of_r2 : List AI := [
  ⟨(some 7), none, .mov (.t 0)⟩,
  ⟨(some 8), none, .bin .lss (.t 7) (.c (.int .i64 1))⟩,
  ⟨(some 9), none, .mov (.t 8)⟩,
  ⟨(some 10), (some (9, false)), .mov (.t 0)⟩,
  ⟨(some 11), (some (9, false)), .mov (.t 4)⟩,
  ⟨(some 12), (some (9, false)), .len 0 (.t 11)⟩,
  ⟨(some 13), (some (9, false)), .bin .gtr (.t 10) (.t 12)⟩,
  ⟨(some 14), none, .pick (.t 9) (.c (.bool true)) (.t 13)⟩]
@[go_sem] def opcode_of_r3 : List AI := [
  ⟨(some 15), none, .build [(.str []), (.int .i64 0), (.int .i64 0), (.int .i64 0), (.int .i64 0), (.int .i64 0)] []⟩,
  ⟨none, none, .store 6 (.t 2) (.t 15)⟩,
  ⟨(some 3), none, .mov (.c (.bool false))⟩]
@[go_sem] def opcode_of_r4 : List AI := [
  ⟨(some 16), none, .mov (.t 0)⟩,
  ⟨(some 17), none, .call 46 [(.t 16)]⟩,
  ⟨(some 5), none, .box 320005 6 (.c (.agg [(.str []), (.int .i64 0), (.int .i64 0), (.int .i64 0), (.int .i64 0), (.int .i64 0)]))⟩,
  ⟨none, none, .store 6 (.t 5) (.t 17)⟩]
@[go_sem] def opcode_of_r5 : List AI := [
  ⟨(some 18), none, .mov (.t 4)⟩,
  ⟨(some 19), none, .mov (.t 0)⟩,
  ⟨(some 20), none, .bin .sub (.t 19) (.c (.int .i64 1))⟩,
  ⟨(some 21), none, .iaddr 1 (.t 18) (.t 20)⟩,
  ⟨(some 22), none, .load 1 false (.t 21)⟩,
  ⟨(some 23), none, .faddr 0 (.t 5)⟩,
  ⟨none, none, .store 1 (.t 23) (.t 22)⟩]
@[go_sem] def opcode_of_r6 : List AI := [
  ⟨(some 24), none, .load 6 true (.t 5)⟩,
  ⟨none, none, .store 6 (.t 2) (.t 24)⟩,
  ⟨(some 3), none, .mov (.c (.bool true))⟩]
@[go_sem] def opcode_of_c : AC := .seq (.ops [opcode_of_r0]) (.seq (.ops [opcode_of_r1]) (.seq (.seq (.ops [opcode_of_r2]) (.cond (.t 14) (.seq (.ops [opcode_of_r3]) (.ret)) (.skip))) (.seq (.ops [opcode_of_r4]) (.seq (.ops [opcode_of_r5]) (.seq (.ops [opcode_of_r6]) (.ret))))))
theorem opcode_of_ok : compF Tryd.prog 32 = some (25, opcode_of_c, [.c 2 6 true, .t 3]) := by kernel_rfl

@[go_sem] def opcode_fields_r0 : List AI := [
  ⟨(some 2), none, .box 330002 6 (.t 0)⟩,
  ⟨(some 3), none, .box 330003 5 (.t 1)⟩,
  ⟨(some 4), none, .box 330004 4 (.c (.agg [(.int .i64 0), (.int .i64 0), (.int .i64 0), (.int .i64 0)]))⟩,
  ⟨(some 5), none, .box 330005 4 (.c (.agg [(.int .i64 0), (.int .i64 0), (.int .i64 0), (.int .i64 0)]))⟩]
@[go_sem] def opcode_fields_r1_0 : List AI := [
  ⟨(some 6), none, .faddr 1 (.t 2)⟩,
  ⟨(some 7), none, .load 1 false (.t 6)⟩,
  ⟨(some 8), none, .faddr 2 (.t 2)⟩,
  ⟨(some 9), none, .load 1 false (.t 8)⟩,
  ⟨(some 10), none, .faddr 3 (.t 2)⟩,
  ⟨(some 11), none, .load 1 false (.t 10)⟩,
  ⟨(some 12), none, .faddr 4 (.t 2)⟩,
  ⟨(some 13), none, .load 1 false (.t 12)⟩,
  ⟨(some 14), none, .build [(.int .i64 0), (.int .i64 0), (.int .i64 0), (.int .i64 0)] [(0, 1, (.t 7)), (1, 1, (.t 9)), (2, 1, (.t 11)), (3, 1, (.t 13))]⟩,
  ⟨(some 15), none, .faddr 1 (.t 3)⟩,
  ⟨(some 16), none, .load 1 false (.t 15)⟩,
  ⟨(some 17), none, .faddr 2 (.t 3)⟩,
  ⟨(some 18), none, .load 1 false (.t 17)⟩,
  ⟨(some 19), none, .faddr 3 (.t 3)⟩,
  ⟨(some 20), none, .load 1 false (.t 19)⟩,
  ⟨(some 21), none, .faddr 4 (.t 3)⟩,
  ⟨(some 22), none, .load 1 false (.t 21)⟩,
  ⟨(some 23), none, .build [(.int .i64 0), (.int .i64 0), (.int .i64 0), (.int .i64 0)] [(0, 1, (.t 16)), (1, 1, (.t 18)), (2, 1, (.t 20)), (3, 1, (.t 22))]⟩,
  ⟨none, none, .store 4 (.t 4) (.t 14)⟩,
  ⟨none, none, .store 4 (.t 5) (.t 23)⟩]
@[go_sem] def opcode_fields_r1_1 : List AI := [
  ⟨(some 6), none, .faddr 1 (.t 2)⟩,
  ⟨(some 7), none, .load 1 false (.t 6)⟩,
  ⟨(some 8), none, .faddr 2 (.t 2)⟩,
  ⟨(some 9), none, .load 1 false (.t 8)⟩,
  ⟨(some 10), none, .faddr 3 (.t 2)⟩,
  ⟨(some 11), none, .load 1 false (.t 10)⟩,
  ⟨(some 12), none, .faddr 4 (.t 2)⟩,
  ⟨(some 13), none, .load 1 false (.t 12)⟩,
  ⟨(some 14), none, .build [(.int .i64 0), (.int .i64 0), (.int .i64 0), (.int .i64 0)] [(0, 1, (.t 7)), (1, 1, (.t 9)), (2, 1, (.t 11)), (3, 1, (.t 13))]⟩,
  ⟨(some 15), none, .faddr 1 (.t 3)⟩,
  ⟨(some 16), none, .load 1 false (.t 15)⟩,
  ⟨(some 17), none, .faddr 2 (.t 3)⟩,
  ⟨(some 18), none, .load 1 false (.t 17)⟩,
  ⟨(some 19), none, .faddr 3 (.t 3)⟩,
  ⟨(some 20), none, .load 1 false (.t 19)⟩,
  ⟨(some 21), none, .faddr 4 (.t 3)⟩,
  ⟨none, none, .store 4 (.t 4) (.t 14)⟩,
  ⟨(some 22), none, .load 1 false (.t 21)⟩,
  ⟨(some 23), none, .build [(.int .i64 0), (.int .i64 0), (.int .i64 0), (.int .i64 0)] [(0, 1, (.t 16)), (1, 1, (.t 18)), (2, 1, (.t 20)), (3, 1, (.t 22))]⟩,
  ⟨none, none, .store 4 (.t 5) (.t 23)⟩]
@[go_sem] def opcode_fields_r1_2 : List AI := [
  ⟨(some 6), none, .faddr 1 (.t 2)⟩,
  ⟨(some 7), none, .load 1 false (.t 6)⟩,
  ⟨(some 8), none, .faddr 2 (.t 2)⟩,
  ⟨(some 9), none, .load 1 false (.t 8)⟩,
  ⟨(some 10), none, .faddr 3 (.t 2)⟩,
  ⟨(some 11), none, .load 1 false (.t 10)⟩,
  ⟨(some 12), none, .faddr 4 (.t 2)⟩,
  ⟨(some 13), none, .load 1 false (.t 12)⟩,
  ⟨(some 14), none, .build [(.int .i64 0), (.int .i64 0), (.int .i64 0), (.int .i64 0)] [(0, 1, (.t 7)), (1, 1, (.t 9)), (2, 1, (.t 11)), (3, 1, (.t 13))]⟩,
  ⟨(some 15), none, .faddr 1 (.t 3)⟩,
  ⟨(some 16), none, .load 1 false (.t 15)⟩,
  ⟨(some 17), none, .faddr 2 (.t 3)⟩,
  ⟨(some 18), none, .load 1 false (.t 17)⟩,
  ⟨(some 19), none, .faddr 3 (.t 3)⟩,
  ⟨(some 21), none, .faddr 4 (.t 3)⟩,
  ⟨(some 22), none, .load 1 false (.t 21)⟩,
  ⟨none, none, .store 4 (.t 4) (.t 14)⟩,
  ⟨(some 20), none, .load 1 false (.t 19)⟩,
  ⟨(some 23), none, .build [(.int .i64 0), (.int .i64 0), (.int .i64 0), (.int .i64 0)] [(0, 1, (.t 16)), (1, 1, (.t 18)), (2, 1, (.t 20)), (3, 1, (.t 22))]⟩,
  ⟨none, none, .store 4 (.t 5) (.t 23)⟩]
@[go_sem] def opcode_fields_r1_3 : List AI := [
  ⟨(some 6), none, .faddr 1 (.t 2)⟩,
  ⟨(some 7), none, .load 1 false (.t 6)⟩,
  ⟨(some 8), none, .faddr 2 (.t 2)⟩,
  ⟨(some 9), none, .load 1 false (.t 8)⟩,
  ⟨(some 10), none, .faddr 3 (.t 2)⟩,
  ⟨(some 11), none, .load 1 false (.t 10)⟩,
  ⟨(some 12), none, .faddr 4 (.t 2)⟩,
  ⟨(some 13), none, .load 1 false (.t 12)⟩,
  ⟨(some 14), none, .build [(.int .i64 0), (.int .i64 0), (.int .i64 0), (.int .i64 0)] [(0, 1, (.t 7)), (1, 1, (.t 9)), (2, 1, (.t 11)), (3, 1, (.t 13))]⟩,
  ⟨(some 15), none, .faddr 1 (.t 3)⟩,
  ⟨(some 16), none, .load 1 false (.t 15)⟩,
  ⟨(some 17), none, .faddr 2 (.t 3)⟩,
  ⟨(some 18), none, .load 1 false (.t 17)⟩,
  ⟨(some 19), none, .faddr 3 (.t 3)⟩,
  ⟨(some 21), none, .faddr 4 (.t 3)⟩,
  ⟨none, none, .store 4 (.t 4) (.t 14)⟩,
  ⟨(some 20), none, .load 1 false (.t 19)⟩,
  ⟨(some 22), none, .load 1 false (.t 21)⟩,
  ⟨(some 23), none, .build [(.int .i64 0), (.int .i64 0), (.int .i64 0), (.int .i64 0)] [(0, 1, (.t 16)), (1, 1, (.t 18)), (2, 1, (.t 20)), (3, 1, (.t 22))]⟩,
  ⟨none, none, .store 4 (.t 5) (.t 23)⟩]
@[go_sem] def opcode_fields_r1_4 : List AI := [
  ⟨(some 6), none, .faddr 1 (.t 2)⟩,
  ⟨(some 7), none, .load 1 false (.t 6)⟩,
  ⟨(some 8), none, .faddr 2 (.t 2)⟩,
  ⟨(some 9), none, .load 1 false (.t 8)⟩,
  ⟨(some 10), none, .faddr 3 (.t 2)⟩,
  ⟨(some 11), none, .load 1 false (.t 10)⟩,
  ⟨(some 12), none, .faddr 4 (.t 2)⟩,
  ⟨(some 13), none, .load 1 false (.t 12)⟩,
  ⟨(some 14), none, .build [(.int .i64 0), (.int .i64 0), (.int .i64 0), (.int .i64 0)] [(0, 1, (.t 7)), (1, 1, (.t 9)), (2, 1, (.t 11)), (3, 1, (.t 13))]⟩,
  ⟨(some 15), none, .faddr 1 (.t 3)⟩,
  ⟨(some 16), none, .load 1 false (.t 15)⟩,
  ⟨(some 17), none, .faddr 2 (.t 3)⟩,
  ⟨(some 19), none, .faddr 3 (.t 3)⟩,
  ⟨(some 20), none, .load 1 false (.t 19)⟩,
  ⟨(some 21), none, .faddr 4 (.t 3)⟩,
  ⟨(some 22), none, .load 1 false (.t 21)⟩,
  ⟨none, none, .store 4 (.t 4) (.t 14)⟩,
  ⟨(some 18), none, .load 1 false (.t 17)⟩,
  ⟨(some 23), none, .build [(.int .i64 0), (.int .i64 0), (.int .i64 0), (.int .i64 0)] [(0, 1, (.t 16)), (1, 1, (.t 18)), (2, 1, (.t 20)), (3, 1, (.t 22))]⟩,
  ⟨none, none, .store 4 (.t 5) (.t 23)⟩]
@[go_sem] def opcode_fields_r1_5 : List AI := [
  ⟨(some 6), none, .faddr 1 (.t 2)⟩,
  ⟨(some 7), none, .load 1 false (.t 6)⟩,
  ⟨(some 8), none, .faddr 2 (.t 2)⟩,
  ⟨(some 9), none, .load 1 false (.t 8)⟩,
  ⟨(some 10), none, .faddr 3 (.t 2)⟩,
  ⟨(some 11), none, .load 1 false (.t 10)⟩,
  ⟨(some 12), none, .faddr 4 (.t 2)⟩,
  ⟨(some 13), none, .load 1 false (.t 12)⟩,
  ⟨(some 14), none, .build [(.int .i64 0), (.int .i64 0), (.int .i64 0), (.int .i64 0)] [(0, 1, (.t 7)), (1, 1, (.t 9)), (2, 1, (.t 11)), (3, 1, (.t 13))]⟩,
  ⟨(some 15), none, .faddr 1 (.t 3)⟩,
  ⟨(some 16), none, .load 1 false (.t 15)⟩,
  ⟨(some 17), none, .faddr 2 (.t 3)⟩,
  ⟨(some 19), none, .faddr 3 (.t 3)⟩,
  ⟨(some 20), none, .load 1 false (.t 19)⟩,
  ⟨(some 21), none, .faddr 4 (.t 3)⟩,
  ⟨none, none, .store 4 (.t 4) (.t 14)⟩,
  ⟨(some 18), none, .load 1 false (.t 17)⟩,
  ⟨(some 22), none, .load 1 false (.t 21)⟩,
  ⟨(some 23), none, .build [(.int .i64 0), (.int .i64 0), (.int .i64 0), (.int .i64 0)] [(0, 1, (.t 16)), (1, 1, (.t 18)), (2, 1, (.t 20)), (3, 1, (.t 22))]⟩,
  ⟨none, none, .store 4 (.t 5) (.t 23)⟩]
@[go_sem] def opcode_fields_r1_6 : List AI := [
  ⟨(some 6), none, .faddr 1 (.t 2)⟩,
  ⟨(some 7), none, .load 1 false (.t 6)⟩,
  ⟨(some 8), none, .faddr 2 (.t 2)⟩,
  ⟨(some 9), none, .load 1 false (.t 8)⟩,
  ⟨(some 10), none, .faddr 3 (.t 2)⟩,
  ⟨(some 11), none, .load 1 false (.t 10)⟩,
  ⟨(some 12), none, .faddr 4 (.t 2)⟩,
  ⟨(some 13), none, .load 1 false (.t 12)⟩,
  ⟨(some 14), none, .build [(.int .i64 0), (.int .i64 0), (.int .i64 0), (.int .i64 0)] [(0, 1, (.t 7)), (1, 1, (.t 9)), (2, 1, (.t 11)), (3, 1, (.t 13))]⟩,
  ⟨(some 15), none, .faddr 1 (.t 3)⟩,
  ⟨(some 16), none, .load 1 false (.t 15)⟩,
  ⟨(some 17), none, .faddr 2 (.t 3)⟩,
  ⟨(some 19), none, .faddr 3 (.t 3)⟩,
  ⟨(some 21), none, .faddr 4 (.t 3)⟩,
  ⟨(some 22), none, .load 1 false (.t 21)⟩,
  ⟨none, none, .store 4 (.t 4) (.t 14)⟩,
  ⟨(some 18), none, .load 1 false (.t 17)⟩,
  ⟨(some 20), none, .load 1 false (.t 19)⟩,
  ⟨(some 23), none, .build [(.int .i64 0), (.int .i64 0), (.int .i64 0), (.int .i64 0)] [(0, 1, (.t 16)), (1, 1, (.t 18)), (2, 1, (.t 20)), (3, 1, (.t 22))]⟩,
  ⟨none, none, .store 4 (.t 5) (.t 23)⟩]
@[go_sem] def opcode_fields_r1_7 : List AI := [
  ⟨(some 6), none, .faddr 1 (.t 2)⟩,
  ⟨(some 7), none, .load 1 false (.t 6)⟩,
  ⟨(some 8), none, .faddr 2 (.t 2)⟩,
  ⟨(some 9), none, .load 1 false (.t 8)⟩,
  ⟨(some 10), none, .faddr 3 (.t 2)⟩,
  ⟨(some 11), none, .load 1 false (.t 10)⟩,
  ⟨(some 12), none, .faddr 4 (.t 2)⟩,
  ⟨(some 13), none, .load 1 false (.t 12)⟩,
  ⟨(some 14), none, .build [(.int .i64 0), (.int .i64 0), (.int .i64 0), (.int .i64 0)] [(0, 1, (.t 7)), (1, 1, (.t 9)), (2, 1, (.t 11)), (3, 1, (.t 13))]⟩,
  ⟨(some 15), none, .faddr 1 (.t 3)⟩,
  ⟨(some 16), none, .load 1 false (.t 15)⟩,
  ⟨(some 17), none, .faddr 2 (.t 3)⟩,
  ⟨(some 19), none, .faddr 3 (.t 3)⟩,
  ⟨(some 21), none, .faddr 4 (.t 3)⟩,
  ⟨none, none, .store 4 (.t 4) (.t 14)⟩,
  ⟨(some 18), none, .load 1 false (.t 17)⟩,
  ⟨(some 20), none, .load 1 false (.t 19)⟩,
  ⟨(some 22), none, .load 1 false (.t 21)⟩,
  ⟨(some 23), none, .build [(.int .i64 0), (.int .i64 0), (.int .i64 0), (.int .i64 0)] [(0, 1, (.t 16)), (1, 1, (.t 18)), (2, 1, (.t 20)), (3, 1, (.t 22))]⟩,
  ⟨none, none, .store 4 (.t 5) (.t 23)⟩]
@[go_sem] def opcode_fields_r1_8 : List AI := [
  ⟨(some 6), none, .faddr 1 (.t 2)⟩,
  ⟨(some 7), none, .load 1 false (.t 6)⟩,
  ⟨(some 8), none, .faddr 2 (.t 2)⟩,
  ⟨(some 9), none, .load 1 false (.t 8)⟩,
  ⟨(some 10), none, .faddr 3 (.t 2)⟩,
  ⟨(some 11), none, .load 1 false (.t 10)⟩,
  ⟨(some 12), none, .faddr 4 (.t 2)⟩,
  ⟨(some 13), none, .load 1 false (.t 12)⟩,
  ⟨(some 14), none, .build [(.int .i64 0), (.int .i64 0), (.int .i64 0), (.int .i64 0)] [(0, 1, (.t 7)), (1, 1, (.t 9)), (2, 1, (.t 11)), (3, 1, (.t 13))]⟩,
  ⟨(some 15), none, .faddr 1 (.t 3)⟩,
  ⟨(some 17), none, .faddr 2 (.t 3)⟩,
  ⟨(some 18), none, .load 1 false (.t 17)⟩,
  ⟨(some 19), none, .faddr 3 (.t 3)⟩,
  ⟨(some 20), none, .load 1 false (.t 19)⟩,
  ⟨(some 21), none, .faddr 4 (.t 3)⟩,
  ⟨(some 22), none, .load 1 false (.t 21)⟩,
  ⟨none, none, .store 4 (.t 4) (.t 14)⟩,
  ⟨(some 16), none, .load 1 false (.t 15)⟩,
  ⟨(some 23), none, .build [(.int .i64 0), (.int .i64 0), (.int .i64 0), (.int .i64 0)] [(0, 1, (.t 16)), (1, 1, (.t 18)), (2, 1, (.t 20)), (3, 1, (.t 22))]⟩,
  ⟨none, none, .store 4 (.t 5) (.t 23)⟩]
@[go_sem] def opcode_fields_r1_9 : List AI := [
  ⟨(some 6), none, .faddr 1 (.t 2)⟩,
  ⟨(some 7), none, .load 1 false (.t 6)⟩,
  ⟨(some 8), none, .faddr 2 (.t 2)⟩,
  ⟨(some 9), none, .load 1 false (.t 8)⟩,
  ⟨(some 10), none, .faddr 3 (.t 2)⟩,
  ⟨(some 11), none, .load 1 false (.t 10)⟩,
  ⟨(some 12), none, .faddr 4 (.t 2)⟩,
  ⟨(some 13), none, .load 1 false (.t 12)⟩,
  ⟨(some 14), none, .build [(.int .i64 0), (.int .i64 0), (.int .i64 0), (.int .i64 0)] [(0, 1, (.t 7)), (1, 1, (.t 9)), (2, 1, (.t 11)), (3, 1, (.t 13))]⟩,
  ⟨(some 15), none, .faddr 1 (.t 3)⟩,
  ⟨(some 17), none, .faddr 2 (.t 3)⟩,
  ⟨(some 18), none, .load 1 false (.t 17)⟩,
  ⟨(some 19), none, .faddr 3 (.t 3)⟩,
  ⟨(some 20), none, .load 1 false (.t 19)⟩,
  ⟨(some 21), none, .faddr 4 (.t 3)⟩,
  ⟨none, none, .store 4 (.t 4) (.t 14)⟩,
  ⟨(some 16), none, .load 1 false (.t 15)⟩,
  ⟨(some 22), none, .load 1 false (.t 21)⟩,
  ⟨(some 23), none, .build [(.int .i64 0), (.int .i64 0), (.int .i64 0), (.int .i64 0)] [(0, 1, (.t 16)), (1, 1, (.t 18)), (2, 1, (.t 20)), (3, 1, (.t 22))]⟩,
  ⟨none, none, .store 4 (.t 5) (.t 23)⟩]
@[go_sem] def opcode_fields_r1_10 : List AI := [
  ⟨(some 6), none, .faddr 1 (.t 2)⟩,
  ⟨(some 7), none, .load 1 false (.t 6)⟩,
  ⟨(some 8), none, .faddr 2 (.t 2)⟩,
  ⟨(some 9), none, .load 1 false (.t 8)⟩,
  ⟨(some 10), none, .faddr 3 (.t 2)⟩,
  ⟨(some 11), none, .load 1 false (.t 10)⟩,
  ⟨(some 12), none, .faddr 4 (.t 2)⟩,
  ⟨(some 13), none, .load 1 false (.t 12)⟩,
  ⟨(some 14), none, .build [(.int .i64 0), (.int .i64 0), (.int .i64 0), (.int .i64 0)] [(0, 1, (.t 7)), (1, 1, (.t 9)), (2, 1, (.t 11)), (3, 1, (.t 13))]⟩,
  ⟨(some 15), none, .faddr 1 (.t 3)⟩,
  ⟨(some 17), none, .faddr 2 (.t 3)⟩,
  ⟨(some 18), none, .load 1 false (.t 17)⟩,
  ⟨(some 19), none, .faddr 3 (.t 3)⟩,
  ⟨(some 21), none, .faddr 4 (.t 3)⟩,
  ⟨(some 22), none, .load 1 false (.t 21)⟩,
  ⟨none, none, .store 4 (.t 4) (.t 14)⟩,
  ⟨(some 16), none, .load 1 false (.t 15)⟩,
  ⟨(some 20), none, .load 1 false (.t 19)⟩,
  ⟨(some 23), none, .build [(.int .i64 0), (.int .i64 0), (.int .i64 0), (.int .i64 0)] [(0, 1, (.t 16)), (1, 1, (.t 18)), (2, 1, (.t 20)), (3, 1, (.t 22))]⟩,
  ⟨none, none, .store 4 (.t 5) (.t 23)⟩]
@[go_sem] def opcode_fields_r1_11 : List AI := [
  ⟨(some 6), none, .faddr 1 (.t 2)⟩,
  ⟨(some 7), none, .load 1 false (.t 6)⟩,
  ⟨(some 8), none, .faddr 2 (.t 2)⟩,
  ⟨(some 9), none, .load 1 false (.t 8)⟩,
  ⟨(some 10), none, .faddr 3 (.t 2)⟩,
  ⟨(some 11), none, .load 1 false (.t 10)⟩,
  ⟨(some 12), none, .faddr 4 (.t 2)⟩,
  ⟨(some 13), none, .load 1 false (.t 12)⟩,
  ⟨(some 14), none, .build [(.int .i64 0), (.int .i64 0), (.int .i64 0), (.int .i64 0)] [(0, 1, (.t 7)), (1, 1, (.t 9)), (2, 1, (.t 11)), (3, 1, (.t 13))]⟩,
  ⟨(some 15), none, .faddr 1 (.t 3)⟩,
  ⟨(some 17), none, .faddr 2 (.t 3)⟩,
  ⟨(some 18), none, .load 1 false (.t 17)⟩,
  ⟨(some 19), none, .faddr 3 (.t 3)⟩,
  ⟨(some 21), none, .faddr 4 (.t 3)⟩,
  ⟨none, none, .store 4 (.t 4) (.t 14)⟩,
  ⟨(some 16), none, .load 1 false (.t 15)⟩,
  ⟨(some 20), none, .load 1 false (.t 19)⟩,
  ⟨(some 22), none, .load 1 false (.t 21)⟩,
  ⟨(some 23), none, .build [(.int .i64 0), (.int .i64 0), (.int .i64 0), (.int .i64 0)] [(0, 1, (.t 16)), (1, 1, (.t 18)), (2, 1, (.t 20)), (3, 1, (.t 22))]⟩,
  ⟨none, none, .store 4 (.t 5) (.t 23)⟩]
@[go_sem] def opcode_fields_r1_12 : List AI := [
  ⟨(some 6), none, .faddr 1 (.t 2)⟩,
  ⟨(some 7), none, .load 1 false (.t 6)⟩,
  ⟨(some 8), none, .faddr 2 (.t 2)⟩,
  ⟨(some 9), none, .load 1 false (.t 8)⟩,
  ⟨(some 10), none, .faddr 3 (.t 2)⟩,
  ⟨(some 11), none, .load 1 false (.t 10)⟩,
  ⟨(some 12), none, .faddr 4 (.t 2)⟩,
  ⟨(some 13), none, .load 1 false (.t 12)⟩,
  ⟨(some 14), none, .build [(.int .i64 0), (.int .i64 0), (.int .i64 0), (.int .i64 0)] [(0, 1, (.t 7)), (1, 1, (.t 9)), (2, 1, (.t 11)), (3, 1, (.t 13))]⟩,
  ⟨(some 15), none, .faddr 1 (.t 3)⟩,
  ⟨(some 17), none, .faddr 2 (.t 3)⟩,
  ⟨(some 19), none, .faddr 3 (.t 3)⟩,
  ⟨(some 20), none, .load 1 false (.t 19)⟩,
  ⟨(some 21), none, .faddr 4 (.t 3)⟩,
  ⟨(some 22), none, .load 1 false (.t 21)⟩,
  ⟨none, none, .store 4 (.t 4) (.t 14)⟩,
  ⟨(some 16), none, .load 1 false (.t 15)⟩,
  ⟨(some 18), none, .load 1 false (.t 17)⟩,
  ⟨(some 23), none, .build [(.int .i64 0), (.int .i64 0), (.int .i64 0), (.int .i64 0)] [(0, 1, (.t 16)), (1, 1, (.t 18)), (2, 1, (.t 20)), (3, 1, (.t 22))]⟩,
  ⟨none, none, .store 4 (.t 5) (.t 23)⟩]
@[go_sem] def opcode_fields_r1_13 : List AI := [
  ⟨(some 6), none, .faddr 1 (.t 2)⟩,
  ⟨(some 7), none, .load 1 false (.t 6)⟩,
  ⟨(some 8), none, .faddr 2 (.t 2)⟩,
  ⟨(some 9), none, .load 1 false (.t 8)⟩,
  ⟨(some 10), none, .faddr 3 (.t 2)⟩,
  ⟨(some 11), none, .load 1 false (.t 10)⟩,
  ⟨(some 12), none, .faddr 4 (.t 2)⟩,
  ⟨(some 13), none, .load 1 false (.t 12)⟩,
  ⟨(some 14), none, .build [(.int .i64 0), (.int .i64 0), (.int .i64 0), (.int .i64 0)] [(0, 1, (.t 7)), (1, 1, (.t 9)), (2, 1, (.t 11)), (3, 1, (.t 13))]⟩,
  ⟨(some 15), none, .faddr 1 (.t 3)⟩,
  ⟨(some 17), none, .faddr 2 (.t 3)⟩,
  ⟨(some 19), none, .faddr 3 (.t 3)⟩,
  ⟨(some 20), none, .load 1 false (.t 19)⟩,
  ⟨(some 21), none, .faddr 4 (.t 3)⟩,
  ⟨none, none, .store 4 (.t 4) (.t 14)⟩,
  ⟨(some 16), none, .load 1 false (.t 15)⟩,
  ⟨(some 18), none, .load 1 false (.t 17)⟩,
  ⟨(some 22), none, .load 1 false (.t 21)⟩,
  ⟨(some 23), none, .build [(.int .i64 0), (.int .i64 0), (.int .i64 0), (.int .i64 0)] [(0, 1, (.t 16)), (1, 1, (.t 18)), (2, 1, (.t 20)), (3, 1, (.t 22))]⟩,
  ⟨none, none, .store 4 (.t 5) (.t 23)⟩]
@[go_sem] def opcode_fields_r1_14 : List AI := [
  ⟨(some 6), none, .faddr 1 (.t 2)⟩,
  ⟨(some 7), none, .load 1 false (.t 6)⟩,
  ⟨(some 8), none, .faddr 2 (.t 2)⟩,
  ⟨(some 9), none, .load 1 false (.t 8)⟩,
  ⟨(some 10), none, .faddr 3 (.t 2)⟩,
  ⟨(some 11), none, .load 1 false (.t 10)⟩,
  ⟨(some 12), none, .faddr 4 (.t 2)⟩,
  ⟨(some 13), none, .load 1 false (.t 12)⟩,
  ⟨(some 14), none, .build [(.int .i64 0), (.int .i64 0), (.int .i64 0), (.int .i64 0)] [(0, 1, (.t 7)), (1, 1, (.t 9)), (2, 1, (.t 11)), (3, 1, (.t 13))]⟩,
  ⟨(some 15), none, .faddr 1 (.t 3)⟩,
  ⟨(some 17), none, .faddr 2 (.t 3)⟩,
  ⟨(some 19), none, .faddr 3 (.t 3)⟩,
  ⟨(some 21), none, .faddr 4 (.t 3)⟩,
  ⟨(some 22), none, .load 1 false (.t 21)⟩,
  ⟨none, none, .store 4 (.t 4) (.t 14)⟩,
  ⟨(some 16), none, .load 1 false (.t 15)⟩,
  ⟨(some 18), none, .load 1 false (.t 17)⟩,
  ⟨(some 20), none, .load 1 false (.t 19)⟩,
  ⟨(some 23), none, .build [(.int .i64 0), (.int .i64 0), (.int .i64 0), (.int .i64 0)] [(0, 1, (.t 16)), (1, 1, (.t 18)), (2, 1, (.t 20)), (3, 1, (.t 22))]⟩,
  ⟨none, none, .store 4 (.t 5) (.t 23)⟩]
@[go_sem] def opcode_fields_r1_15 : List AI := [
  ⟨(some 6), none, .faddr 1 (.t 2)⟩,
  ⟨(some 7), none, .load 1 false (.t 6)⟩,
  ⟨(some 8), none, .faddr 2 (.t 2)⟩,
  ⟨(some 9), none, .load 1 false (.t 8)⟩,
  ⟨(some 10), none, .faddr 3 (.t 2)⟩,
  ⟨(some 11), none, .load 1 false (.t 10)⟩,
  ⟨(some 12), none, .faddr 4 (.t 2)⟩,
  ⟨(some 13), none, .load 1 false (.t 12)⟩,
  ⟨(some 14), none, .build [(.int .i64 0), (.int .i64 0), (.int .i64 0), (.int .i64 0)] [(0, 1, (.t 7)), (1, 1, (.t 9)), (2, 1, (.t 11)), (3, 1, (.t 13))]⟩,
  ⟨(some 15), none, .faddr 1 (.t 3)⟩,
  ⟨(some 17), none, .faddr 2 (.t 3)⟩,
  ⟨(some 19), none, .faddr 3 (.t 3)⟩,
  ⟨(some 21), none, .faddr 4 (.t 3)⟩,
  ⟨none, none, .store 4 (.t 4) (.t 14)⟩,
  ⟨(some 16), none, .load 1 false (.t 15)⟩,
  ⟨(some 18), none, .load 1 false (.t 17)⟩,
  ⟨(some 20), none, .load 1 false (.t 19)⟩,
  ⟨(some 22), none, .load 1 false (.t 21)⟩,
  ⟨(some 23), none, .build [(.int .i64 0), (.int .i64 0), (.int .i64 0), (.int .i64 0)] [(0, 1, (.t 16)), (1, 1, (.t 18)), (2, 1, (.t 20)), (3, 1, (.t 22))]⟩,
  ⟨none, none, .store 4 (.t 5) (.t 23)⟩]
@[go_sem] def opcode_fields_c : AC := .seq (.ops [opcode_fields_r0]) (.seq (.ops [opcode_fields_r1_0, opcode_fields_r1_1, opcode_fields_r1_2, opcode_fields_r1_3, opcode_fields_r1_4, opcode_fields_r1_5, opcode_fields_r1_6, opcode_fields_r1_7, opcode_fields_r1_8, opcode_fields_r1_9, opcode_fields_r1_10, opcode_fields_r1_11, opcode_fields_r1_12, opcode_fields_r1_13, opcode_fields_r1_14, opcode_fields_r1_15]) (.ret))
theorem opcode_fields_ok : compF Tryd.prog 33 = some (24, opcode_fields_c, [.c 4 4 true, .c 5 4 true]) := by kernel_rfl

@[go_sem] def opcode_between_r0 : List AI := [
  ⟨(some 2), none, .mov (.c (.int .i64 0))⟩,
  ⟨(some 3), none, .mov (.c (.int .i64 0))⟩]
@[go_sem] def opcode_between_r1 : List AI := [
  ⟨(some 4), none, .mov (.t 0)⟩]
@[go_sem] def opcode_between_r2 : List AI := [
  ⟨(some 6), none, .bin .eql (.t 4) (.c (.int .i64 1))⟩,
  ⟨(some 5), none, .mov (.t 6)⟩]
@[go_sem] def opcode_between_r3 : List AI := [
  ⟨(some 2), none, .mov (.c (.int .i64 0))⟩,
  ⟨(some 3), none, .mov (.c (.int .i64 4095))⟩]
@[go_sem] def opcode_between_r4 : List AI := [
  ⟨(some 8), none, .bin .eql (.t 4) (.c (.int .i64 2))⟩,
  ⟨(some 7), none, .mov (.t 8)⟩]
@[go_sem] def opcode_between_r5 : List AI := [
  ⟨(some 2), none, .mov (.c (.int .i64 0))⟩,
  ⟨(some 3), none, .mov (.c (.int .i64 4095))⟩]
@[go_sem] def opcode_between_r6 : List AI := [
  ⟨(some 10), none, .bin .eql (.t 4) (.c (.int .i64 3))⟩,
  ⟨(some 9), none, .mov (.t 10)⟩]
@[go_sem] def opcode_between_r7 : List AI := [
  ⟨(some 2), none, .mov (.c (.int .i64 0))⟩,
  ⟨(some 3), none, .mov (.c (.int .i64 59))⟩]
@[go_sem] def opcode_between_r8 : List AI := [
  ⟨(some 12), none, .bin .eql (.t 4) (.c (.int .i64 4))⟩,
  ⟨(some 11), none, .mov (.t 12)⟩]
@[go_sem] def opcode_between_r9 : List AI := [
  ⟨(some 2), none, .mov (.c (.int .i64 0))⟩,
  ⟨(some 3), none, .mov (.c (.int .i64 1023))⟩]
@[go_sem] def opcode_between_r10 : List AI := [
  ⟨(some 14), none, .bin .eql (.t 4) (.c (.int .i64 5))⟩,
  ⟨(some 13), none, .mov (.t 14)⟩]
@[go_sem] def opcode_between_r11 : List AI := [
  ⟨(some 2), none, .mov (.c (.int .i64 0))⟩,
  ⟨(some 3), none, .mov (.c (.int .i64 16383))⟩]
@[go_sem] def opcode_between_r12 : List AI := [
  ⟨(some 16), none, .bin .eql (.t 4) (.c (.int .i64 6))⟩,
  ⟨(some 15), none, .mov (.t 16)⟩]
@[go_sem] def opcode_between_r13 : List AI := [
  ⟨(some 2), none, .mov (.c (.int .i64 (-1)))⟩,
  ⟨(some 3), none, .mov (.c (.int .i64 200))⟩]
@[go_sem] def opcode_between_r14 : List AI := [
  ⟨(some 18), none, .bin .eql (.t 4) (.c (.int .i64 7))⟩,
  ⟨(some 17), none, .mov (.t 18)⟩]
@[go_sem] def opcode_between_r15 : List AI := [
  ⟨(some 2), none, .mov (.c (.int .i64 (-1)))⟩,
  ⟨(some 3), none, .mov (.c (.int .i64 4096))⟩]
@[go_sem] def opcode_between_r16 : List AI := [
  ⟨(some 20), none, .bin .eql (.t 4) (.c (.int .i64 8))⟩,
  ⟨(some 19), none, .mov (.t 20)⟩]
@[go_sem] def opcode_between_r17 : List AI := [
  ⟨(some 2), none, .mov (.c (.int .i64 0))⟩,
  ⟨(some 3), none, .mov (.c (.int .i64 1))⟩]
@[go_sem] def opcode_between_r18 : List AI := [
  ⟨(some 22), none, .bin .eql (.t 4) (.c (.int .i64 9))⟩,
  ⟨(some 21), none, .mov (.t 22)⟩]
@[go_sem] def opcode_between_r19 : List AI := [
  ⟨(some 2), none, .mov (.c (.int .i64 20))⟩,
  ⟨(some 3), none, .mov (.c (.int .i64 23))⟩]
@[go_sem] def opcode_between_r20 : List AI := [
  ⟨(some 24), none, .bin .eql (.t 4) (.c (.int .i64 10))⟩,
  ⟨(some 23), none, .mov (.t 24)⟩]
@[go_sem] def opcode_between_r21 : List AI := [
  ⟨(some 2), none, .mov (.c (.int .i64 1))⟩,
  ⟨(some 3), none, .mov (.c (.int .i64 19))⟩]
@[go_sem] def opcode_between_r22 : List AI := [
  ⟨(some 26), none, .bin .eql (.t 4) (.c (.int .i64 11))⟩,
  ⟨(some 25), none, .mov (.t 26)⟩]
@[go_sem] def opcode_between_r23 : List AI := [
  ⟨(some 2), none, .mov (.c (.int .i64 1))⟩,
  ⟨(some 3), none, .mov (.c (.int .i64 200))⟩]
@[go_sem] def opcode_between_r24 : List AI := [
  ⟨(some 28), none, .bin .eql (.t 4) (.c (.int .i64 12))⟩,
  ⟨(some 27), none, .mov (.t 28)⟩]
@[go_sem] def opcode_between_r25 : List AI := [
  ⟨(some 2), none, .mov (.c (.int .i64 1))⟩,
  ⟨(some 3), none, .mov (.c (.int .i64 32767))⟩]
@[go_sem] def opcode_between_r26 : List AI := [
  ⟨(some 2), none, .mov (.c (.int .i64 0))⟩,
  ⟨(some 3), none, .mov (.c (.int .i64 0))⟩]
@[go_sem] def opcode_between_c : AC := .seq (.ops [opcode_between_r0]) (.seq (.seq (.ops [opcode_between_r1]) (.block 0 (.seq (.ops [opcode_between_r2]) (.cond (.t 5) (.seq (.ops [opcode_between_r3]) (.ret)) (.seq (.ops [opcode_between_r4]) (.cond (.t 7) (.seq (.ops [opcode_between_r5]) (.ret)) (.seq (.ops [opcode_between_r6]) (.cond (.t 9) (.seq (.ops [opcode_between_r7]) (.ret)) (.seq (.ops [opcode_between_r8]) (.cond (.t 11) (.seq (.ops [opcode_between_r9]) (.ret)) (.seq (.ops [opcode_between_r10]) (.cond (.t 13) (.seq (.ops [opcode_between_r11]) (.ret)) (.seq (.ops [opcode_between_r12]) (.cond (.t 15) (.seq (.ops [opcode_between_r13]) (.ret)) (.seq (.ops [opcode_between_r14]) (.cond (.t 17) (.seq (.ops [opcode_between_r15]) (.ret)) (.seq (.ops [opcode_between_r16]) (.cond (.t 19) (.seq (.ops [opcode_between_r17]) (.ret)) (.seq (.ops [opcode_between_r18]) (.cond (.t 21) (.seq (.ops [opcode_between_r19]) (.ret)) (.seq (.ops [opcode_between_r20]) (.cond (.t 23) (.seq (.ops [opcode_between_r21]) (.ret)) (.seq (.ops [opcode_between_r22]) (.cond (.t 25) (.seq (.ops [opcode_between_r23]) (.ret)) (.seq (.ops [opcode_between_r24]) (.cond (.t 27) (.seq (.ops [opcode_between_r25]) (.ret)) (.skip))))))))))))))))))))))))))) (.seq (.ops [opcode_between_r26]) (.ret)))
theorem opcode_between_ok : compF Tryd.prog 34 = some (29, opcode_between_c, [.t 2, .t 3]) := by kernel_rfl

@[go_sem] def opcode_last_r0 : List AI := [
  ⟨(some 2), none, .box 350002 6 (.t 0)⟩,
  ⟨(some 3), none, .box 350003 5 (.t 1)⟩,
  ⟨(some 4), none, .mov (.c (.int .i64 0))⟩]
@[go_sem] def opcode_last_r1 : List AI := [
  ⟨(some 6), none, .faddr 1 (.t 3)⟩,
  ⟨(some 7), none, .load 1 false (.t 6)⟩,
  ⟨(some 8), none, .faddr 5 (.t 2)⟩,
  ⟨(some 9), none, .load 1 false (.t 8)⟩,
  ⟨(some 10), none, .bin .add (.t 7) (.t 9)⟩,
  ⟨(some 5), none, .mov (.t 10)⟩]
@[go_sem] def opcode_last_r2 : List AI := [
  ⟨(some 11), none, .faddr 0 (.t 3)⟩,
  ⟨(some 12), none, .load 1 false (.t 11)⟩]
@[go_sem] def opcode_last_r3 : List AI := [
  ⟨(some 14), none, .bin .eql (.t 12) (.c (.int .i64 16))⟩,
  ⟨(some 13), none, .mov (.t 14)⟩]
@[go_sem] def opcode_last_r4 : List AI := [
  ⟨(some 15), none, .faddr 1 (.t 3)⟩,
  ⟨(some 16), none, .load 1 false (.t 15)⟩,
  ⟨(some 17), none, .faddr 2 (.t 3)⟩,
  ⟨(some 18), none, .load 1 false (.t 17)⟩,
  ⟨(some 19), none, .bin .add (.t 16) (.t 18)⟩,
  ⟨(some 20), none, .faddr 1 (.t 3)⟩,
  ⟨(some 21), none, .load 1 false (.t 20)⟩,
  ⟨(some 22), none, .faddr 3 (.t 3)⟩,
  ⟨(some 23), none, .load 1 false (.t 22)⟩,
  ⟨(some 24), none, .bin .add (.t 21) (.t 23)⟩,
  ⟨(some 25), none, .bin .sub (.t 24) (.c (.int .i64 1))⟩,
  ⟨(some 26), none, .mm true [(.t 19), (.t 25)]⟩,
  ⟨(some 5), none, .mov (.t 26)⟩]
@[go_sem] def opcode_last_r5 : List AI := [
  ⟨(some 28), none, .bin .eql (.t 12) (.c (.int .i64 17))⟩,
  ⟨(some 27), none, .mov (.t 28)⟩]
@[go_sem] def opcode_last_r6 : List AI := [
  ⟨(some 29), none, .bin .eql (.t 12) (.c (.int .i64 21))⟩,
  ⟨(some 27), none, .mov (.t 29)⟩]
@[go_sem] def opcode_last_r7 : List AI := [
  ⟨(some 30), none, .faddr 1 (.t 3)⟩,
  ⟨(some 31), none, .load 1 false (.t 30)⟩,
  ⟨(some 32), none, .faddr 2 (.t 3)⟩,
  ⟨(some 33), none, .load 1 false (.t 32)⟩,
  ⟨(some 34), none, .bin .add (.t 31) (.t 33)⟩,
  ⟨(some 5), none, .mov (.t 34)⟩]
@[go_sem] def opcode_last_r8 : List AI := [
  ⟨(some 36), none, .bin .eql (.t 12) (.c (.int .i64 18))⟩,
  ⟨(some 35), none, .mov (.t 36)⟩]
@[go_sem] def opcode_last_r9 : List AI := [
  ⟨(some 37), none, .bin .eql (.t 12) (.c (.int .i64 19))⟩,
  ⟨(some 35), none, .mov (.t 37)⟩]
@[go_sem] def opcode_last_r10 : List AI := [
  ⟨(some 38), none, .faddr 1 (.t 3)⟩,
  ⟨(some 39), none, .load 1 false (.t 38)⟩,
  ⟨(some 40), none, .faddr 2 (.t 3)⟩,
  ⟨(some 41), none, .load 1 false (.t 40)⟩,
  ⟨(some 42), none, .bin .add (.t 39) (.t 41)⟩,
  ⟨(some 43), none, .bin .sub (.t 42) (.c (.int .i64 1))⟩,
  ⟨(some 5), none, .mov (.t 43)⟩]
@[go_sem] def opcode_last_r11 : List AI := [
  ⟨(some 45), none, .bin .eql (.t 12) (.c (.int .i64 25))⟩,
  ⟨(some 44), none, .mov (.t 45)⟩]
@[go_sem] def opcode_last_r12 : List AI := [
  ⟨(some 46), none, .faddr 1 (.t 3)⟩,
  ⟨(some 47), none, .load 1 false (.t 46)⟩,
  ⟨(some 48), none, .bin .add (.t 47) (.c (.int .i64 2))⟩,
  ⟨(some 49), none, .faddr 3 (.t 3)⟩,
  ⟨(some 50), none, .load 1 false (.t 49)⟩,
  ⟨(some 51), none, .bin .add (.t 48) (.t 50)⟩,
  ⟨(some 5), none, .mov (.t 51)⟩]
@[go_sem] def opcode_last_r13 : List AI := [
  ⟨(some 52), none, .mov (.t 5)⟩,
  ⟨(some 4), none, .mov (.t 52)⟩]
@[go_sem] def opcode_last_c : AC := .seq (.ops [opcode_last_r0]) (.seq (.ops [opcode_last_r1]) (.seq (.seq (.ops [opcode_last_r2]) (.block 0 (.seq (.ops [opcode_last_r3]) (.cond (.t 13) (.ops [opcode_last_r4]) (.seq (.seq (.ops [opcode_last_r5]) (.cond (.t 27) (.skip) (.ops [opcode_last_r6]))) (.cond (.t 27) (.ops [opcode_last_r7]) (.seq (.seq (.ops [opcode_last_r8]) (.cond (.t 35) (.skip) (.ops [opcode_last_r9]))) (.cond (.t 35) (.ops [opcode_last_r10]) (.seq (.ops [opcode_last_r11]) (.cond (.t 44) (.ops [opcode_last_r12]) (.skip))))))))))) (.seq (.ops [opcode_last_r13]) (.ret))))
theorem opcode_last_ok : compF Tryd.prog 35 = some (53, opcode_last_c, [.t 4]) := by kernel_rfl

@[go_sem] def labels_Code_room_r0 : List AI := [
  ⟨(some 2), none, .mov (.c (.int .i64 0))⟩]
@[go_sem] def labels_Code_room_r1 : List AI := [
  ⟨(some 3), none, .mov (.t 0)⟩,
  ⟨(some 4), none, .nilck (.t 3)⟩,
  ⟨(some 5), none, .faddr 0 (.t 4)⟩,
  ⟨(some 6), none, .load 1 false (.t 5)⟩,
  ⟨(some 7), none, .len 0 (.t 6)⟩,
  ⟨(some 8), none, .bin .geq (.t 7) (.c (.int .i64 16384))⟩]
@[go_sem] def labels_Code_room_r2 : List AI := [
  ⟨(some 2), none, .mov (.c (.int .i64 3))⟩]
@[go_sem] def labels_Code_room_r3 : List AI := [
  ⟨(some 2), none, .mov (.c (.int .i64 0))⟩]
@[go_sem] def labels_Code_room_c : AC := .seq (.ops [labels_Code_room_r0]) (.seq (.seq (.ops [labels_Code_room_r1]) (.cond (.t 8) (.seq (.ops [labels_Code_room_r2]) (.ret)) (.skip))) (.seq (.ops [labels_Code_room_r3]) (.ret)))
theorem labels_Code_room_ok : compF Tryd.prog 36 = some (9, labels_Code_room_c, [.t 2]) := by kernel_rfl

@[go_sem] def labels_add_labels_item_r0 : List AI := [
  ⟨(some 3), none, .box 370003 7 (.t 1)⟩,
  ⟨(some 4), none, .mov (.c (.int .i64 0))⟩]
@[go_sem] def labels_add_labels_item_r1 : List AI := [
  ⟨(some 5), none, .mov (.t 0)⟩,
  ⟨(some 6), none, .mov (.t 0)⟩,
  ⟨(some 7), none, .nilck (.t 6)⟩,
  ⟨(some 8), none, .load 1 false (.t 7)⟩,
  ⟨(some 9), none, .load 7 true (.t 3)⟩,
  ⟨(some 10), none, .mkisl 7 [(.t 9)]⟩,
  ⟨(some 11), none, .app 370011 7 (.t 8) (.t 10)⟩,
  ⟨(some 12), none, .nilck (.t 5)⟩,
  ⟨none, none, .store 1 (.t 12) (.t 11)⟩]
@[go_sem] def labels_add_labels_item_r2 : List AI := [
  ⟨(some 13), none, .mov (.t 0)⟩,
  ⟨(some 14), none, .nilck (.t 13)⟩,
  ⟨(some 15), none, .load 1 false (.t 14)⟩,
  ⟨(some 16), none, .len 0 (.t 15)⟩,
  ⟨(some 17), none, .bin .sub (.t 16) (.c (.int .i64 1))⟩,
  ⟨(some 4), none, .mov (.t 17)⟩]
@[go_sem] def labels_add_labels_item_c : AC := .seq (.ops [labels_add_labels_item_r0]) (.seq (.ops [labels_add_labels_item_r1]) (.seq (.ops [labels_add_labels_item_r2]) (.ret)))
theorem labels_add_labels_item_ok : compF Tryd.prog 37 = some (18, labels_add_labels_item_c, [.t 4]) := by kernel_rfl

@[go_sem] def opcode_Target_r0 : List AI := [
  ⟨(some 1), none, .box 380001 5 (.t 0)⟩,
  ⟨(some 2), none, .mov (.c (.int .i64 0))⟩,
  ⟨(some 3), none, .mov (.c (.bool false))⟩]
@[go_sem] def opcode_Target_r1 : List AI := [
  ⟨(some 4), none, .faddr 0 (.t 1)⟩,
  ⟨(some 5), none, .load 1 false (.t 4)⟩]
@[go_sem] def opcode_Target_r2 : List AI := [
  ⟨(some 7), none, .bin .eql (.t 5) (.c (.int .i64 14))⟩,
  ⟨(some 6), none, .mov (.t 7)⟩]
@[go_sem] def opcode_Target_r3 : List AI := [
  ⟨(some 8), none, .bin .eql (.t 5) (.c (.int .i64 15))⟩,
  ⟨(some 6), none, .mov (.t 8)⟩]
@[go_sem] def opcode_Target_r4 : List AI := [
  ⟨(some 9), none, .bin .eql (.t 5) (.c (.int .i64 23))⟩,
  ⟨(some 6), none, .mov (.t 9)⟩]
@[go_sem] def opcode_Target_r5 : List AI := [
  ⟨(some 10), none, .bin .eql (.t 5) (.c (.int .i64 24))⟩,
  ⟨(some 6), none, .mov (.t 10)⟩]
@[go_sem] def opcode_Target_r6 : List AI := [
  ⟨(some 11), none, .bin .eql (.t 5) (.c (.int .i64 26))⟩,
  ⟨(some 6), none, .mov (.t 11)⟩]
@[go_sem] def opcode_Target_r7 : List AI := [
  ⟨(some 12), none, .faddr 2 (.t 1)⟩,
  ⟨(some 13), none, .load 1 false (.t 12)⟩,
  ⟨(some 2), none, .mov (.t 13)⟩,
  ⟨(some 3), none, .mov (.c (.bool true))⟩]
@[go_sem] def opcode_Target_r8 : List AI := [
  ⟨(some 2), none, .mov (.c (.int .i64 0))⟩,
  ⟨(some 3), none, .mov (.c (.bool false))⟩]
@[go_sem] def opcode_Target_c : AC := .seq (.ops [opcode_Target_r0]) (.seq (.seq (.ops [opcode_Target_r1]) (.block 0 (.seq (.seq (.ops [opcode_Target_r2]) (.cond (.t 6) (.skip) (.seq (.ops [opcode_Target_r3]) (.cond (.t 6) (.skip) (.seq (.ops [opcode_Target_r4]) (.cond (.t 6) (.skip) (.seq (.ops [opcode_Target_r5]) (.cond (.t 6) (.skip) (.ops [opcode_Target_r6]))))))))) (.cond (.t 6) (.seq (.ops [opcode_Target_r7]) (.ret)) (.skip))))) (.seq (.ops [opcode_Target_r8]) (.ret)))
theorem opcode_Target_ok : compF Tryd.prog 38 = some (14, opcode_Target_c, [.t 2, .t 3]) := by kernel_rfl

@[go_sem] def opcode_Falls_r0 : List AI := [
  ⟨(some 1), none, .box 390001 5 (.t 0)⟩,
  ⟨(some 2), none, .mov (.c (.bool false))⟩]
@[go_sem] def opcode_Falls_r1 : List AI := [
  ⟨(some 3), none, .faddr 0 (.t 1)⟩,
  ⟨(some 4), none, .load 1 false (.t 3)⟩,
  ⟨(some 5), none, .bin .neq (.t 4) (.c (.int .i64 14))⟩,
  ⟨(some 6), none, .mov (.t 5)⟩,
  ⟨(some 7), (some (6, true)), .faddr 0 (.t 1)⟩,
  ⟨(some 8), (some (6, true)), .load 1 false (.t 7)⟩,
  ⟨(some 9), (some (6, true)), .bin .neq (.t 8) (.c (.int .i64 17))⟩,
  ⟨(some 10), none, .pick (.t 6) (.t 9) (.c (.bool false))⟩,
  ⟨(some 11), none, .mov (.t 10)⟩,
  ⟨(some 12), (some (11, true)), .faddr 0 (.t 1)⟩,
  ⟨(some 13), (some (11, true)), .load 1 false (.t 12)⟩,
  ⟨(some 14), (some (11, true)), .bin .neq (.t 13) (.c (.int .i64 18))⟩,
  ⟨(some 15), none, .pick (.t 11) (.t 14) (.c (.bool false))⟩,
  ⟨(some 2), none, .mov (.t 15)⟩]
@[go_sem] def opcode_Falls_c : AC := .seq (.ops [opcode_Falls_r0]) (.seq (.ops [opcode_Falls_r1]) (.ret))
theorem opcode_Falls_ok : compF Tryd.prog 39 = some (16, opcode_Falls_c, [.t 2]) := by kernel_rfl

@[go_sem] def slices_Sort_int_int_r0 : List AI := [
  ⟨(some 3), none, .mov (.t 0)⟩,
  ⟨(some 4), none, .len 0 (.t 3)⟩,
  ⟨(some 2), none, .mov (.t 4)⟩]
@[go_sem] def slices_Sort_int_int_r1 : List AI := [
  ⟨(some 5), none, .mov (.t 0)⟩,
  ⟨(some 6), none, .mov (.t 2)⟩,
  ⟨(some 7), none, .mov (.t 2)⟩,
  ⟨(some 8), none, .conv .u64 (.t 7)⟩,
  ⟨(some 9), none, .call 48 [(.t 8)]⟩,
  ⟨(some 10), none, .call 47 [(.t 5), (.c (.int .i64 0)), (.t 6), (.t 9)]⟩]
@[go_sem] def slices_Sort_int_int_c : AC := .seq (.ops [slices_Sort_int_int_r0]) (.ops [slices_Sort_int_int_r1])
theorem slices_Sort_int_int_ok : compF Tryd.prog 40 = some (11, slices_Sort_int_int_c, []) := by kernel_rfl

@[go_sem] def slices_Compact_int_int_r0 : List AI := [
  ⟨(some 2), none, .mov (.c .nils)⟩]
@[go_sem] def slices_Compact_int_int_r1 : List AI := [
  ⟨(some 6), none, .mov (.t 0)⟩,
  ⟨(some 7), none, .len 0 (.t 6)⟩,
  ⟨(some 8), none, .bin .lss (.t 7) (.c (.int .i64 2))⟩]
@[go_sem] def slices_Compact_int_int_r2 : List AI := [
  ⟨(some 9), none, .mov (.t 0)⟩,
  ⟨(some 2), none, .mov (.t 9)⟩]
@[go_sem] def slices_Compact_int_int_r3 : List AI := [
  ⟨(some 3), none, .mov (.c (.int .i64 1))⟩]
@[go_sem] def slices_Compact_int_int_r4 : List AI := [
  ⟨(some 10), none, .mov (.t 3)⟩,
  ⟨(some 11), none, .mov (.t 0)⟩,
  ⟨(some 12), none, .len 0 (.t 11)⟩,
  ⟨(some 13), none, .bin .lss (.t 10) (.t 12)⟩]
@[go_sem] def slices_Compact_int_int_r5 : List AI := [
  ⟨(some 16), none, .mov (.t 0)⟩,
  ⟨(some 17), none, .mov (.t 3)⟩,
  ⟨(some 18), none, .iaddr 1 (.t 16) (.t 17)⟩,
  ⟨(some 19), none, .load 1 false (.t 18)⟩,
  ⟨(some 20), none, .mov (.t 0)⟩,
  ⟨(some 21), none, .mov (.t 3)⟩,
  ⟨(some 22), none, .bin .sub (.t 21) (.c (.int .i64 1))⟩,
  ⟨(some 23), none, .iaddr 1 (.t 20) (.t 22)⟩,
  ⟨(some 24), none, .load 1 false (.t 23)⟩,
  ⟨(some 25), none, .bin .eql (.t 19) (.t 24)⟩]
@[go_sem] def slices_Compact_int_int_r6 : List AI := [
  ⟨(some 26), none, .mov (.t 0)⟩,
  ⟨(some 27), none, .mov (.t 3)⟩,
  ⟨(some 28), none, .slc 1 (.t 26) (some (.t 27)) none⟩,
  ⟨(some 4), none, .mov (.t 28)⟩]
@[go_sem] def slices_Compact_int_int_r7 : List AI := [
  ⟨(some 5), none, .mov (.c (.int .i64 1))⟩]
@[go_sem] def slices_Compact_int_int_r8 : List AI := [
  ⟨(some 29), none, .mov (.t 5)⟩,
  ⟨(some 30), none, .mov (.t 4)⟩,
  ⟨(some 31), none, .len 0 (.t 30)⟩,
  ⟨(some 32), none, .bin .lss (.t 29) (.t 31)⟩]
@[go_sem] def slices_Compact_int_int_r9 : List AI := [
  ⟨(some 35), none, .mov (.t 4)⟩,
  ⟨(some 36), none, .mov (.t 5)⟩,
  ⟨(some 37), none, .iaddr 1 (.t 35) (.t 36)⟩,
  ⟨(some 38), none, .load 1 false (.t 37)⟩,
  ⟨(some 39), none, .mov (.t 4)⟩,
  ⟨(some 40), none, .mov (.t 5)⟩,
  ⟨(some 41), none, .bin .sub (.t 40) (.c (.int .i64 1))⟩,
  ⟨(some 42), none, .iaddr 1 (.t 39) (.t 41)⟩,
  ⟨(some 43), none, .load 1 false (.t 42)⟩,
  ⟨(some 44), none, .bin .neq (.t 38) (.t 43)⟩]
@[go_sem] def slices_Compact_int_int_r10 : List AI := [
  ⟨(some 45), none, .mov (.t 0)⟩,
  ⟨(some 46), none, .mov (.t 3)⟩,
  ⟨(some 47), none, .mov (.t 4)⟩,
  ⟨(some 48), none, .mov (.t 5)⟩,
  ⟨(some 49), none, .iaddr 1 (.t 47) (.t 48)⟩,
  ⟨(some 50), none, .load 1 false (.t 49)⟩,
  ⟨(some 51), none, .iaddr 1 (.t 45) (.t 46)⟩,
  ⟨none, none, .store 1 (.t 51) (.t 50)⟩]
@[go_sem] def slices_Compact_int_int_r11 : List AI := [
  ⟨(some 52), none, .mov (.t 3)⟩,
  ⟨(some 53), none, .bin .add (.t 52) (.c (.int .i64 1))⟩,
  ⟨(some 3), none, .mov (.t 53)⟩]
@[go_sem] def slices_Compact_int_int_r12 : List AI := [
  ⟨(some 33), none, .mov (.t 5)⟩,
  ⟨(some 34), none, .bin .add (.t 33) (.c (.int .i64 1))⟩,
  ⟨(some 5), none, .mov (.t 34)⟩]
def slices_Compact_int_int_l1 : AC := .seq (.seq (.ops [slices_Compact_int_int_r8]) (.cond (.t 32) (.skip) (.exit 2))) (.seq (.block 3 (.seq (.ops [slices_Compact_int_int_r9]) (.cond (.t 44) (.seq (.ops [slices_Compact_int_int_r10]) (.ops [slices_Compact_int_int_r11])) (.skip)))) (.ops [slices_Compact_int_int_r12]))
theorem slices_Compact_int_int_l1_eq : slices_Compact_int_int_l1 = .seq (.seq (.ops [slices_Compact_int_int_r8]) (.cond (.t 32) (.skip) (.exit 2))) (.seq (.block 3 (.seq (.ops [slices_Compact_int_int_r9]) (.cond (.t 44) (.seq (.ops [slices_Compact_int_int_r10]) (.ops [slices_Compact_int_int_r11])) (.skip)))) (.ops [slices_Compact_int_int_r12])) := rfl
@[go_sem] def slices_Compact_int_int_r13 : List AI := [
  ⟨(some 54), none, .mov (.t 0)⟩,
  ⟨(some 55), none, .mov (.t 3)⟩,
  ⟨(some 56), none, .slc 1 (.t 54) (some (.t 55)) none⟩,
  ⟨none, none, .clr [(.int .i64 0)] (.t 56)⟩]
@[go_sem] def slices_Compact_int_int_r14 : List AI := [
  ⟨(some 57), none, .mov (.t 0)⟩,
  ⟨(some 58), none, .mov (.t 3)⟩,
  ⟨(some 59), none, .slc 1 (.t 57) none (some (.t 58))⟩,
  ⟨(some 2), none, .mov (.t 59)⟩]
@[go_sem] def slices_Compact_int_int_r15 : List AI := [
  ⟨(some 14), none, .mov (.t 3)⟩,
  ⟨(some 15), none, .bin .add (.t 14) (.c (.int .i64 1))⟩,
  ⟨(some 3), none, .mov (.t 15)⟩]
def slices_Compact_int_int_l0 : AC := .seq (.seq (.ops [slices_Compact_int_int_r4]) (.cond (.t 13) (.skip) (.exit 0))) (.seq (.block 1 (.seq (.ops [slices_Compact_int_int_r5]) (.cond (.t 25) (.seq (.ops [slices_Compact_int_int_r6]) (.seq (.seq (.ops [slices_Compact_int_int_r7]) (.block 2 (.loop slices_Compact_int_int_l1))) (.seq (.ops [slices_Compact_int_int_r13]) (.seq (.ops [slices_Compact_int_int_r14]) (.ret))))) (.skip)))) (.ops [slices_Compact_int_int_r15]))
theorem slices_Compact_int_int_l0_eq : slices_Compact_int_int_l0 = .seq (.seq (.ops [slices_Compact_int_int_r4]) (.cond (.t 13) (.skip) (.exit 0))) (.seq (.block 1 (.seq (.ops [slices_Compact_int_int_r5]) (.cond (.t 25) (.seq (.ops [slices_Compact_int_int_r6]) (.seq (.seq (.ops [slices_Compact_int_int_r7]) (.block 2 (.loop slices_Compact_int_int_l1))) (.seq (.ops [slices_Compact_int_int_r13]) (.seq (.ops [slices_Compact_int_int_r14]) (.ret))))) (.skip)))) (.ops [slices_Compact_int_int_r15])) := rfl
@[go_sem] def slices_Compact_int_int_r16 : List AI := [
  ⟨(some 60), none, .mov (.t 0)⟩,
  ⟨(some 2), none, .mov (.t 60)⟩]
@[go_sem] def slices_Compact_int_int_c : AC := .seq (.ops [slices_Compact_int_int_r0]) (.seq (.seq (.ops [slices_Compact_int_int_r1]) (.cond (.t 8) (.seq (.ops [slices_Compact_int_int_r2]) (.ret)) (.skip))) (.seq (.seq (.ops [slices_Compact_int_int_r3]) (.block 0 (.loop slices_Compact_int_int_l0))) (.seq (.ops [slices_Compact_int_int_r16]) (.ret))))
theorem slices_Compact_int_int_ok : compF Tryd.prog 41 = some (61, slices_Compact_int_int_c, [.t 2]) := by kernel_rfl

@[go_sem] def scriptingref32_Check_r0 : List AI := [
  ⟨(some 1), none, .box 420001 5 (.t 0)⟩,
  ⟨(some 2), none, .mov (.c (.int .i64 0))⟩]
@[go_sem] def scriptingref32_Check_r1 : List AI := [
  ⟨(some 7), none, .faddr 0 (.t 1)⟩,
  ⟨(some 8), none, .load 1 false (.t 7)⟩,
  ⟨(some 9), none, .call 49 [(.t 8)]⟩,
  ⟨(some 3), none, .box 420003 13 (.c (.agg [(.str []), (.bool false), (.bool false), (.bool false), (.bool false), (.int .i64 0), (.int .i64 0), (.int .i64 0), (.int .i64 0), (.int .i64 0), (.int .i64 0), (.int .i64 0), (.int .i64 0)]))⟩,
  ⟨none, none, .store 13 (.t 3) (.t 9)⟩]
@[go_sem] def scriptingref32_Check_r2 : List AI := [
  ⟨(some 10), none, .load 5 true (.t 1)⟩,
  ⟨(some 11), none, .call 50 [(.t 10)]⟩,
  ⟨(some 4), none, .box 420004 4 (.c (.agg [(.int .i64 0), (.int .i64 0), (.int .i64 0), (.int .i64 0)]))⟩,
  ⟨none, none, .store 4 (.t 4) (.t 11)⟩]
@[go_sem] def scriptingref32_Check_r3 : List AI := [
  ⟨(some 12), none, .faddr 0 (.t 3)⟩,
  ⟨(some 13), none, .load 1 false (.t 12)⟩,
  ⟨(some 14), none, .bin .eql (.t 13) (.c (.str []))⟩]
@[go_sem] def scriptingref32_Check_r4 : List AI := [
  ⟨(some 2), none, .mov (.c (.int .i64 4))⟩]
@[go_sem] def scriptingref32_Check_r5 : List AI := [
  ⟨(some 5), none, .mov (.c (.int .i64 0))⟩]
@[go_sem] def scriptingref32_Check_r6 : List AI := [
  ⟨(some 15), none, .mov (.t 5)⟩,
  ⟨(some 16), none, .bin .lss (.t 15) (.c (.int .i64 4))⟩]
@[go_sem] def scriptingref32_Check_r7 : List AI := [
  ⟨(some 19), none, .mov (.t 5)⟩,
  ⟨(some 20), none, .faddr 1 (.t 3)⟩,
  ⟨(some 21), none, .iaddrA 4 1 (.t 20) (.t 19)⟩,
  ⟨(some 22), none, .load 1 false (.t 21)⟩,
  ⟨(some 23), none, .un .not (.t 22)⟩,
  ⟨(some 24), none, .mov (.t 23)⟩,
  ⟨(some 25), (some (24, true)), .mov (.t 5)⟩,
  ⟨(some 26), (some (24, true)), .iaddrA 4 1 (.t 4) (.t 25)⟩,
  ⟨(some 27), (some (24, true)), .load 1 false (.t 26)⟩,
  ⟨(some 28), (some (24, true)), .bin .neq (.t 27) (.c (.int .i64 0))⟩,
  ⟨(some 29), none, .pick (.t 24) (.t 28) (.c (.bool false))⟩]
@[go_sem] def scriptingref32_Check_r8 : List AI := [
  ⟨(some 2), none, .mov (.c (.int .i64 4))⟩]
@[go_sem] def scriptingref32_Check_r9 : List AI := [
  ⟨(some 17), none, .mov (.t 5)⟩,
  ⟨(some 18), none, .bin .add (.t 17) (.c (.int .i64 1))⟩,
  ⟨(some 5), none, .mov (.t 18)⟩]
def scriptingref32_Check_l0 : AC := .seq (.seq (.ops [scriptingref32_Check_r6]) (.cond (.t 16) (.skip) (.exit 0))) (.seq (.block 1 (.seq (.ops [scriptingref32_Check_r7]) (.cond (.t 29) (.seq (.ops [scriptingref32_Check_r8]) (.ret)) (.skip)))) (.ops [scriptingref32_Check_r9]))
theorem scriptingref32_Check_l0_eq : scriptingref32_Check_l0 = .seq (.seq (.ops [scriptingref32_Check_r6]) (.cond (.t 16) (.skip) (.exit 0))) (.seq (.block 1 (.seq (.ops [scriptingref32_Check_r7]) (.cond (.t 29) (.seq (.ops [scriptingref32_Check_r8]) (.ret)) (.skip)))) (.ops [scriptingref32_Check_r9])) := rfl
@[go_sem] def scriptingref32_Check_r10 : List AI := [
  ⟨(some 6), none, .mov (.c (.int .i64 0))⟩]
@[go_sem] def scriptingref32_Check_r11 : List AI := [
  ⟨(some 30), none, .mov (.t 6)⟩,
  ⟨(some 31), none, .bin .lss (.t 30) (.c (.int .i64 4))⟩]
@[go_sem] def scriptingref32_Check_r12 : List AI := [
  ⟨(some 34), none, .mov (.t 6)⟩,
  ⟨(some 35), none, .faddr 1 (.t 3)⟩,
  ⟨(some 36), none, .iaddrA 4 1 (.t 35) (.t 34)⟩,
  ⟨(some 37), none, .load 1 false (.t 36)⟩,
  ⟨(some 38), none, .mov (.t 37)⟩,
  ⟨(some 39), (some (38, true)), .mov (.t 6)⟩,
  ⟨(some 40), (some (38, true)), .iaddrA 4 1 (.t 4) (.t 39)⟩,
  ⟨(some 41), (some (38, true)), .load 1 false (.t 40)⟩,
  ⟨(some 42), (some (38, true)), .mov (.t 6)⟩,
  ⟨(some 43), (some (38, true)), .faddr 5 (.t 3)⟩,
  ⟨(some 44), (some (38, true)), .iaddrA 4 1 (.t 43) (.t 42)⟩,
  ⟨(some 45), (some (38, true)), .load 1 false (.t 44)⟩,
  ⟨(some 46), (some (38, true)), .bin .lss (.t 41) (.t 45)⟩,
  ⟨(some 47), (some (38, true)), .mov (.t 46)⟩,
  ⟨(some 48), (some (47, false)), .mov (.t 6)⟩,
  ⟨(some 49), (some (47, false)), .iaddrA 4 1 (.t 4) (.t 48)⟩,
  ⟨(some 50), (some (47, false)), .load 1 false (.t 49)⟩,
  ⟨(some 51), (some (47, false)), .mov (.t 6)⟩,
  ⟨(some 52), (some (47, false)), .faddr 9 (.t 3)⟩,
  ⟨(some 53), (some (47, false)), .iaddrA 4 1 (.t 52) (.t 51)⟩,
  ⟨(some 54), (some (47, false)), .load 1 false (.t 53)⟩,
  ⟨(some 55), (some (47, false)), .bin .gtr (.t 50) (.t 54)⟩,
  ⟨(some 56), (some (38, true)), .pick (.t 47) (.c (.bool true)) (.t 55)⟩,
  ⟨(some 57), none, .pick (.t 38) (.t 56) (.c (.bool false))⟩]
@[go_sem] def scriptingref32_Check_r13 : List AI := [
  ⟨(some 2), none, .mov (.c (.int .i64 6))⟩]
@[go_sem] def scriptingref32_Check_r14 : List AI := [
  ⟨(some 32), none, .mov (.t 6)⟩,
  ⟨(some 33), none, .bin .add (.t 32) (.c (.int .i64 1))⟩,
  ⟨(some 6), none, .mov (.t 33)⟩]
def scriptingref32_Check_l1 : AC := .seq (.seq (.ops [scriptingref32_Check_r11]) (.cond (.t 31) (.skip) (.exit 2))) (.seq (.block 3 (.seq (.ops [scriptingref32_Check_r12]) (.cond (.t 57) (.seq (.ops [scriptingref32_Check_r13]) (.ret)) (.skip)))) (.ops [scriptingref32_Check_r14]))
theorem scriptingref32_Check_l1_eq : scriptingref32_Check_l1 = .seq (.seq (.ops [scriptingref32_Check_r11]) (.cond (.t 31) (.skip) (.exit 2))) (.seq (.block 3 (.seq (.ops [scriptingref32_Check_r12]) (.cond (.t 57) (.seq (.ops [scriptingref32_Check_r13]) (.ret)) (.skip)))) (.ops [scriptingref32_Check_r14])) := rfl
@[go_sem] def scriptingref32_Check_r15 : List AI := [
  ⟨(some 58), none, .faddr 0 (.t 1)⟩,
  ⟨(some 59), none, .load 1 false (.t 58)⟩,
  ⟨(some 60), none, .bin .eql (.t 59) (.c (.int .i64 3))⟩,
  ⟨(some 61), none, .mov (.t 60)⟩,
  ⟨(some 62), (some (61, true)), .faddr 2 (.t 1)⟩,
  ⟨(some 63), (some (61, true)), .load 1 false (.t 62)⟩,
  ⟨(some 64), (some (61, true)), .faddr 1 (.t 1)⟩,
  ⟨(some 65), (some (61, true)), .load 1 false (.t 64)⟩,
  ⟨(some 66), (some (61, true)), .bin .lss (.t 63) (.t 65)⟩,
  ⟨(some 67), none, .pick (.t 61) (.t 66) (.c (.bool false))⟩,
  ⟨(some 68), none, .mov (.t 67)⟩,
  ⟨(some 69), (some (68, false)), .load 5 true (.t 1)⟩,
  ⟨(some 70), (some (68, false)), .call 51 [(.t 69)]⟩,
  ⟨(some 71), (some (68, false)), .bin .gtr (.t 70) (.c (.int .i64 4095))⟩,
  ⟨(some 72), none, .pick (.t 68) (.c (.bool true)) (.t 71)⟩]
@[go_sem] def scriptingref32_Check_r16 : List AI := [
  ⟨(some 2), none, .mov (.c (.int .i64 6))⟩]
@[go_sem] def scriptingref32_Check_r17 : List AI := [
  ⟨(some 2), none, .mov (.c (.int .i64 0))⟩]
@[go_sem] def scriptingref32_Check_c : AC := .seq (.ops [scriptingref32_Check_r0]) (.seq (.ops [scriptingref32_Check_r1]) (.seq (.ops [scriptingref32_Check_r2]) (.seq (.seq (.ops [scriptingref32_Check_r3]) (.cond (.t 14) (.seq (.ops [scriptingref32_Check_r4]) (.ret)) (.skip))) (.seq (.seq (.ops [scriptingref32_Check_r5]) (.block 0 (.loop scriptingref32_Check_l0))) (.seq (.seq (.ops [scriptingref32_Check_r10]) (.block 2 (.loop scriptingref32_Check_l1))) (.seq (.seq (.ops [scriptingref32_Check_r15]) (.cond (.t 72) (.seq (.ops [scriptingref32_Check_r16]) (.ret)) (.skip))) (.seq (.ops [scriptingref32_Check_r17]) (.ret))))))))
theorem scriptingref32_Check_ok : compF Tryd.prog 42 = some (73, scriptingref32_Check_c, [.t 2]) := by kernel_rfl

@[go_sem] def scriptingref38_Code_add_r0 : List AI := [
  ⟨(some 5), none, .box 430005 5 (.t 1)⟩,
  ⟨(some 8), none, .mov (.c (.int .i64 0))⟩,
  ⟨(some 9), none, .mov (.c (.int .i64 0))⟩]
@[go_sem] def scriptingref38_Code_add_r1 : List AI := [
  ⟨(some 10), none, .mov (.t 0)⟩,
  ⟨(some 11), none, .nilck (.t 10)⟩,
  ⟨(some 12), none, .faddr 0 (.t 11)⟩,
  ⟨(some 13), none, .load 1 false (.t 12)⟩,
  ⟨(some 14), none, .len 0 (.t 13)⟩,
  ⟨(some 15), none, .bin .geq (.t 14) (.c (.int .i64 16384))⟩]
@[go_sem] def scriptingref38_Code_add_r2 : List AI := [
  ⟨(some 8), none, .mov (.c (.int .i64 0))⟩,
  ⟨(some 9), none, .mov (.c (.int .i64 3))⟩]
@[go_sem] def scriptingref38_Code_add_r3 : List AI := [
  ⟨(some 16), none, .mov (.t 0)⟩,
  ⟨(some 17), none, .mov (.t 0)⟩,
  ⟨(some 18), none, .nilck (.t 17)⟩,
  ⟨(some 19), none, .faddr 0 (.t 18)⟩,
  ⟨(some 20), none, .load 1 false (.t 19)⟩,
  ⟨(some 21), none, .load 5 true (.t 5)⟩,
  ⟨(some 22), none, .mkisl 5 [(.t 21)]⟩,
  ⟨(some 23), none, .app 430023 5 (.t 20) (.t 22)⟩,
  ⟨(some 24), none, .nilck (.t 16)⟩,
  ⟨(some 25), none, .faddr 0 (.t 24)⟩,
  ⟨none, none, .store 1 (.t 25) (.t 23)⟩]
@[go_sem] def scriptingref38_Code_add_r4 : List AI := [
  ⟨(some 26), none, .mov (.t 0)⟩,
  ⟨(some 27), none, .mov (.t 0)⟩,
  ⟨(some 28), none, .nilck (.t 27)⟩,
  ⟨(some 29), none, .faddr 1 (.t 28)⟩,
  ⟨(some 30), none, .load 1 false (.t 29)⟩,
  ⟨(some 31), none, .mov (.t 2)⟩,
  ⟨(some 32), none, .mkisl 1 [(.t 31)]⟩,
  ⟨(some 33), none, .app 430033 1 (.t 30) (.t 32)⟩,
  ⟨(some 34), none, .nilck (.t 26)⟩,
  ⟨(some 35), none, .faddr 1 (.t 34)⟩,
  ⟨none, none, .store 1 (.t 35) (.t 33)⟩]
@[go_sem] def scriptingref38_Code_add_r5 : List AI := [
  ⟨(some 36), none, .mov (.t 0)⟩,
  ⟨(some 37), none, .mov (.t 0)⟩,
  ⟨(some 38), none, .nilck (.t 37)⟩,
  ⟨(some 39), none, .faddr 2 (.t 38)⟩,
  ⟨(some 40), none, .load 1 false (.t 39)⟩,
  ⟨(some 41), none, .mov (.t 3)⟩,
  ⟨(some 42), none, .mkisl 1 [(.t 41)]⟩,
  ⟨(some 43), none, .app 430043 1 (.t 40) (.t 42)⟩,
  ⟨(some 44), none, .nilck (.t 36)⟩,
  ⟨(some 45), none, .faddr 2 (.t 44)⟩,
  ⟨none, none, .store 1 (.t 45) (.t 43)⟩]
@[go_sem] def scriptingref38_Code_add_r6 : List AI := [
  ⟨(some 46), none, .mov (.t 0)⟩,
  ⟨(some 47), none, .nilck (.t 46)⟩,
  ⟨(some 48), none, .faddr 0 (.t 47)⟩,
  ⟨(some 49), none, .load 1 false (.t 48)⟩,
  ⟨(some 50), none, .len 0 (.t 49)⟩,
  ⟨(some 51), none, .bin .sub (.t 50) (.c (.int .i64 1))⟩,
  ⟨(some 8), none, .mov (.t 51)⟩,
  ⟨(some 9), none, .mov (.c (.int .i64 0))⟩]
@[go_sem] def scriptingref38_Code_add_c : AC := .seq (.ops [scriptingref38_Code_add_r0]) (.seq (.seq (.ops [scriptingref38_Code_add_r1]) (.cond (.t 15) (.seq (.ops [scriptingref38_Code_add_r2]) (.ret)) (.skip))) (.seq (.ops [scriptingref38_Code_add_r3]) (.seq (.ops [scriptingref38_Code_add_r4]) (.seq (.ops [scriptingref38_Code_add_r5]) (.seq (.ops [scriptingref38_Code_add_r6]) (.ret))))))
theorem scriptingref38_Code_add_ok : compF Tryd.prog 43 = some (52, scriptingref38_Code_add_c, [.t 8, .t 9]) := by kernel_rfl

@[go_sem] def scriptingref32_Target_r0 : List AI := [
  ⟨(some 1), none, .box 440001 5 (.t 0)⟩,
  ⟨(some 2), none, .mov (.c (.int .i64 0))⟩,
  ⟨(some 3), none, .mov (.c (.bool false))⟩]
@[go_sem] def scriptingref32_Target_r1 : List AI := [
  ⟨(some 4), none, .faddr 0 (.t 1)⟩,
  ⟨(some 5), none, .load 1 false (.t 4)⟩]
@[go_sem] def scriptingref32_Target_r2 : List AI := [
  ⟨(some 7), none, .bin .eql (.t 5) (.c (.int .i64 14))⟩,
  ⟨(some 6), none, .mov (.t 7)⟩]
@[go_sem] def scriptingref32_Target_r3 : List AI := [
  ⟨(some 8), none, .bin .eql (.t 5) (.c (.int .i64 15))⟩,
  ⟨(some 6), none, .mov (.t 8)⟩]
@[go_sem] def scriptingref32_Target_r4 : List AI := [
  ⟨(some 9), none, .bin .eql (.t 5) (.c (.int .i64 23))⟩,
  ⟨(some 6), none, .mov (.t 9)⟩]
@[go_sem] def scriptingref32_Target_r5 : List AI := [
  ⟨(some 10), none, .bin .eql (.t 5) (.c (.int .i64 24))⟩,
  ⟨(some 6), none, .mov (.t 10)⟩]
@[go_sem] def scriptingref32_Target_r6 : List AI := [
  ⟨(some 11), none, .bin .eql (.t 5) (.c (.int .i64 26))⟩,
  ⟨(some 6), none, .mov (.t 11)⟩]
@[go_sem] def scriptingref32_Target_r7 : List AI := [
  ⟨(some 12), none, .faddr 2 (.t 1)⟩,
  ⟨(some 13), none, .load 1 false (.t 12)⟩,
  ⟨(some 2), none, .mov (.t 13)⟩,
  ⟨(some 3), none, .mov (.c (.bool true))⟩]
@[go_sem] def scriptingref32_Target_r8 : List AI := [
  ⟨(some 2), none, .mov (.c (.int .i64 0))⟩,
  ⟨(some 3), none, .mov (.c (.bool false))⟩]
@[go_sem] def scriptingref32_Target_c : AC := .seq (.ops [scriptingref32_Target_r0]) (.seq (.seq (.ops [scriptingref32_Target_r1]) (.block 0 (.seq (.seq (.ops [scriptingref32_Target_r2]) (.cond (.t 6) (.skip) (.seq (.ops [scriptingref32_Target_r3]) (.cond (.t 6) (.skip) (.seq (.ops [scriptingref32_Target_r4]) (.cond (.t 6) (.skip) (.seq (.ops [scriptingref32_Target_r5]) (.cond (.t 6) (.skip) (.ops [scriptingref32_Target_r6]))))))))) (.cond (.t 6) (.seq (.ops [scriptingref32_Target_r7]) (.ret)) (.skip))))) (.seq (.ops [scriptingref32_Target_r8]) (.ret)))
theorem scriptingref32_Target_ok : compF Tryd.prog 44 = some (14, scriptingref32_Target_c, [.t 2, .t 3]) := by kernel_rfl

@[go_sem] def strings_Fields_r0 : List AI := [
  ⟨(some 2), none, .mov (.c .nils)⟩]
@[go_sem] def strings_Fields_r1 : List AI := [
  ⟨(some 3), none, .mov (.c (.int .i64 0))⟩]
@[go_sem] def strings_Fields_r2 : List AI := [
  ⟨(some 4), none, .mov (.c (.int .i64 1))⟩]
@[go_sem] def strings_Fields_r3 : List AI := [
  ⟨(some 5), none, .mov (.c (.int .u8 0))⟩]
@[go_sem] def strings_Fields_r4 : List AI := [
  ⟨(some 6), none, .mov (.c (.int .i64 0))⟩]
@[go_sem] def strings_Fields_r5 : List AI := [
  ⟨(some 13), none, .mov (.t 6)⟩,
  ⟨(some 14), none, .mov (.t 0)⟩,
  ⟨(some 15), none, .len 1 (.t 14)⟩,
  ⟨(some 16), none, .bin .lss (.t 13) (.t 15)⟩]
@[go_sem] def strings_Fields_r6 : List AI := [
  ⟨(some 19), none, .mov (.t 0)⟩,
  ⟨(some 20), none, .mov (.t 6)⟩,
  ⟨(some 21), none, .idx (.t 19) (.t 20)⟩,
  ⟨(some 7), none, .mov (.t 21)⟩]
@[go_sem] def strings_Fields_r7 : List AI := [
  ⟨(some 22), none, .mov (.t 5)⟩,
  ⟨(some 23), none, .mov (.t 7)⟩,
  ⟨(some 24), none, .bin .or (.t 22) (.t 23)⟩,
  ⟨(some 5), none, .mov (.t 24)⟩]
@[go_sem] def strings_Fields_r8 : List AI := [
  ⟨(some 25), none, .mov (.t 7)⟩,
  ⟨(some 26), none, .iaddrA 256 1 (.g 0) (.t 25)⟩,
  ⟨(some 27), none, .load 1 false (.t 26)⟩,
  ⟨(some 28), none, .conv .i64 (.t 27)⟩,
  ⟨(some 8), none, .mov (.t 28)⟩]
@[go_sem] def strings_Fields_r9 : List AI := [
  ⟨(some 29), none, .mov (.t 3)⟩,
  ⟨(some 30), none, .mov (.t 4)⟩,
  ⟨(some 31), none, .mov (.t 8)⟩,
  ⟨(some 32), none, .un .xor (.t 31)⟩,
  ⟨(some 33), none, .bin .and (.t 30) (.t 32)⟩,
  ⟨(some 34), none, .bin .add (.t 29) (.t 33)⟩,
  ⟨(some 3), none, .mov (.t 34)⟩]
@[go_sem] def strings_Fields_r10 : List AI := [
  ⟨(some 35), none, .mov (.t 8)⟩,
  ⟨(some 4), none, .mov (.t 35)⟩]
@[go_sem] def strings_Fields_r11 : List AI := [
  ⟨(some 17), none, .mov (.t 6)⟩,
  ⟨(some 18), none, .bin .add (.t 17) (.c (.int .i64 1))⟩,
  ⟨(some 6), none, .mov (.t 18)⟩]
def strings_Fields_l0 : AC := .seq (.seq (.ops [strings_Fields_r5]) (.cond (.t 16) (.skip) (.exit 0))) (.seq (.block 1 (.seq (.ops [strings_Fields_r6]) (.seq (.ops [strings_Fields_r7]) (.seq (.ops [strings_Fields_r8]) (.seq (.ops [strings_Fields_r9]) (.ops [strings_Fields_r10])))))) (.ops [strings_Fields_r11]))
theorem strings_Fields_l0_eq : strings_Fields_l0 = .seq (.seq (.ops [strings_Fields_r5]) (.cond (.t 16) (.skip) (.exit 0))) (.seq (.block 1 (.seq (.ops [strings_Fields_r6]) (.seq (.ops [strings_Fields_r7]) (.seq (.ops [strings_Fields_r8]) (.seq (.ops [strings_Fields_r9]) (.ops [strings_Fields_r10])))))) (.ops [strings_Fields_r11])) := rfl
@[go_sem] def strings_Fields_r12 : List AI := [
  ⟨(some 36), none, .mov (.t 5)⟩,
  ⟨(some 37), none, .bin .geq (.t 36) (.c (.int .u8 128))⟩]
@[go_sem] def strings_Fields_r13 : List AI := [
  ⟨(some 38), none, .mov (.t 0)⟩,
  ⟨(some 39), none, .call 52 [(.t 38), (.f 53)]⟩,
  ⟨(some 2), none, .mov (.t 39)⟩]
@[go_sem] def strings_Fields_r14 : List AI := [
  ⟨(some 40), none, .mov (.t 3)⟩,
  ⟨(some 41), none, .mksl 450041 [(.str [])] (.t 40)⟩,
  ⟨(some 9), none, .mov (.t 41)⟩]
@[go_sem] def strings_Fields_r15 : List AI := [
  ⟨(some 10), none, .mov (.c (.int .i64 0))⟩]
@[go_sem] def strings_Fields_r16 : List AI := [
  ⟨(some 11), none, .mov (.c (.int .i64 0))⟩]
@[go_sem] def strings_Fields_r17 : List AI := [
  ⟨(some 12), none, .mov (.c (.int .i64 0))⟩]
@[go_sem] def strings_Fields_r18 : List AI := [
  ⟨(some 42), none, .mov (.t 12)⟩,
  ⟨(some 43), none, .mov (.t 0)⟩,
  ⟨(some 44), none, .len 1 (.t 43)⟩,
  ⟨(some 45), none, .bin .lss (.t 42) (.t 44)⟩,
  ⟨(some 46), none, .mov (.t 45)⟩,
  ⟨(some 47), (some (46, true)), .mov (.t 0)⟩,
  ⟨(some 48), (some (46, true)), .mov (.t 12)⟩,
  ⟨(some 49), (some (46, true)), .idx (.t 47) (.t 48)⟩,
  ⟨(some 50), (some (46, true)), .iaddrA 256 1 (.g 0) (.t 49)⟩,
  ⟨(some 51), (some (46, true)), .load 1 false (.t 50)⟩,
  ⟨(some 52), (some (46, true)), .bin .neq (.t 51) (.c (.int .u8 0))⟩,
  ⟨(some 53), none, .pick (.t 46) (.t 52) (.c (.bool false))⟩]
@[go_sem] def strings_Fields_r19 : List AI := [
  ⟨(some 54), none, .mov (.t 12)⟩,
  ⟨(some 55), none, .bin .add (.t 54) (.c (.int .i64 1))⟩,
  ⟨(some 12), none, .mov (.t 55)⟩]
def strings_Fields_l1 : AC := .seq (.seq (.ops [strings_Fields_r18]) (.cond (.t 53) (.skip) (.exit 2))) (.block 3 (.ops [strings_Fields_r19]))
theorem strings_Fields_l1_eq : strings_Fields_l1 = .seq (.seq (.ops [strings_Fields_r18]) (.cond (.t 53) (.skip) (.exit 2))) (.block 3 (.ops [strings_Fields_r19])) := rfl
@[go_sem] def strings_Fields_r20 : List AI := [
  ⟨(some 56), none, .mov (.t 12)⟩,
  ⟨(some 11), none, .mov (.t 56)⟩]
@[go_sem] def strings_Fields_r21 : List AI := [
  ⟨(some 57), none, .mov (.t 12)⟩,
  ⟨(some 58), none, .mov (.t 0)⟩,
  ⟨(some 59), none, .len 1 (.t 58)⟩,
  ⟨(some 60), none, .bin .lss (.t 57) (.t 59)⟩]
@[go_sem] def strings_Fields_r22 : List AI := [
  ⟨(some 61), none, .mov (.t 0)⟩,
  ⟨(some 62), none, .mov (.t 12)⟩,
  ⟨(some 63), none, .idx (.t 61) (.t 62)⟩,
  ⟨(some 64), none, .iaddrA 256 1 (.g 0) (.t 63)⟩,
  ⟨(some 65), none, .load 1 false (.t 64)⟩,
  ⟨(some 66), none, .bin .eql (.t 65) (.c (.int .u8 0))⟩]
@[go_sem] def strings_Fields_r23 : List AI := [
  ⟨(some 67), none, .mov (.t 12)⟩,
  ⟨(some 68), none, .bin .add (.t 67) (.c (.int .i64 1))⟩,
  ⟨(some 12), none, .mov (.t 68)⟩]
@[go_sem] def strings_Fields_r24 : List AI := [
  ⟨(some 69), none, .mov (.t 9)⟩,
  ⟨(some 70), none, .mov (.t 10)⟩,
  ⟨(some 71), none, .mov (.t 0)⟩,
  ⟨(some 72), none, .mov (.t 11)⟩,
  ⟨(some 73), none, .mov (.t 12)⟩,
  ⟨(some 74), none, .sls (.t 71) (some (.t 72)) (some (.t 73))⟩,
  ⟨(some 75), none, .iaddr 1 (.t 69) (.t 70)⟩,
  ⟨none, none, .store 1 (.t 75) (.t 74)⟩]
@[go_sem] def strings_Fields_r25 : List AI := [
  ⟨(some 76), none, .mov (.t 10)⟩,
  ⟨(some 77), none, .bin .add (.t 76) (.c (.int .i64 1))⟩,
  ⟨(some 10), none, .mov (.t 77)⟩]
@[go_sem] def strings_Fields_r26 : List AI := [
  ⟨(some 78), none, .mov (.t 12)⟩,
  ⟨(some 79), none, .bin .add (.t 78) (.c (.int .i64 1))⟩,
  ⟨(some 12), none, .mov (.t 79)⟩]
@[go_sem] def strings_Fields_r27 : List AI := [
  ⟨(some 80), none, .mov (.t 12)⟩,
  ⟨(some 81), none, .mov (.t 0)⟩,
  ⟨(some 82), none, .len 1 (.t 81)⟩,
  ⟨(some 83), none, .bin .lss (.t 80) (.t 82)⟩,
  ⟨(some 84), none, .mov (.t 83)⟩,
  ⟨(some 85), (some (84, true)), .mov (.t 0)⟩,
  ⟨(some 86), (some (84, true)), .mov (.t 12)⟩,
  ⟨(some 87), (some (84, true)), .idx (.t 85) (.t 86)⟩,
  ⟨(some 88), (some (84, true)), .iaddrA 256 1 (.g 0) (.t 87)⟩,
  ⟨(some 89), (some (84, true)), .load 1 false (.t 88)⟩,
  ⟨(some 90), (some (84, true)), .bin .neq (.t 89) (.c (.int .u8 0))⟩,
  ⟨(some 91), none, .pick (.t 84) (.t 90) (.c (.bool false))⟩]
@[go_sem] def strings_Fields_r28 : List AI := [
  ⟨(some 92), none, .mov (.t 12)⟩,
  ⟨(some 93), none, .bin .add (.t 92) (.c (.int .i64 1))⟩,
  ⟨(some 12), none, .mov (.t 93)⟩]
def strings_Fields_l3 : AC := .seq (.seq (.ops [strings_Fields_r27]) (.cond (.t 91) (.skip) (.exit 6))) (.block 7 (.ops [strings_Fields_r28]))
theorem strings_Fields_l3_eq : strings_Fields_l3 = .seq (.seq (.ops [strings_Fields_r27]) (.cond (.t 91) (.skip) (.exit 6))) (.block 7 (.ops [strings_Fields_r28])) := rfl
@[go_sem] def strings_Fields_r29 : List AI := [
  ⟨(some 94), none, .mov (.t 12)⟩,
  ⟨(some 11), none, .mov (.t 94)⟩]
def strings_Fields_l2 : AC := .seq (.seq (.ops [strings_Fields_r21]) (.cond (.t 60) (.skip) (.exit 4))) (.block 5 (.seq (.seq (.ops [strings_Fields_r22]) (.cond (.t 66) (.seq (.ops [strings_Fields_r23]) (.exit 5)) (.skip))) (.seq (.ops [strings_Fields_r24]) (.seq (.ops [strings_Fields_r25]) (.seq (.ops [strings_Fields_r26]) (.seq (.block 6 (.loop strings_Fields_l3)) (.ops [strings_Fields_r29])))))))
theorem strings_Fields_l2_eq : strings_Fields_l2 = .seq (.seq (.ops [strings_Fields_r21]) (.cond (.t 60) (.skip) (.exit 4))) (.block 5 (.seq (.seq (.ops [strings_Fields_r22]) (.cond (.t 66) (.seq (.ops [strings_Fields_r23]) (.exit 5)) (.skip))) (.seq (.ops [strings_Fields_r24]) (.seq (.ops [strings_Fields_r25]) (.seq (.ops [strings_Fields_r26]) (.seq (.block 6 (.loop strings_Fields_l3)) (.ops [strings_Fields_r29]))))))) := rfl
@[go_sem] def strings_Fields_r30 : List AI := [
  ⟨(some 95), none, .mov (.t 11)⟩,
  ⟨(some 96), none, .mov (.t 0)⟩,
  ⟨(some 97), none, .len 1 (.t 96)⟩,
  ⟨(some 98), none, .bin .lss (.t 95) (.t 97)⟩]
@[go_sem] def strings_Fields_r31 : List AI := [
  ⟨(some 99), none, .mov (.t 9)⟩,
  ⟨(some 100), none, .mov (.t 10)⟩,
  ⟨(some 101), none, .mov (.t 0)⟩,
  ⟨(some 102), none, .mov (.t 11)⟩,
  ⟨(some 103), none, .sls (.t 101) (some (.t 102)) none⟩,
  ⟨(some 104), none, .iaddr 1 (.t 99) (.t 100)⟩,
  ⟨none, none, .store 1 (.t 104) (.t 103)⟩]
@[go_sem] def strings_Fields_r32 : List AI := [
  ⟨(some 105), none, .mov (.t 9)⟩,
  ⟨(some 2), none, .mov (.t 105)⟩]
@[go_sem] def strings_Fields_c : AC := .seq (.ops [strings_Fields_r0]) (.seq (.ops [strings_Fields_r1]) (.seq (.ops [strings_Fields_r2]) (.seq (.ops [strings_Fields_r3]) (.seq (.seq (.ops [strings_Fields_r4]) (.block 0 (.loop strings_Fields_l0))) (.seq (.seq (.ops [strings_Fields_r12]) (.cond (.t 37) (.seq (.ops [strings_Fields_r13]) (.ret)) (.skip))) (.seq (.ops [strings_Fields_r14]) (.seq (.ops [strings_Fields_r15]) (.seq (.ops [strings_Fields_r16]) (.seq (.ops [strings_Fields_r17]) (.seq (.block 2 (.loop strings_Fields_l1)) (.seq (.ops [strings_Fields_r20]) (.seq (.block 4 (.loop strings_Fields_l2)) (.seq (.seq (.ops [strings_Fields_r30]) (.cond (.t 98) (.ops [strings_Fields_r31]) (.skip))) (.seq (.ops [strings_Fields_r32]) (.ret)))))))))))))))
theorem strings_Fields_ok : compF Tryd.prog 45 = some (106, strings_Fields_c, [.t 2]) := by kernel_rfl

@[go_sem] def opcode_shape_r0 : List AI := [
  ⟨(some 2), none, .box 460002 6 (.c (.agg [(.str []), (.int .i64 0), (.int .i64 0), (.int .i64 0), (.int .i64 0), (.int .i64 0)]))⟩]
@[go_sem] def opcode_shape_r1 : List AI := [
  ⟨(some 3), none, .mov (.t 0)⟩]
@[go_sem] def opcode_shape_r2 : List AI := [
  ⟨(some 5), none, .bin .eql (.t 3) (.c (.int .i64 1))⟩,
  ⟨(some 4), none, .mov (.t 5)⟩]
@[go_sem] def opcode_shape_r3 : List AI := [
  ⟨(some 6), none, .build [(.str []), (.int .i64 0), (.int .i64 0), (.int .i64 0), (.int .i64 0), (.int .i64 0)] [(1, 1, (.c (.int .i64 1))), (2, 1, (.c (.int .i64 1)))]⟩,
  ⟨none, none, .store 6 (.t 2) (.t 6)⟩]
@[go_sem] def opcode_shape_r4 : List AI := [
  ⟨(some 8), none, .bin .eql (.t 3) (.c (.int .i64 2))⟩,
  ⟨(some 7), none, .mov (.t 8)⟩]
@[go_sem] def opcode_shape_r5 : List AI := [
  ⟨(some 9), none, .bin .eql (.t 3) (.c (.int .i64 7))⟩,
  ⟨(some 7), none, .mov (.t 9)⟩]
@[go_sem] def opcode_shape_r6 : List AI := [
  ⟨(some 10), none, .build [(.str []), (.int .i64 0), (.int .i64 0), (.int .i64 0), (.int .i64 0), (.int .i64 0)] [(1, 1, (.c (.int .i64 1))), (2, 1, (.c (.int .i64 2)))]⟩,
  ⟨none, none, .store 6 (.t 2) (.t 10)⟩]
@[go_sem] def opcode_shape_r7 : List AI := [
  ⟨(some 12), none, .bin .eql (.t 3) (.c (.int .i64 3))⟩,
  ⟨(some 11), none, .mov (.t 12)⟩]
@[go_sem] def opcode_shape_r8 : List AI := [
  ⟨(some 13), none, .build [(.str []), (.int .i64 0), (.int .i64 0), (.int .i64 0), (.int .i64 0), (.int .i64 0)] [(1, 1, (.c (.int .i64 1))), (2, 1, (.c (.int .i64 1)))]⟩,
  ⟨none, none, .store 6 (.t 2) (.t 13)⟩]
@[go_sem] def opcode_shape_r9 : List AI := [
  ⟨(some 15), none, .bin .eql (.t 3) (.c (.int .i64 4))⟩,
  ⟨(some 14), none, .mov (.t 15)⟩]
@[go_sem] def opcode_shape_r10 : List AI := [
  ⟨(some 16), none, .build [(.str []), (.int .i64 0), (.int .i64 0), (.int .i64 0), (.int .i64 0), (.int .i64 0)] [(1, 1, (.c (.int .i64 1))), (2, 1, (.c (.int .i64 8)))]⟩,
  ⟨none, none, .store 6 (.t 2) (.t 16)⟩]
@[go_sem] def opcode_shape_r11 : List AI := [
  ⟨(some 18), none, .bin .eql (.t 3) (.c (.int .i64 5))⟩,
  ⟨(some 17), none, .mov (.t 18)⟩]
@[go_sem] def opcode_shape_r12 : List AI := [
  ⟨(some 19), none, .build [(.str []), (.int .i64 0), (.int .i64 0), (.int .i64 0), (.int .i64 0), (.int .i64 0)] [(1, 1, (.c (.int .i64 1))), (2, 1, (.c (.int .i64 3)))]⟩,
  ⟨none, none, .store 6 (.t 2) (.t 19)⟩]
@[go_sem] def opcode_shape_r13 : List AI := [
  ⟨(some 21), none, .bin .eql (.t 3) (.c (.int .i64 6))⟩,
  ⟨(some 20), none, .mov (.t 21)⟩]
@[go_sem] def opcode_shape_r14 : List AI := [
  ⟨(some 22), none, .build [(.str []), (.int .i64 0), (.int .i64 0), (.int .i64 0), (.int .i64 0), (.int .i64 0)] [(1, 1, (.c (.int .i64 3))), (2, 1, (.c (.int .i64 1)))]⟩,
  ⟨none, none, .store 6 (.t 2) (.t 22)⟩]
@[go_sem] def opcode_shape_r15 : List AI := [
  ⟨(some 24), none, .bin .eql (.t 3) (.c (.int .i64 8))⟩,
  ⟨(some 23), none, .mov (.t 24)⟩]
@[go_sem] def opcode_shape_r16 : List AI := [
  ⟨(some 25), none, .build [(.str []), (.int .i64 0), (.int .i64 0), (.int .i64 0), (.int .i64 0), (.int .i64 0)] [(1, 1, (.c (.int .i64 2))), (2, 1, (.c (.int .i64 1)))]⟩,
  ⟨none, none, .store 6 (.t 2) (.t 25)⟩]
@[go_sem] def opcode_shape_r17 : List AI := [
  ⟨(some 27), none, .bin .eql (.t 3) (.c (.int .i64 9))⟩,
  ⟨(some 26), none, .mov (.t 27)⟩]
@[go_sem] def opcode_shape_r18 : List AI := [
  ⟨(some 28), none, .bin .eql (.t 3) (.c (.int .i64 10))⟩,
  ⟨(some 26), none, .mov (.t 28)⟩]
@[go_sem] def opcode_shape_r19 : List AI := [
  ⟨(some 29), none, .build [(.str []), (.int .i64 0), (.int .i64 0), (.int .i64 0), (.int .i64 0), (.int .i64 0)] [(1, 1, (.c (.int .i64 1))), (2, 1, (.c (.int .i64 1))), (3, 1, (.c (.int .i64 1)))]⟩,
  ⟨none, none, .store 6 (.t 2) (.t 29)⟩]
@[go_sem] def opcode_shape_r20 : List AI := [
  ⟨(some 31), none, .bin .eql (.t 3) (.c (.int .i64 11))⟩,
  ⟨(some 30), none, .mov (.t 31)⟩]
@[go_sem] def opcode_shape_r21 : List AI := [
  ⟨(some 32), none, .build [(.str []), (.int .i64 0), (.int .i64 0), (.int .i64 0), (.int .i64 0), (.int .i64 0)] [(1, 1, (.c (.int .i64 1))), (2, 1, (.c (.int .i64 1))), (3, 1, (.c (.int .i64 2))), (5, 1, (.c (.int .i64 1)))]⟩,
  ⟨none, none, .store 6 (.t 2) (.t 32)⟩]
@[go_sem] def opcode_shape_r22 : List AI := [
  ⟨(some 34), none, .bin .eql (.t 3) (.c (.int .i64 12))⟩,
  ⟨(some 33), none, .mov (.t 34)⟩]
@[go_sem] def opcode_shape_r23 : List AI := [
  ⟨(some 35), none, .build [(.str []), (.int .i64 0), (.int .i64 0), (.int .i64 0), (.int .i64 0), (.int .i64 0)] [(1, 1, (.c (.int .i64 1))), (2, 1, (.c (.int .i64 1))), (3, 1, (.c (.int .i64 9)))]⟩,
  ⟨none, none, .store 6 (.t 2) (.t 35)⟩]
@[go_sem] def opcode_shape_r24 : List AI := [
  ⟨(some 37), none, .bin .eql (.t 3) (.c (.int .i64 13))⟩,
  ⟨(some 36), none, .mov (.t 37)⟩]
@[go_sem] def opcode_shape_r25 : List AI := [
  ⟨(some 38), none, .build [(.str []), (.int .i64 0), (.int .i64 0), (.int .i64 0), (.int .i64 0), (.int .i64 0)] [(1, 1, (.c (.int .i64 1))), (2, 1, (.c (.int .i64 1))), (3, 1, (.c (.int .i64 1))), (4, 1, (.c (.int .i64 10)))]⟩,
  ⟨none, none, .store 6 (.t 2) (.t 38)⟩]
@[go_sem] def opcode_shape_r26 : List AI := [
  ⟨(some 40), none, .bin .eql (.t 3) (.c (.int .i64 14))⟩,
  ⟨(some 39), none, .mov (.t 40)⟩]
@[go_sem] def opcode_shape_r27 : List AI := [
  ⟨(some 41), none, .build [(.str []), (.int .i64 0), (.int .i64 0), (.int .i64 0), (.int .i64 0), (.int .i64 0)] [(2, 1, (.c (.int .i64 5)))]⟩,
  ⟨none, none, .store 6 (.t 2) (.t 41)⟩]
@[go_sem] def opcode_shape_r28 : List AI := [
  ⟨(some 43), none, .bin .eql (.t 3) (.c (.int .i64 15))⟩,
  ⟨(some 42), none, .mov (.t 43)⟩]
@[go_sem] def opcode_shape_r29 : List AI := [
  ⟨(some 44), none, .build [(.str []), (.int .i64 0), (.int .i64 0), (.int .i64 0), (.int .i64 0), (.int .i64 0)] [(1, 1, (.c (.int .i64 1))), (2, 1, (.c (.int .i64 5))), (3, 1, (.c (.int .i64 8)))]⟩,
  ⟨none, none, .store 6 (.t 2) (.t 44)⟩]
@[go_sem] def opcode_shape_r30 : List AI := [
  ⟨(some 46), none, .bin .eql (.t 3) (.c (.int .i64 16))⟩,
  ⟨(some 45), none, .mov (.t 46)⟩]
@[go_sem] def opcode_shape_r31 : List AI := [
  ⟨(some 47), none, .build [(.str []), (.int .i64 0), (.int .i64 0), (.int .i64 0), (.int .i64 0), (.int .i64 0)] [(1, 1, (.c (.int .i64 1))), (2, 1, (.c (.int .i64 7))), (3, 1, (.c (.int .i64 6)))]⟩,
  ⟨none, none, .store 6 (.t 2) (.t 47)⟩]
@[go_sem] def opcode_shape_r32 : List AI := [
  ⟨(some 49), none, .bin .eql (.t 3) (.c (.int .i64 17))⟩,
  ⟨(some 48), none, .mov (.t 49)⟩]
@[go_sem] def opcode_shape_r33 : List AI := [
  ⟨(some 50), none, .bin .eql (.t 3) (.c (.int .i64 18))⟩,
  ⟨(some 48), none, .mov (.t 50)⟩]
@[go_sem] def opcode_shape_r34 : List AI := [
  ⟨(some 51), none, .build [(.str []), (.int .i64 0), (.int .i64 0), (.int .i64 0), (.int .i64 0), (.int .i64 0)] [(1, 1, (.c (.int .i64 1))), (2, 1, (.c (.int .i64 7)))]⟩,
  ⟨none, none, .store 6 (.t 2) (.t 51)⟩]
@[go_sem] def opcode_shape_r35 : List AI := [
  ⟨(some 53), none, .bin .eql (.t 3) (.c (.int .i64 19))⟩,
  ⟨(some 52), none, .mov (.t 53)⟩]
@[go_sem] def opcode_shape_r36 : List AI := [
  ⟨(some 54), none, .build [(.str []), (.int .i64 0), (.int .i64 0), (.int .i64 0), (.int .i64 0), (.int .i64 0)] [(1, 1, (.c (.int .i64 1))), (2, 1, (.c (.int .i64 6)))]⟩,
  ⟨none, none, .store 6 (.t 2) (.t 54)⟩]
@[go_sem] def opcode_shape_r37 : List AI := [
  ⟨(some 56), none, .bin .eql (.t 3) (.c (.int .i64 21))⟩,
  ⟨(some 55), none, .mov (.t 56)⟩]
@[go_sem] def opcode_shape_r38 : List AI := [
  ⟨(some 57), none, .build [(.str []), (.int .i64 0), (.int .i64 0), (.int .i64 0), (.int .i64 0), (.int .i64 0)] [(1, 1, (.c (.int .i64 1))), (2, 1, (.c (.int .i64 7))), (3, 1, (.c (.int .i64 12)))]⟩,
  ⟨none, none, .store 6 (.t 2) (.t 57)⟩]
@[go_sem] def opcode_shape_r39 : List AI := [
  ⟨(some 59), none, .bin .eql (.t 3) (.c (.int .i64 22))⟩,
  ⟨(some 58), none, .mov (.t 59)⟩]
@[go_sem] def opcode_shape_r40 : List AI := [
  ⟨(some 60), none, .build [(.str []), (.int .i64 0), (.int .i64 0), (.int .i64 0), (.int .i64 0), (.int .i64 0)] [(1, 1, (.c (.int .i64 1))), (2, 1, (.c (.int .i64 4)))]⟩,
  ⟨none, none, .store 6 (.t 2) (.t 60)⟩]
@[go_sem] def opcode_shape_r41 : List AI := [
  ⟨(some 62), none, .bin .eql (.t 3) (.c (.int .i64 23))⟩,
  ⟨(some 61), none, .mov (.t 62)⟩]
@[go_sem] def opcode_shape_r42 : List AI := [
  ⟨(some 63), none, .bin .eql (.t 3) (.c (.int .i64 24))⟩,
  ⟨(some 61), none, .mov (.t 63)⟩]
@[go_sem] def opcode_shape_r43 : List AI := [
  ⟨(some 64), none, .bin .eql (.t 3) (.c (.int .i64 26))⟩,
  ⟨(some 61), none, .mov (.t 64)⟩]
@[go_sem] def opcode_shape_r44 : List AI := [
  ⟨(some 65), none, .build [(.str []), (.int .i64 0), (.int .i64 0), (.int .i64 0), (.int .i64 0), (.int .i64 0)] [(1, 1, (.c (.int .i64 1))), (2, 1, (.c (.int .i64 5))), (5, 1, (.c (.int .i64 3)))]⟩,
  ⟨none, none, .store 6 (.t 2) (.t 65)⟩]
@[go_sem] def opcode_shape_r45 : List AI := [
  ⟨(some 67), none, .bin .eql (.t 3) (.c (.int .i64 25))⟩,
  ⟨(some 66), none, .mov (.t 67)⟩]
@[go_sem] def opcode_shape_r46 : List AI := [
  ⟨(some 68), none, .build [(.str []), (.int .i64 0), (.int .i64 0), (.int .i64 0), (.int .i64 0), (.int .i64 0)] [(1, 1, (.c (.int .i64 1))), (3, 1, (.c (.int .i64 11))), (5, 1, (.c (.int .i64 3)))]⟩,
  ⟨none, none, .store 6 (.t 2) (.t 68)⟩]
@[go_sem] def opcode_shape_r47 : List AI := [
  ⟨(some 70), none, .bin .eql (.t 3) (.c (.int .i64 20))⟩,
  ⟨(some 69), none, .mov (.t 70)⟩]
@[go_sem] def opcode_shape_r48 : List AI := [
  ⟨(some 71), none, .bin .eql (.t 3) (.c (.int .i64 27))⟩,
  ⟨(some 69), none, .mov (.t 71)⟩]
@[go_sem] def opcode_shape_r49 : List AI := [
  ⟨(some 72), none, .bin .eql (.t 3) (.c (.int .i64 28))⟩,
  ⟨(some 69), none, .mov (.t 72)⟩]
@[go_sem] def opcode_shape_r50 : List AI := [
  ⟨(some 73), none, .build [(.str []), (.int .i64 0), (.int .i64 0), (.int .i64 0), (.int .i64 0), (.int .i64 0)] [(1, 1, (.c (.int .i64 1)))]⟩,
  ⟨none, none, .store 6 (.t 2) (.t 73)⟩]
@[go_sem] def opcode_shape_r51 : List AI := [
  ⟨(some 74), none, .build [(.str []), (.int .i64 0), (.int .i64 0), (.int .i64 0), (.int .i64 0), (.int .i64 0)] [(1, 1, (.c (.int .i64 8)))]⟩,
  ⟨none, none, .store 6 (.t 2) (.t 74)⟩]
@[go_sem] def opcode_shape_c : AC := .seq (.ops [opcode_shape_r0]) (.seq (.seq (.ops [opcode_shape_r1]) (.block 0 (.seq (.ops [opcode_shape_r2]) (.cond (.t 4) (.seq (.ops [opcode_shape_r3]) (.ret)) (.seq (.seq (.ops [opcode_shape_r4]) (.cond (.t 7) (.skip) (.ops [opcode_shape_r5]))) (.cond (.t 7) (.seq (.ops [opcode_shape_r6]) (.ret)) (.seq (.ops [opcode_shape_r7]) (.cond (.t 11) (.seq (.ops [opcode_shape_r8]) (.ret)) (.seq (.ops [opcode_shape_r9]) (.cond (.t 14) (.seq (.ops [opcode_shape_r10]) (.ret)) (.seq (.ops [opcode_shape_r11]) (.cond (.t 17) (.seq (.ops [opcode_shape_r12]) (.ret)) (.seq (.ops [opcode_shape_r13]) (.cond (.t 20) (.seq (.ops [opcode_shape_r14]) (.ret)) (.seq (.ops [opcode_shape_r15]) (.cond (.t 23) (.seq (.ops [opcode_shape_r16]) (.ret)) (.seq (.seq (.ops [opcode_shape_r17]) (.cond (.t 26) (.skip) (.ops [opcode_shape_r18]))) (.cond (.t 26) (.seq (.ops [opcode_shape_r19]) (.ret)) (.seq (.ops [opcode_shape_r20]) (.cond (.t 30) (.seq (.ops [opcode_shape_r21]) (.ret)) (.seq (.ops [opcode_shape_r22]) (.cond (.t 33) (.seq (.ops [opcode_shape_r23]) (.ret)) (.seq (.ops [opcode_shape_r24]) (.cond (.t 36) (.seq (.ops [opcode_shape_r25]) (.ret)) (.seq (.ops [opcode_shape_r26]) (.cond (.t 39) (.seq (.ops [opcode_shape_r27]) (.ret)) (.seq (.ops [opcode_shape_r28]) (.cond (.t 42) (.seq (.ops [opcode_shape_r29]) (.ret)) (.seq (.ops [opcode_shape_r30]) (.cond (.t 45) (.seq (.ops [opcode_shape_r31]) (.ret)) (.seq (.seq (.ops [opcode_shape_r32]) (.cond (.t 48) (.skip) (.ops [opcode_shape_r33]))) (.cond (.t 48) (.seq (.ops [opcode_shape_r34]) (.ret)) (.seq (.ops [opcode_shape_r35]) (.cond (.t 52) (.seq (.ops [opcode_shape_r36]) (.ret)) (.seq (.ops [opcode_shape_r37]) (.cond (.t 55) (.seq (.ops [opcode_shape_r38]) (.ret)) (.seq (.ops [opcode_shape_r39]) (.cond (.t 58) (.seq (.ops [opcode_shape_r40]) (.ret)) (.seq (.seq (.ops [opcode_shape_r41]) (.cond (.t 61) (.skip) (.seq (.ops [opcode_shape_r42]) (.cond (.t 61) (.skip) (.ops [opcode_shape_r43]))))) (.cond (.t 61) (.seq (.ops [opcode_shape_r44]) (.ret)) (.seq (.ops [opcode_shape_r45]) (.cond (.t 66) (.seq (.ops [opcode_shape_r46]) (.ret)) (.seq (.seq (.ops [opcode_shape_r47]) (.cond (.t 69) (.skip) (.seq (.ops [opcode_shape_r48]) (.cond (.t 69) (.skip) (.ops [opcode_shape_r49]))))) (.cond (.t 69) (.seq (.ops [opcode_shape_r50]) (.ret)) (.skip))))))))))))))))))))))))))))))))))))))))))))) (.seq (.ops [opcode_shape_r51]) (.ret)))
theorem opcode_shape_ok : compF Tryd.prog 46 = some (75, opcode_shape_c, [.c 2 6 true]) := by kernel_rfl

@[go_sem] def scriptingref32_data_r0 : List AI := [
  ⟨(some 2), none, .box 490002 13 (.c (.agg [(.str []), (.bool false), (.bool false), (.bool false), (.bool false), (.int .i64 0), (.int .i64 0), (.int .i64 0), (.int .i64 0), (.int .i64 0), (.int .i64 0), (.int .i64 0), (.int .i64 0)]))⟩]
@[go_sem] def scriptingref32_data_r1 : List AI := [
  ⟨(some 5), none, .build [(.int .i64 0), (.int .i64 0)] [(0, 1, (.c (.int .i64 0))), (1, 1, (.c (.int .i64 4095)))]⟩,
  ⟨(some 3), none, .box 490003 2 (.c (.agg [(.int .i64 0), (.int .i64 0)]))⟩,
  ⟨none, none, .store 2 (.t 3) (.t 5)⟩]
@[go_sem] def scriptingref32_data_r2 : List AI := [
  ⟨(some 6), none, .mov (.t 0)⟩]
@[go_sem] def scriptingref32_data_r3 : List AI := [
  ⟨(some 8), none, .bin .eql (.t 6) (.c (.int .i64 1))⟩,
  ⟨(some 7), none, .mov (.t 8)⟩]
@[go_sem] def scriptingref32_data_r4 : List AI := [
  ⟨(some 9), none, .call 65 [(.c (.str [109, 111, 118, 101])), (.c (.int .i64 4095)), (.c (.int .i64 0)), (.c (.int .i64 4095))]⟩,
  ⟨none, none, .store 13 (.t 2) (.t 9)⟩]
@[go_sem] def scriptingref32_data_r5 : List AI := [
  ⟨(some 11), none, .bin .eql (.t 6) (.c (.int .i64 2))⟩,
  ⟨(some 10), none, .mov (.t 11)⟩]
@[go_sem] def scriptingref32_data_r6 : List AI := [
  ⟨(some 12), none, .call 65 [(.c (.str [99, 111, 110, 115, 116])), (.c (.int .i64 4095)), (.c (.int .i64 0)), (.c (.int .i64 4095))]⟩,
  ⟨none, none, .store 13 (.t 2) (.t 12)⟩]
@[go_sem] def scriptingref32_data_r7 : List AI := [
  ⟨(some 14), none, .bin .eql (.t 6) (.c (.int .i64 3))⟩,
  ⟨(some 13), none, .mov (.t 14)⟩]
@[go_sem] def scriptingref32_data_r8 : List AI := [
  ⟨(some 15), none, .call 65 [(.c (.str [110, 105, 108])), (.c (.int .i64 4095)), (.c (.int .i64 0)), (.c (.int .i64 4095))]⟩,
  ⟨none, none, .store 13 (.t 2) (.t 15)⟩]
@[go_sem] def scriptingref32_data_r9 : List AI := [
  ⟨(some 17), none, .bin .eql (.t 6) (.c (.int .i64 4))⟩,
  ⟨(some 16), none, .mov (.t 17)⟩]
@[go_sem] def scriptingref32_data_r10 : List AI := [
  ⟨(some 18), none, .call 65 [(.c (.str [98, 111, 111, 108])), (.c (.int .i64 4095)), (.c (.int .i64 0)), (.c (.int .i64 1))]⟩,
  ⟨none, none, .store 13 (.t 2) (.t 18)⟩]
@[go_sem] def scriptingref32_data_r11 : List AI := [
  ⟨(some 20), none, .bin .eql (.t 6) (.c (.int .i64 5))⟩,
  ⟨(some 19), none, .mov (.t 20)⟩]
@[go_sem] def scriptingref32_data_r12 : List AI := [
  ⟨(some 21), none, .call 65 [(.c (.str [117, 112, 103, 101, 116])), (.c (.int .i64 4095)), (.c (.int .i64 0)), (.c (.int .i64 59))]⟩,
  ⟨none, none, .store 13 (.t 2) (.t 21)⟩]
@[go_sem] def scriptingref32_data_r13 : List AI := [
  ⟨(some 23), none, .bin .eql (.t 6) (.c (.int .i64 6))⟩,
  ⟨(some 22), none, .mov (.t 23)⟩]
@[go_sem] def scriptingref32_data_r14 : List AI := [
  ⟨(some 24), none, .call 65 [(.c (.str [117, 112, 115, 101, 116])), (.c (.int .i64 59)), (.c (.int .i64 0)), (.c (.int .i64 4095))]⟩,
  ⟨none, none, .store 13 (.t 2) (.t 24)⟩]
@[go_sem] def scriptingref32_data_r15 : List AI := [
  ⟨(some 26), none, .bin .eql (.t 6) (.c (.int .i64 7))⟩,
  ⟨(some 25), none, .mov (.t 26)⟩]
@[go_sem] def scriptingref32_data_r16 : List AI := [
  ⟨(some 27), none, .call 65 [(.c (.str [103, 108, 111, 98, 97, 108])), (.c (.int .i64 4095)), (.c (.int .i64 0)), (.c (.int .i64 4095))]⟩,
  ⟨none, none, .store 13 (.t 2) (.t 27)⟩]
@[go_sem] def scriptingref32_data_r17 : List AI := [
  ⟨(some 29), none, .bin .eql (.t 6) (.c (.int .i64 8))⟩,
  ⟨(some 28), none, .mov (.t 29)⟩]
@[go_sem] def scriptingref32_data_r18 : List AI := [
  ⟨(some 30), none, .call 65 [(.c (.str [115, 101, 116, 103, 108, 111, 98])), (.c (.int .i64 4095)), (.c (.int .i64 0)), (.c (.int .i64 4095))]⟩,
  ⟨none, none, .store 13 (.t 2) (.t 30)⟩]
@[go_sem] def scriptingref32_data_r19 : List AI := [
  ⟨(some 32), none, .bin .eql (.t 6) (.c (.int .i64 9))⟩,
  ⟨(some 31), none, .mov (.t 32)⟩]
@[go_sem] def scriptingref32_data_r20 : List AI := [
  ⟨(some 33), none, .load 2 true (.t 3)⟩,
  ⟨(some 34), none, .load 2 true (.t 3)⟩,
  ⟨(some 35), none, .call 66 [(.c (.str [103, 101, 116])), (.c (.int .i64 4095)), (.t 33), (.t 34)]⟩,
  ⟨none, none, .store 13 (.t 2) (.t 35)⟩]
@[go_sem] def scriptingref32_data_r21 : List AI := [
  ⟨(some 37), none, .bin .eql (.t 6) (.c (.int .i64 10))⟩,
  ⟨(some 36), none, .mov (.t 37)⟩]
@[go_sem] def scriptingref32_data_r22 : List AI := [
  ⟨(some 38), none, .load 2 true (.t 3)⟩,
  ⟨(some 39), none, .load 2 true (.t 3)⟩,
  ⟨(some 40), none, .call 66 [(.c (.str [115, 101, 116])), (.c (.int .i64 4095)), (.t 38), (.t 39)]⟩,
  ⟨none, none, .store 13 (.t 2) (.t 40)⟩]
@[go_sem] def scriptingref32_data_r23 : List AI := [
  ⟨(some 42), none, .bin .eql (.t 6) (.c (.int .i64 11))⟩,
  ⟨(some 41), none, .mov (.t 42)⟩]
@[go_sem] def scriptingref32_data_r24 : List AI := [
  ⟨(some 43), none, .load 2 true (.t 3)⟩,
  ⟨(some 44), none, .build [(.int .i64 0), (.int .i64 0)] [(0, 1, (.c (.int .i64 0))), (1, 1, (.c (.int .i64 4095)))]⟩,
  ⟨(some 45), none, .call 66 [(.c (.str [115, 101, 108, 102])), (.c (.int .i64 4094)), (.t 43), (.t 44)]⟩,
  ⟨none, none, .store 13 (.t 2) (.t 45)⟩]
@[go_sem] def scriptingref32_data_r25 : List AI := [
  ⟨(some 47), none, .bin .eql (.t 6) (.c (.int .i64 12))⟩,
  ⟨(some 46), none, .mov (.t 47)⟩]
@[go_sem] def scriptingref32_data_r26 : List AI := [
  ⟨(some 48), none, .load 2 true (.t 3)⟩,
  ⟨(some 49), none, .build [(.int .i64 0), (.int .i64 0)] [(0, 1, (.c (.int .i64 20))), (1, 1, (.c (.int .i64 23)))]⟩,
  ⟨(some 50), none, .call 66 [(.c (.str [117, 110, 97, 114, 121])), (.c (.int .i64 4095)), (.t 48), (.t 49)]⟩,
  ⟨none, none, .store 13 (.t 2) (.t 50)⟩]
@[go_sem] def scriptingref32_data_r27 : List AI := [
  ⟨(some 52), none, .bin .eql (.t 6) (.c (.int .i64 13))⟩,
  ⟨(some 51), none, .mov (.t 52)⟩]
@[go_sem] def scriptingref32_data_r28 : List AI := [
  ⟨(some 53), none, .load 2 true (.t 3)⟩,
  ⟨(some 54), none, .load 2 true (.t 3)⟩,
  ⟨(some 55), none, .call 66 [(.c (.str [98, 105, 110, 97, 114, 121])), (.c (.int .i64 4095)), (.t 53), (.t 54)]⟩,
  ⟨(some 4), none, .box 490004 13 (.c (.agg [(.str []), (.bool false), (.bool false), (.bool false), (.bool false), (.int .i64 0), (.int .i64 0), (.int .i64 0), (.int .i64 0), (.int .i64 0), (.int .i64 0), (.int .i64 0), (.int .i64 0)]))⟩,
  ⟨none, none, .store 13 (.t 4) (.t 55)⟩]
@[go_sem] def scriptingref32_data_r29 : List AI := [
  ⟨(some 56), none, .faddr 1 (.t 4)⟩,
  ⟨(some 57), none, .iaddrA 4 1 (.t 56) (.c (.int .i64 3))⟩,
  ⟨none, none, .store 1 (.t 57) (.c (.bool true))⟩]
@[go_sem] def scriptingref32_data_r30 : List AI := [
  ⟨(some 58), none, .faddr 5 (.t 4)⟩,
  ⟨(some 59), none, .iaddrA 4 1 (.t 58) (.c (.int .i64 3))⟩,
  ⟨none, none, .store 1 (.t 59) (.c (.int .i64 1))⟩]
@[go_sem] def scriptingref32_data_r31 : List AI := [
  ⟨(some 60), none, .faddr 9 (.t 4)⟩,
  ⟨(some 61), none, .iaddrA 4 1 (.t 60) (.c (.int .i64 3))⟩,
  ⟨none, none, .store 1 (.t 61) (.c (.int .i64 19))⟩]
@[go_sem] def scriptingref32_data_r32 : List AI := [
  ⟨(some 62), none, .load 13 true (.t 4)⟩,
  ⟨none, none, .store 13 (.t 2) (.t 62)⟩]
@[go_sem] def scriptingref32_data_r33 : List AI := [
  ⟨(some 63), none, .mov (.t 0)⟩,
  ⟨(some 64), none, .call 67 [(.t 63)]⟩,
  ⟨none, none, .store 13 (.t 2) (.t 64)⟩]
@[go_sem] def scriptingref32_data_c : AC := .seq (.ops [scriptingref32_data_r0]) (.seq (.ops [scriptingref32_data_r1]) (.seq (.seq (.ops [scriptingref32_data_r2]) (.block 0 (.seq (.ops [scriptingref32_data_r3]) (.cond (.t 7) (.seq (.ops [scriptingref32_data_r4]) (.ret)) (.seq (.ops [scriptingref32_data_r5]) (.cond (.t 10) (.seq (.ops [scriptingref32_data_r6]) (.ret)) (.seq (.ops [scriptingref32_data_r7]) (.cond (.t 13) (.seq (.ops [scriptingref32_data_r8]) (.ret)) (.seq (.ops [scriptingref32_data_r9]) (.cond (.t 16) (.seq (.ops [scriptingref32_data_r10]) (.ret)) (.seq (.ops [scriptingref32_data_r11]) (.cond (.t 19) (.seq (.ops [scriptingref32_data_r12]) (.ret)) (.seq (.ops [scriptingref32_data_r13]) (.cond (.t 22) (.seq (.ops [scriptingref32_data_r14]) (.ret)) (.seq (.ops [scriptingref32_data_r15]) (.cond (.t 25) (.seq (.ops [scriptingref32_data_r16]) (.ret)) (.seq (.ops [scriptingref32_data_r17]) (.cond (.t 28) (.seq (.ops [scriptingref32_data_r18]) (.ret)) (.seq (.ops [scriptingref32_data_r19]) (.cond (.t 31) (.seq (.ops [scriptingref32_data_r20]) (.ret)) (.seq (.ops [scriptingref32_data_r21]) (.cond (.t 36) (.seq (.ops [scriptingref32_data_r22]) (.ret)) (.seq (.ops [scriptingref32_data_r23]) (.cond (.t 41) (.seq (.ops [scriptingref32_data_r24]) (.ret)) (.seq (.ops [scriptingref32_data_r25]) (.cond (.t 46) (.seq (.ops [scriptingref32_data_r26]) (.ret)) (.seq (.ops [scriptingref32_data_r27]) (.cond (.t 51) (.seq (.ops [scriptingref32_data_r28]) (.seq (.ops [scriptingref32_data_r29]) (.seq (.ops [scriptingref32_data_r30]) (.seq (.ops [scriptingref32_data_r31]) (.seq (.ops [scriptingref32_data_r32]) (.ret)))))) (.skip))))))))))))))))))))))))))))) (.seq (.ops [scriptingref32_data_r33]) (.ret))))
theorem scriptingref32_data_ok : compF Tryd.prog 49 = some (65, scriptingref32_data_c, [.c 2 13 true]) := by kernel_rfl

@[go_sem] def scriptingref32_fields_r0 : List AI := [
  ⟨(some 1), none, .box 500001 5 (.t 0)⟩,
  ⟨(some 2), none, .box 500002 4 (.c (.agg [(.int .i64 0), (.int .i64 0), (.int .i64 0), (.int .i64 0)]))⟩]
@[go_sem] def scriptingref32_fields_r1 : List AI := [
  ⟨(some 3), none, .faddr 1 (.t 1)⟩,
  ⟨(some 4), none, .load 1 false (.t 3)⟩,
  ⟨(some 5), none, .faddr 2 (.t 1)⟩,
  ⟨(some 6), none, .load 1 false (.t 5)⟩,
  ⟨(some 7), none, .faddr 3 (.t 1)⟩,
  ⟨(some 8), none, .load 1 false (.t 7)⟩,
  ⟨(some 9), none, .faddr 4 (.t 1)⟩,
  ⟨(some 10), none, .load 1 false (.t 9)⟩,
  ⟨(some 11), none, .build [(.int .i64 0), (.int .i64 0), (.int .i64 0), (.int .i64 0)] [(0, 1, (.t 4)), (1, 1, (.t 6)), (2, 1, (.t 8)), (3, 1, (.t 10))]⟩,
  ⟨none, none, .store 4 (.t 2) (.t 11)⟩]
@[go_sem] def scriptingref32_fields_c : AC := .seq (.ops [scriptingref32_fields_r0]) (.seq (.ops [scriptingref32_fields_r1]) (.ret))
theorem scriptingref32_fields_ok : compF Tryd.prog 50 = some (12, scriptingref32_fields_c, [.c 2 4 true]) := by kernel_rfl

@[go_sem] def scriptingref32_limit_r0 : List AI := [
  ⟨(some 1), none, .box 510001 5 (.t 0)⟩,
  ⟨(some 2), none, .mov (.c (.int .i64 0))⟩]
@[go_sem] def scriptingref32_limit_r1 : List AI := [
  ⟨(some 3), none, .faddr 0 (.t 1)⟩,
  ⟨(some 4), none, .load 1 false (.t 3)⟩]
@[go_sem] def scriptingref32_limit_r2 : List AI := [
  ⟨(some 6), none, .bin .eql (.t 4) (.c (.int .i64 16))⟩,
  ⟨(some 5), none, .mov (.t 6)⟩]
@[go_sem] def scriptingref32_limit_r3 : List AI := [
  ⟨(some 7), none, .faddr 1 (.t 1)⟩,
  ⟨(some 8), none, .load 1 false (.t 7)⟩,
  ⟨(some 9), none, .faddr 2 (.t 1)⟩,
  ⟨(some 10), none, .load 1 false (.t 9)⟩,
  ⟨(some 11), none, .mm true [(.t 10), (.c (.int .i64 0))]⟩,
  ⟨(some 12), none, .bin .add (.t 8) (.t 11)⟩,
  ⟨(some 13), none, .faddr 1 (.t 1)⟩,
  ⟨(some 14), none, .load 1 false (.t 13)⟩,
  ⟨(some 15), none, .faddr 3 (.t 1)⟩,
  ⟨(some 16), none, .load 1 false (.t 15)⟩,
  ⟨(some 17), none, .bin .add (.t 14) (.t 16)⟩,
  ⟨(some 18), none, .bin .sub (.t 17) (.c (.int .i64 1))⟩,
  ⟨(some 19), none, .mm true [(.t 12), (.t 18)]⟩,
  ⟨(some 2), none, .mov (.t 19)⟩]
@[go_sem] def scriptingref32_limit_r4 : List AI := [
  ⟨(some 21), none, .bin .eql (.t 4) (.c (.int .i64 17))⟩,
  ⟨(some 20), none, .mov (.t 21)⟩]
@[go_sem] def scriptingref32_limit_r5 : List AI := [
  ⟨(some 22), none, .bin .eql (.t 4) (.c (.int .i64 21))⟩,
  ⟨(some 20), none, .mov (.t 22)⟩]
@[go_sem] def scriptingref32_limit_r6 : List AI := [
  ⟨(some 23), none, .faddr 1 (.t 1)⟩,
  ⟨(some 24), none, .load 1 false (.t 23)⟩,
  ⟨(some 25), none, .faddr 2 (.t 1)⟩,
  ⟨(some 26), none, .load 1 false (.t 25)⟩,
  ⟨(some 27), none, .mm true [(.t 26), (.c (.int .i64 0))]⟩,
  ⟨(some 28), none, .bin .add (.t 24) (.t 27)⟩,
  ⟨(some 2), none, .mov (.t 28)⟩]
@[go_sem] def scriptingref32_limit_r7 : List AI := [
  ⟨(some 30), none, .bin .eql (.t 4) (.c (.int .i64 18))⟩,
  ⟨(some 29), none, .mov (.t 30)⟩]
@[go_sem] def scriptingref32_limit_r8 : List AI := [
  ⟨(some 31), none, .bin .eql (.t 4) (.c (.int .i64 19))⟩,
  ⟨(some 29), none, .mov (.t 31)⟩]
@[go_sem] def scriptingref32_limit_r9 : List AI := [
  ⟨(some 32), none, .faddr 1 (.t 1)⟩,
  ⟨(some 33), none, .load 1 false (.t 32)⟩,
  ⟨(some 34), none, .faddr 2 (.t 1)⟩,
  ⟨(some 35), none, .load 1 false (.t 34)⟩,
  ⟨(some 36), none, .bin .add (.t 33) (.t 35)⟩,
  ⟨(some 37), none, .bin .sub (.t 36) (.c (.int .i64 1))⟩,
  ⟨(some 2), none, .mov (.t 37)⟩]
@[go_sem] def scriptingref32_limit_r10 : List AI := [
  ⟨(some 39), none, .bin .eql (.t 4) (.c (.int .i64 25))⟩,
  ⟨(some 38), none, .mov (.t 39)⟩]
@[go_sem] def scriptingref32_limit_r11 : List AI := [
  ⟨(some 40), none, .faddr 1 (.t 1)⟩,
  ⟨(some 41), none, .load 1 false (.t 40)⟩,
  ⟨(some 42), none, .bin .add (.t 41) (.c (.int .i64 2))⟩,
  ⟨(some 43), none, .faddr 3 (.t 1)⟩,
  ⟨(some 44), none, .load 1 false (.t 43)⟩,
  ⟨(some 45), none, .bin .add (.t 42) (.t 44)⟩,
  ⟨(some 2), none, .mov (.t 45)⟩]
@[go_sem] def scriptingref32_limit_r12 : List AI := [
  ⟨(some 2), none, .mov (.c (.int .i64 0))⟩]
@[go_sem] def scriptingref32_limit_c : AC := .seq (.ops [scriptingref32_limit_r0]) (.seq (.seq (.ops [scriptingref32_limit_r1]) (.block 0 (.seq (.ops [scriptingref32_limit_r2]) (.cond (.t 5) (.seq (.ops [scriptingref32_limit_r3]) (.ret)) (.seq (.seq (.ops [scriptingref32_limit_r4]) (.cond (.t 20) (.skip) (.ops [scriptingref32_limit_r5]))) (.cond (.t 20) (.seq (.ops [scriptingref32_limit_r6]) (.ret)) (.seq (.seq (.ops [scriptingref32_limit_r7]) (.cond (.t 29) (.skip) (.ops [scriptingref32_limit_r8]))) (.cond (.t 29) (.seq (.ops [scriptingref32_limit_r9]) (.ret)) (.seq (.ops [scriptingref32_limit_r10]) (.cond (.t 38) (.seq (.ops [scriptingref32_limit_r11]) (.ret)) (.skip))))))))))) (.seq (.ops [scriptingref32_limit_r12]) (.ret)))
theorem scriptingref32_limit_ok : compF Tryd.prog 51 = some (46, scriptingref32_limit_c, [.t 2]) := by kernel_rfl

@[go_sem] def slices_insertionSortOrdered_int_r0 : List AI := [
  ⟨(some 8), none, .mov (.t 1)⟩,
  ⟨(some 9), none, .bin .add (.t 8) (.c (.int .i64 1))⟩,
  ⟨(some 6), none, .mov (.t 9)⟩]
@[go_sem] def slices_insertionSortOrdered_int_r1 : List AI := [
  ⟨(some 10), none, .mov (.t 6)⟩,
  ⟨(some 11), none, .mov (.t 2)⟩,
  ⟨(some 12), none, .bin .lss (.t 10) (.t 11)⟩]
@[go_sem] def slices_insertionSortOrdered_int_r2 : List AI := [
  ⟨(some 15), none, .mov (.t 6)⟩,
  ⟨(some 7), none, .mov (.t 15)⟩]
@[go_sem] def slices_insertionSortOrdered_int_r3 : List AI := [
  ⟨(some 16), none, .mov (.t 7)⟩,
  ⟨(some 17), none, .mov (.t 1)⟩,
  ⟨(some 18), none, .bin .gtr (.t 16) (.t 17)⟩,
  ⟨(some 19), none, .mov (.t 18)⟩,
  ⟨(some 20), (some (19, true)), .mov (.t 0)⟩,
  ⟨(some 21), (some (19, true)), .mov (.t 7)⟩,
  ⟨(some 22), (some (19, true)), .iaddr 1 (.t 20) (.t 21)⟩,
  ⟨(some 23), (some (19, true)), .load 1 false (.t 22)⟩,
  ⟨(some 24), (some (19, true)), .mov (.t 0)⟩,
  ⟨(some 25), (some (19, true)), .mov (.t 7)⟩,
  ⟨(some 26), (some (19, true)), .bin .sub (.t 25) (.c (.int .i64 1))⟩,
  ⟨(some 27), (some (19, true)), .iaddr 1 (.t 24) (.t 26)⟩,
  ⟨(some 28), (some (19, true)), .load 1 false (.t 27)⟩,
  ⟨(some 29), (some (19, true)), .call 60 [(.t 23), (.t 28)]⟩,
  ⟨(some 30), none, .pick (.t 19) (.t 29) (.c (.bool false))⟩]
@[go_sem] def slices_insertionSortOrdered_int_r4 : List AI := [
  ⟨(some 33), none, .mov (.t 0)⟩,
  ⟨(some 34), none, .mov (.t 7)⟩,
  ⟨(some 35), none, .mov (.t 0)⟩,
  ⟨(some 36), none, .mov (.t 7)⟩,
  ⟨(some 37), none, .bin .sub (.t 36) (.c (.int .i64 1))⟩,
  ⟨(some 38), none, .mov (.t 0)⟩,
  ⟨(some 39), none, .mov (.t 7)⟩,
  ⟨(some 40), none, .bin .sub (.t 39) (.c (.int .i64 1))⟩,
  ⟨(some 41), none, .iaddr 1 (.t 38) (.t 40)⟩,
  ⟨(some 42), none, .load 1 false (.t 41)⟩,
  ⟨(some 43), none, .mov (.t 0)⟩,
  ⟨(some 44), none, .mov (.t 7)⟩,
  ⟨(some 45), none, .iaddr 1 (.t 43) (.t 44)⟩,
  ⟨(some 46), none, .load 1 false (.t 45)⟩,
  ⟨(some 47), none, .iaddr 1 (.t 33) (.t 34)⟩,
  ⟨none, none, .store 1 (.t 47) (.t 42)⟩,
  ⟨(some 48), none, .iaddr 1 (.t 35) (.t 37)⟩,
  ⟨none, none, .store 1 (.t 48) (.t 46)⟩]
@[go_sem] def slices_insertionSortOrdered_int_r5 : List AI := [
  ⟨(some 31), none, .mov (.t 7)⟩,
  ⟨(some 32), none, .bin .sub (.t 31) (.c (.int .i64 1))⟩,
  ⟨(some 7), none, .mov (.t 32)⟩]
def slices_insertionSortOrdered_int_l1 : AC := .seq (.seq (.ops [slices_insertionSortOrdered_int_r3]) (.cond (.t 30) (.skip) (.exit 2))) (.seq (.block 3 (.ops [slices_insertionSortOrdered_int_r4])) (.ops [slices_insertionSortOrdered_int_r5]))
theorem slices_insertionSortOrdered_int_l1_eq : slices_insertionSortOrdered_int_l1 = .seq (.seq (.ops [slices_insertionSortOrdered_int_r3]) (.cond (.t 30) (.skip) (.exit 2))) (.seq (.block 3 (.ops [slices_insertionSortOrdered_int_r4])) (.ops [slices_insertionSortOrdered_int_r5])) := rfl
@[go_sem] def slices_insertionSortOrdered_int_r6 : List AI := [
  ⟨(some 13), none, .mov (.t 6)⟩,
  ⟨(some 14), none, .bin .add (.t 13) (.c (.int .i64 1))⟩,
  ⟨(some 6), none, .mov (.t 14)⟩]
def slices_insertionSortOrdered_int_l0 : AC := .seq (.seq (.ops [slices_insertionSortOrdered_int_r1]) (.cond (.t 12) (.skip) (.exit 0))) (.seq (.block 1 (.seq (.ops [slices_insertionSortOrdered_int_r2]) (.block 2 (.loop slices_insertionSortOrdered_int_l1)))) (.ops [slices_insertionSortOrdered_int_r6]))
theorem slices_insertionSortOrdered_int_l0_eq : slices_insertionSortOrdered_int_l0 = .seq (.seq (.ops [slices_insertionSortOrdered_int_r1]) (.cond (.t 12) (.skip) (.exit 0))) (.seq (.block 1 (.seq (.ops [slices_insertionSortOrdered_int_r2]) (.block 2 (.loop slices_insertionSortOrdered_int_l1)))) (.ops [slices_insertionSortOrdered_int_r6])) := rfl
@[go_sem] def slices_insertionSortOrdered_int_c : AC := .seq (.ops [slices_insertionSortOrdered_int_r0]) (.block 0 (.loop slices_insertionSortOrdered_int_l0))
theorem slices_insertionSortOrdered_int_ok : compF Tryd.prog 54 = some (49, slices_insertionSortOrdered_int_c, []) := by kernel_rfl

@[go_sem] def cmp_Less_int_r0 : List AI := [
  ⟨(some 4), none, .mov (.c (.bool false))⟩]
@[go_sem] def cmp_Less_int_r1 : List AI := [
  ⟨(some 5), none, .mov (.t 0)⟩,
  ⟨(some 6), none, .call 74 [(.t 5)]⟩,
  ⟨(some 7), none, .mov (.t 6)⟩,
  ⟨(some 8), (some (7, true)), .mov (.t 1)⟩,
  ⟨(some 9), (some (7, true)), .call 74 [(.t 8)]⟩,
  ⟨(some 10), (some (7, true)), .un .not (.t 9)⟩,
  ⟨(some 11), none, .pick (.t 7) (.t 10) (.c (.bool false))⟩,
  ⟨(some 12), none, .mov (.t 11)⟩,
  ⟨(some 13), (some (12, false)), .mov (.t 0)⟩,
  ⟨(some 14), (some (12, false)), .mov (.t 1)⟩,
  ⟨(some 15), (some (12, false)), .bin .lss (.t 13) (.t 14)⟩,
  ⟨(some 16), none, .pick (.t 12) (.c (.bool true)) (.t 15)⟩,
  ⟨(some 4), none, .mov (.t 16)⟩]
@[go_sem] def cmp_Less_int_c : AC := .seq (.ops [cmp_Less_int_r0]) (.seq (.ops [cmp_Less_int_r1]) (.ret))
theorem cmp_Less_int_ok : compF Tryd.prog 60 = some (17, cmp_Less_int_c, [.t 4]) := by kernel_rfl

@[go_sem] def scriptingref32_ab_r0 : List AI := [
  ⟨(some 8), none, .box 650008 13 (.c (.agg [(.str []), (.bool false), (.bool false), (.bool false), (.bool false), (.int .i64 0), (.int .i64 0), (.int .i64 0), (.int .i64 0), (.int .i64 0), (.int .i64 0), (.int .i64 0), (.int .i64 0)]))⟩]
@[go_sem] def scriptingref32_ab_r1 : List AI := [
  ⟨(some 9), none, .mov (.t 0)⟩,
  ⟨(some 10), none, .build [(.bool false), (.bool false), (.bool false), (.bool false)] [(0, 1, (.c (.bool true))), (1, 1, (.c (.bool true))), (2, 1, (.c (.bool false))), (3, 1, (.c (.bool false)))]⟩,
  ⟨(some 11), none, .mov (.t 2)⟩,
  ⟨(some 12), none, .build [(.int .i64 0), (.int .i64 0), (.int .i64 0), (.int .i64 0)] [(0, 1, (.c (.int .i64 0))), (1, 1, (.t 11)), (2, 1, (.c (.int .i64 0))), (3, 1, (.c (.int .i64 0)))]⟩,
  ⟨(some 13), none, .mov (.t 1)⟩,
  ⟨(some 14), none, .mov (.t 3)⟩,
  ⟨(some 15), none, .build [(.int .i64 0), (.int .i64 0), (.int .i64 0), (.int .i64 0)] [(0, 1, (.t 13)), (1, 1, (.t 14)), (2, 1, (.c (.int .i64 0))), (3, 1, (.c (.int .i64 0)))]⟩,
  ⟨(some 16), none, .build [(.str []), (.bool false), (.bool false), (.bool false), (.bool false), (.int .i64 0), (.int .i64 0), (.int .i64 0), (.int .i64 0), (.int .i64 0), (.int .i64 0), (.int .i64 0), (.int .i64 0)] [(0, 1, (.t 9)), (1, 4, (.t 10)), (5, 4, (.t 12)), (9, 4, (.t 15))]⟩,
  ⟨none, none, .store 13 (.t 8) (.t 16)⟩]
@[go_sem] def scriptingref32_ab_c : AC := .seq (.ops [scriptingref32_ab_r0]) (.seq (.ops [scriptingref32_ab_r1]) (.ret))
theorem scriptingref32_ab_ok : compF Tryd.prog 65 = some (17, scriptingref32_ab_c, [.c 8 13 true]) := by kernel_rfl

@[go_sem] def scriptingref32_abc_r0 : List AI := [
  ⟨(some 6), none, .box 660006 2 (.t 2)⟩,
  ⟨(some 7), none, .box 660007 2 (.t 3)⟩,
  ⟨(some 8), none, .box 660008 13 (.c (.agg [(.str []), (.bool false), (.bool false), (.bool false), (.bool false), (.int .i64 0), (.int .i64 0), (.int .i64 0), (.int .i64 0), (.int .i64 0), (.int .i64 0), (.int .i64 0), (.int .i64 0)]))⟩]
@[go_sem] def scriptingref32_abc_r1 : List AI := [
  ⟨(some 9), none, .mov (.t 0)⟩,
  ⟨(some 10), none, .build [(.bool false), (.bool false), (.bool false), (.bool false)] [(0, 1, (.c (.bool true))), (1, 1, (.c (.bool true))), (2, 1, (.c (.bool true))), (3, 1, (.c (.bool false)))]⟩,
  ⟨(some 11), none, .iaddrA 2 1 (.t 6) (.c (.int .i64 0))⟩,
  ⟨(some 12), none, .load 1 false (.t 11)⟩,
  ⟨(some 13), none, .iaddrA 2 1 (.t 7) (.c (.int .i64 0))⟩,
  ⟨(some 14), none, .load 1 false (.t 13)⟩,
  ⟨(some 15), none, .build [(.int .i64 0), (.int .i64 0), (.int .i64 0), (.int .i64 0)] [(0, 1, (.c (.int .i64 0))), (1, 1, (.t 12)), (2, 1, (.t 14)), (3, 1, (.c (.int .i64 0)))]⟩,
  ⟨(some 16), none, .mov (.t 1)⟩,
  ⟨(some 17), none, .iaddrA 2 1 (.t 6) (.c (.int .i64 1))⟩,
  ⟨(some 18), none, .load 1 false (.t 17)⟩,
  ⟨(some 19), none, .iaddrA 2 1 (.t 7) (.c (.int .i64 1))⟩,
  ⟨(some 20), none, .load 1 false (.t 19)⟩,
  ⟨(some 21), none, .build [(.int .i64 0), (.int .i64 0), (.int .i64 0), (.int .i64 0)] [(0, 1, (.t 16)), (1, 1, (.t 18)), (2, 1, (.t 20)), (3, 1, (.c (.int .i64 0)))]⟩,
  ⟨(some 22), none, .build [(.str []), (.bool false), (.bool false), (.bool false), (.bool false), (.int .i64 0), (.int .i64 0), (.int .i64 0), (.int .i64 0), (.int .i64 0), (.int .i64 0), (.int .i64 0), (.int .i64 0)] [(0, 1, (.t 9)), (1, 4, (.t 10)), (5, 4, (.t 15)), (9, 4, (.t 21))]⟩,
  ⟨none, none, .store 13 (.t 8) (.t 22)⟩]
@[go_sem] def scriptingref32_abc_c : AC := .seq (.ops [scriptingref32_abc_r0]) (.seq (.ops [scriptingref32_abc_r1]) (.ret))
theorem scriptingref32_abc_ok : compF Tryd.prog 66 = some (23, scriptingref32_abc_c, [.c 8 13 true]) := by kernel_rfl

@[go_sem] def scriptingref32_later_r0 : List AI := [
  ⟨(some 2), none, .box 670002 13 (.c (.agg [(.str []), (.bool false), (.bool false), (.bool false), (.bool false), (.int .i64 0), (.int .i64 0), (.int .i64 0), (.int .i64 0), (.int .i64 0), (.int .i64 0), (.int .i64 0), (.int .i64 0)]))⟩]
@[go_sem] def scriptingref32_later_r1 : List AI := [
  ⟨(some 6), none, .build [(.int .i64 0), (.int .i64 0)] [(0, 1, (.c (.int .i64 (-1)))), (1, 1, (.c (.int .i64 200)))]⟩,
  ⟨(some 3), none, .box 670003 2 (.c (.agg [(.int .i64 0), (.int .i64 0)]))⟩,
  ⟨none, none, .store 2 (.t 3) (.t 6)⟩]
@[go_sem] def scriptingref32_later_r2 : List AI := [
  ⟨(some 7), none, .build [(.int .i64 0), (.int .i64 0)] [(0, 1, (.c (.int .i64 (-1)))), (1, 1, (.c (.int .i64 4096)))]⟩,
  ⟨(some 4), none, .box 670004 2 (.c (.agg [(.int .i64 0), (.int .i64 0)]))⟩,
  ⟨none, none, .store 2 (.t 4) (.t 7)⟩]
@[go_sem] def scriptingref32_later_r3 : List AI := [
  ⟨(some 8), none, .build [(.int .i64 0), (.int .i64 0)] [(0, 1, (.c (.int .i64 0))), (1, 1, (.c (.int .i64 16383)))]⟩,
  ⟨(some 5), none, .box 670005 2 (.c (.agg [(.int .i64 0), (.int .i64 0)]))⟩,
  ⟨none, none, .store 2 (.t 5) (.t 8)⟩]
@[go_sem] def scriptingref32_later_r4 : List AI := [
  ⟨(some 9), none, .mov (.t 0)⟩]
@[go_sem] def scriptingref32_later_r5 : List AI := [
  ⟨(some 11), none, .bin .eql (.t 9) (.c (.int .i64 14))⟩,
  ⟨(some 10), none, .mov (.t 11)⟩]
@[go_sem] def scriptingref32_later_r6 : List AI := [
  ⟨(some 12), none, .build [(.bool false), (.bool false), (.bool false), (.bool false)] [(0, 1, (.c (.bool false))), (1, 1, (.c (.bool true))), (2, 1, (.c (.bool false))), (3, 1, (.c (.bool false)))]⟩,
  ⟨(some 13), none, .build [(.int .i64 0), (.int .i64 0), (.int .i64 0), (.int .i64 0)] [(0, 1, (.c (.int .i64 0))), (1, 1, (.c (.int .i64 16383))), (2, 1, (.c (.int .i64 0))), (3, 1, (.c (.int .i64 0)))]⟩,
  ⟨(some 14), none, .build [(.str []), (.bool false), (.bool false), (.bool false), (.bool false), (.int .i64 0), (.int .i64 0), (.int .i64 0), (.int .i64 0), (.int .i64 0), (.int .i64 0), (.int .i64 0), (.int .i64 0)] [(0, 1, (.c (.str [106, 117, 109, 112]))), (1, 4, (.t 12)), (9, 4, (.t 13))]⟩,
  ⟨none, none, .store 13 (.t 2) (.t 14)⟩]
@[go_sem] def scriptingref32_later_r7 : List AI := [
  ⟨(some 16), none, .bin .eql (.t 9) (.c (.int .i64 15))⟩,
  ⟨(some 15), none, .mov (.t 16)⟩]
@[go_sem] def scriptingref32_later_r8 : List AI := [
  ⟨(some 17), none, .load 2 true (.t 5)⟩,
  ⟨(some 18), none, .build [(.int .i64 0), (.int .i64 0)] [(0, 1, (.c (.int .i64 0))), (1, 1, (.c (.int .i64 1)))]⟩,
  ⟨(some 19), none, .call 66 [(.c (.str [116, 101, 115, 116])), (.c (.int .i64 4095)), (.t 17), (.t 18)]⟩,
  ⟨none, none, .store 13 (.t 2) (.t 19)⟩]
@[go_sem] def scriptingref32_later_r9 : List AI := [
  ⟨(some 21), none, .bin .eql (.t 9) (.c (.int .i64 16))⟩,
  ⟨(some 20), none, .mov (.t 21)⟩]
@[go_sem] def scriptingref32_later_r10 : List AI := [
  ⟨(some 22), none, .load 2 true (.t 4)⟩,
  ⟨(some 23), none, .load 2 true (.t 3)⟩,
  ⟨(some 24), none, .call 66 [(.c (.str [99, 97, 108, 108])), (.c (.int .i64 4095)), (.t 22), (.t 23)]⟩,
  ⟨none, none, .store 13 (.t 2) (.t 24)⟩]
@[go_sem] def scriptingref32_later_r11 : List AI := [
  ⟨(some 26), none, .bin .eql (.t 9) (.c (.int .i64 17))⟩,
  ⟨(some 25), none, .mov (.t 26)⟩]
@[go_sem] def scriptingref32_later_r12 : List AI := [
  ⟨(some 27), none, .call 65 [(.c (.str [116, 97, 105, 108])), (.c (.int .i64 4095)), (.c (.int .i64 (-1))), (.c (.int .i64 4096))]⟩,
  ⟨none, none, .store 13 (.t 2) (.t 27)⟩]
@[go_sem] def scriptingref32_later_r13 : List AI := [
  ⟨(some 29), none, .bin .eql (.t 9) (.c (.int .i64 18))⟩,
  ⟨(some 28), none, .mov (.t 29)⟩]
@[go_sem] def scriptingref32_later_r14 : List AI := [
  ⟨(some 30), none, .call 65 [(.c (.str [114, 101, 116, 117, 114, 110])), (.c (.int .i64 4095)), (.c (.int .i64 (-1))), (.c (.int .i64 4096))]⟩,
  ⟨none, none, .store 13 (.t 2) (.t 30)⟩]
@[go_sem] def scriptingref32_later_r15 : List AI := [
  ⟨(some 32), none, .bin .eql (.t 9) (.c (.int .i64 19))⟩,
  ⟨(some 31), none, .mov (.t 32)⟩]
@[go_sem] def scriptingref32_later_r16 : List AI := [
  ⟨(some 33), none, .call 65 [(.c (.str [118, 97, 114, 97, 114, 103])), (.c (.int .i64 4095)), (.c (.int .i64 (-1))), (.c (.int .i64 200))]⟩,
  ⟨none, none, .store 13 (.t 2) (.t 33)⟩]
@[go_sem] def scriptingref32_later_r17 : List AI := [
  ⟨(some 35), none, .bin .eql (.t 9) (.c (.int .i64 20))⟩,
  ⟨(some 34), none, .mov (.t 35)⟩]
@[go_sem] def scriptingref32_later_r18 : List AI := [
  ⟨(some 36), none, .call 75 [(.c (.str [116, 97, 98, 108, 101])), (.c (.int .i64 4095))]⟩,
  ⟨none, none, .store 13 (.t 2) (.t 36)⟩]
@[go_sem] def scriptingref32_later_r19 : List AI := [
  ⟨(some 38), none, .bin .eql (.t 9) (.c (.int .i64 21))⟩,
  ⟨(some 37), none, .mov (.t 38)⟩]
@[go_sem] def scriptingref32_later_r20 : List AI := [
  ⟨(some 39), none, .load 2 true (.t 4)⟩,
  ⟨(some 40), none, .build [(.int .i64 0), (.int .i64 0)] [(0, 1, (.c (.int .i64 1))), (1, 1, (.c (.int .i64 32767)))]⟩,
  ⟨(some 41), none, .call 66 [(.c (.str [97, 112, 112, 101, 110, 100])), (.c (.int .i64 4095)), (.t 39), (.t 40)]⟩,
  ⟨none, none, .store 13 (.t 2) (.t 41)⟩]
@[go_sem] def scriptingref32_later_r21 : List AI := [
  ⟨(some 43), none, .bin .eql (.t 9) (.c (.int .i64 22))⟩,
  ⟨(some 42), none, .mov (.t 43)⟩]
@[go_sem] def scriptingref32_later_r22 : List AI := [
  ⟨(some 44), none, .call 65 [(.c (.str [99, 108, 111, 115, 117, 114, 101])), (.c (.int .i64 4095)), (.c (.int .i64 0)), (.c (.int .i64 1023))]⟩,
  ⟨none, none, .store 13 (.t 2) (.t 44)⟩]
@[go_sem] def scriptingref32_later_r23 : List AI := [
  ⟨(some 46), none, .bin .eql (.t 9) (.c (.int .i64 23))⟩,
  ⟨(some 45), none, .mov (.t 46)⟩]
@[go_sem] def scriptingref32_later_r24 : List AI := [
  ⟨(some 47), none, .call 65 [(.c (.str [112, 114, 101, 112])), (.c (.int .i64 4092)), (.c (.int .i64 0)), (.c (.int .i64 16383))]⟩,
  ⟨none, none, .store 13 (.t 2) (.t 47)⟩]
@[go_sem] def scriptingref32_later_r25 : List AI := [
  ⟨(some 49), none, .bin .eql (.t 9) (.c (.int .i64 24))⟩,
  ⟨(some 48), none, .mov (.t 49)⟩]
@[go_sem] def scriptingref32_later_r26 : List AI := [
  ⟨(some 50), none, .call 65 [(.c (.str [108, 111, 111, 112])), (.c (.int .i64 4092)), (.c (.int .i64 0)), (.c (.int .i64 16383))]⟩,
  ⟨none, none, .store 13 (.t 2) (.t 50)⟩]
@[go_sem] def scriptingref32_later_r27 : List AI := [
  ⟨(some 52), none, .bin .eql (.t 9) (.c (.int .i64 25))⟩,
  ⟨(some 51), none, .mov (.t 52)⟩]
@[go_sem] def scriptingref32_later_r28 : List AI := [
  ⟨(some 53), none, .build [(.bool false), (.bool false), (.bool false), (.bool false)] [(0, 1, (.c (.bool true))), (1, 1, (.c (.bool false))), (2, 1, (.c (.bool true))), (3, 1, (.c (.bool false)))]⟩,
  ⟨(some 54), none, .build [(.int .i64 0), (.int .i64 0), (.int .i64 0), (.int .i64 0)] [(0, 1, (.c (.int .i64 0))), (1, 1, (.c (.int .i64 0))), (2, 1, (.c (.int .i64 1))), (3, 1, (.c (.int .i64 0)))]⟩,
  ⟨(some 55), none, .build [(.int .i64 0), (.int .i64 0), (.int .i64 0), (.int .i64 0)] [(0, 1, (.c (.int .i64 4092))), (1, 1, (.c (.int .i64 0))), (2, 1, (.c (.int .i64 200))), (3, 1, (.c (.int .i64 0)))]⟩,
  ⟨(some 56), none, .build [(.str []), (.bool false), (.bool false), (.bool false), (.bool false), (.int .i64 0), (.int .i64 0), (.int .i64 0), (.int .i64 0), (.int .i64 0), (.int .i64 0), (.int .i64 0), (.int .i64 0)] [(0, 1, (.c (.str [105, 116, 101, 114]))), (1, 4, (.t 53)), (5, 4, (.t 54)), (9, 4, (.t 55))]⟩,
  ⟨none, none, .store 13 (.t 2) (.t 56)⟩]
@[go_sem] def scriptingref32_later_r29 : List AI := [
  ⟨(some 58), none, .bin .eql (.t 9) (.c (.int .i64 26))⟩,
  ⟨(some 57), none, .mov (.t 58)⟩]
@[go_sem] def scriptingref32_later_r30 : List AI := [
  ⟨(some 59), none, .call 65 [(.c (.str [110, 101, 120, 116])), (.c (.int .i64 4092)), (.c (.int .i64 0)), (.c (.int .i64 16383))]⟩,
  ⟨none, none, .store 13 (.t 2) (.t 59)⟩]
@[go_sem] def scriptingref32_later_r31 : List AI := [
  ⟨(some 61), none, .bin .eql (.t 9) (.c (.int .i64 27))⟩,
  ⟨(some 60), none, .mov (.t 61)⟩]
@[go_sem] def scriptingref32_later_r32 : List AI := [
  ⟨(some 62), none, .call 75 [(.c (.str [99, 108, 111, 115, 101])), (.c (.int .i64 4095))]⟩,
  ⟨none, none, .store 13 (.t 2) (.t 62)⟩]
@[go_sem] def scriptingref32_later_r33 : List AI := [
  ⟨(some 64), none, .bin .eql (.t 9) (.c (.int .i64 28))⟩,
  ⟨(some 63), none, .mov (.t 64)⟩]
@[go_sem] def scriptingref32_later_r34 : List AI := [
  ⟨(some 65), none, .call 75 [(.c (.str [109, 97, 114, 107])), (.c (.int .i64 4095))]⟩,
  ⟨none, none, .store 13 (.t 2) (.t 65)⟩]
@[go_sem] def scriptingref32_later_r35 : List AI := [
  ⟨(some 67), none, .bin .eql (.t 9) (.c (.int .i64 29))⟩,
  ⟨(some 66), none, .mov (.t 67)⟩]
@[go_sem] def scriptingref32_later_r36 : List AI := [
  ⟨(some 68), none, .call 75 [(.c (.str [115, 116, 97, 116])), (.c (.int .i64 1))]⟩,
  ⟨none, none, .store 13 (.t 2) (.t 68)⟩]
@[go_sem] def scriptingref32_later_r37 : List AI := [
  ⟨(some 69), none, .call 76 [(.c (.str []))]⟩,
  ⟨none, none, .store 13 (.t 2) (.t 69)⟩]
@[go_sem] def scriptingref32_later_c : AC := .seq (.ops [scriptingref32_later_r0]) (.seq (.ops [scriptingref32_later_r1]) (.seq (.ops [scriptingref32_later_r2]) (.seq (.ops [scriptingref32_later_r3]) (.seq (.seq (.ops [scriptingref32_later_r4]) (.block 0 (.seq (.ops [scriptingref32_later_r5]) (.cond (.t 10) (.seq (.ops [scriptingref32_later_r6]) (.ret)) (.seq (.ops [scriptingref32_later_r7]) (.cond (.t 15) (.seq (.ops [scriptingref32_later_r8]) (.ret)) (.seq (.ops [scriptingref32_later_r9]) (.cond (.t 20) (.seq (.ops [scriptingref32_later_r10]) (.ret)) (.seq (.ops [scriptingref32_later_r11]) (.cond (.t 25) (.seq (.ops [scriptingref32_later_r12]) (.ret)) (.seq (.ops [scriptingref32_later_r13]) (.cond (.t 28) (.seq (.ops [scriptingref32_later_r14]) (.ret)) (.seq (.ops [scriptingref32_later_r15]) (.cond (.t 31) (.seq (.ops [scriptingref32_later_r16]) (.ret)) (.seq (.ops [scriptingref32_later_r17]) (.cond (.t 34) (.seq (.ops [scriptingref32_later_r18]) (.ret)) (.seq (.ops [scriptingref32_later_r19]) (.cond (.t 37) (.seq (.ops [scriptingref32_later_r20]) (.ret)) (.seq (.ops [scriptingref32_later_r21]) (.cond (.t 42) (.seq (.ops [scriptingref32_later_r22]) (.ret)) (.seq (.ops [scriptingref32_later_r23]) (.cond (.t 45) (.seq (.ops [scriptingref32_later_r24]) (.ret)) (.seq (.ops [scriptingref32_later_r25]) (.cond (.t 48) (.seq (.ops [scriptingref32_later_r26]) (.ret)) (.seq (.ops [scriptingref32_later_r27]) (.cond (.t 51) (.seq (.ops [scriptingref32_later_r28]) (.ret)) (.seq (.ops [scriptingref32_later_r29]) (.cond (.t 57) (.seq (.ops [scriptingref32_later_r30]) (.ret)) (.seq (.ops [scriptingref32_later_r31]) (.cond (.t 60) (.seq (.ops [scriptingref32_later_r32]) (.ret)) (.seq (.ops [scriptingref32_later_r33]) (.cond (.t 63) (.seq (.ops [scriptingref32_later_r34]) (.ret)) (.seq (.ops [scriptingref32_later_r35]) (.cond (.t 66) (.seq (.ops [scriptingref32_later_r36]) (.ret)) (.skip))))))))))))))))))))))))))))))))))) (.seq (.ops [scriptingref32_later_r37]) (.ret))))))
theorem scriptingref32_later_ok : compF Tryd.prog 67 = some (70, scriptingref32_later_c, [.c 2 13 true]) := by kernel_rfl

@[go_sem] def cmp_isNaN_int_r0 : List AI := [
  ⟨(some 2), none, .mov (.c (.bool false))⟩]
@[go_sem] def cmp_isNaN_int_r1 : List AI := [
  ⟨(some 3), none, .mov (.t 0)⟩,
  ⟨(some 4), none, .mov (.t 0)⟩,
  ⟨(some 5), none, .bin .neq (.t 3) (.t 4)⟩,
  ⟨(some 2), none, .mov (.t 5)⟩]
@[go_sem] def cmp_isNaN_int_c : AC := .seq (.ops [cmp_isNaN_int_r0]) (.seq (.ops [cmp_isNaN_int_r1]) (.ret))
theorem cmp_isNaN_int_ok : compF Tryd.prog 74 = some (6, cmp_isNaN_int_c, [.t 2]) := by kernel_rfl

@[go_sem] def scriptingref32_a_r0 : List AI := [
  ⟨(some 4), none, .box 750004 13 (.c (.agg [(.str []), (.bool false), (.bool false), (.bool false), (.bool false), (.int .i64 0), (.int .i64 0), (.int .i64 0), (.int .i64 0), (.int .i64 0), (.int .i64 0), (.int .i64 0), (.int .i64 0)]))⟩]
@[go_sem] def scriptingref32_a_r1 : List AI := [
  ⟨(some 5), none, .mov (.t 0)⟩,
  ⟨(some 6), none, .build [(.bool false), (.bool false), (.bool false), (.bool false)] [(0, 1, (.c (.bool true))), (1, 1, (.c (.bool false))), (2, 1, (.c (.bool false))), (3, 1, (.c (.bool false)))]⟩,
  ⟨(some 7), none, .mov (.t 1)⟩,
  ⟨(some 8), none, .build [(.int .i64 0), (.int .i64 0), (.int .i64 0), (.int .i64 0)] [(0, 1, (.t 7)), (1, 1, (.c (.int .i64 0))), (2, 1, (.c (.int .i64 0))), (3, 1, (.c (.int .i64 0)))]⟩,
  ⟨(some 9), none, .build [(.str []), (.bool false), (.bool false), (.bool false), (.bool false), (.int .i64 0), (.int .i64 0), (.int .i64 0), (.int .i64 0), (.int .i64 0), (.int .i64 0), (.int .i64 0), (.int .i64 0)] [(0, 1, (.t 5)), (1, 4, (.t 6)), (9, 4, (.t 8))]⟩,
  ⟨none, none, .store 13 (.t 4) (.t 9)⟩]
@[go_sem] def scriptingref32_a_c : AC := .seq (.ops [scriptingref32_a_r0]) (.seq (.ops [scriptingref32_a_r1]) (.ret))
theorem scriptingref32_a_ok : compF Tryd.prog 75 = some (10, scriptingref32_a_c, [.c 4 13 true]) := by kernel_rfl

@[go_sem] def scriptingref32_none_r0 : List AI := [
  ⟨(some 2), none, .box 760002 13 (.c (.agg [(.str []), (.bool false), (.bool false), (.bool false), (.bool false), (.int .i64 0), (.int .i64 0), (.int .i64 0), (.int .i64 0), (.int .i64 0), (.int .i64 0), (.int .i64 0), (.int .i64 0)]))⟩]
@[go_sem] def scriptingref32_none_r1 : List AI := [
  ⟨(some 3), none, .mov (.t 0)⟩,
  ⟨(some 4), none, .build [(.str []), (.bool false), (.bool false), (.bool false), (.bool false), (.int .i64 0), (.int .i64 0), (.int .i64 0), (.int .i64 0), (.int .i64 0), (.int .i64 0), (.int .i64 0), (.int .i64 0)] [(0, 1, (.t 3))]⟩,
  ⟨none, none, .store 13 (.t 2) (.t 4)⟩]
@[go_sem] def scriptingref32_none_c : AC := .seq (.ops [scriptingref32_none_r0]) (.seq (.ops [scriptingref32_none_r1]) (.ret))
theorem scriptingref32_none_ok : compF Tryd.prog 76 = some (5, scriptingref32_none_c, [.c 2 13 true]) := by kernel_rfl

/-- The functions by number. -/
def exT : List (FuncId × Nat × AC × List RV) := [
  (3, 95, scriptinglaw38_LabelsCalls_c, [.t 2]),
  (4, 105, scriptinglaw38_LabelsNumbers_c, [.t 2]),
  (5, 245, scriptinglaw38_LabelsTargets_c, [.t 2]),
  (6, 95, scriptinglaw38_LabelsStraight_c, [.t 4]),
  (7, 91, scriptinglaw38_LabelsShares_c, [.t 2]),
  (8, 54, scriptinglaw38_LabelsNone_c, [.t 2]),
  (9, 156, scriptinglaw38_LabelsFollows_c, [.t 2]),
  (10, 98, scriptinglaw38_awake_c, [.t 0]),
  (11, 4, labels_New_c, [.t 0]),
  (12, 3, scriptingref38_New_c, [.t 0]),
  (13, 38, scriptinglaw38_program_c, [.t 4, .t 5]),
  (14, 38, scriptinglaw38_document_c, [.t 4, .t 5]),
  (15, 10, labels_Code_Len_c, [.t 2]),
  (16, 10, scriptingref38_Code_Len_c, [.t 2]),
  (17, 65, labels_Code_Finish_c, [.t 2, .t 3, .t 4]),
  (18, 73, scriptingref38_Code_Finish_c, [.t 2, .t 3, .t 4]),
  (19, 53, scriptinglaw38_same_c, [.t 8]),
  (20, 85, opcode_Check_c, [.t 2]),
  (21, 31, labels_Code_Emit_c, [.t 6, .t 7]),
  (22, 65, flow_Next_c, [.t 4]),
  (23, 44, labels_Code_Place_c, [.t 4]),
  (24, 16, labels_Code_Label_c, [.t 2]),
  (25, 57, labels_Code_Jump_c, [.t 8, .t 9]),
  (26, 24, scriptingref38_Code_Emit_c, [.t 6, .t 7]),
  (27, 48, scriptingref38_Code_Jump_c, [.t 8, .t 9]),
  (28, 20, scriptingref38_Code_Label_c, [.t 2]),
  (29, 37, scriptingref38_Code_Place_c, [.t 4]),
  (30, 18, labels_add_api_Instr_c, [.t 4]),
  (31, 18, labels_add_int_c, [.t 4]),
  (32, 25, opcode_of_c, [.c 2 6 true, .t 3]),
  (33, 24, opcode_fields_c, [.c 4 4 true, .c 5 4 true]),
  (34, 29, opcode_between_c, [.t 2, .t 3]),
  (35, 53, opcode_last_c, [.t 4]),
  (36, 9, labels_Code_room_c, [.t 2]),
  (37, 18, labels_add_labels_item_c, [.t 4]),
  (38, 14, opcode_Target_c, [.t 2, .t 3]),
  (39, 16, opcode_Falls_c, [.t 2]),
  (40, 11, slices_Sort_int_int_c, []),
  (41, 61, slices_Compact_int_int_c, [.t 2]),
  (42, 73, scriptingref32_Check_c, [.t 2]),
  (43, 52, scriptingref38_Code_add_c, [.t 8, .t 9]),
  (44, 14, scriptingref32_Target_c, [.t 2, .t 3]),
  (45, 106, strings_Fields_c, [.t 2]),
  (46, 75, opcode_shape_c, [.c 2 6 true]),
  (49, 65, scriptingref32_data_c, [.c 2 13 true]),
  (50, 12, scriptingref32_fields_c, [.c 2 4 true]),
  (51, 46, scriptingref32_limit_c, [.t 2]),
  (54, 49, slices_insertionSortOrdered_int_c, []),
  (60, 17, cmp_Less_int_c, [.t 4]),
  (65, 17, scriptingref32_ab_c, [.c 8 13 true]),
  (66, 23, scriptingref32_abc_c, [.c 8 13 true]),
  (67, 70, scriptingref32_later_c, [.c 2 13 true]),
  (74, 6, cmp_isNaN_int_c, [.t 2]),
  (75, 10, scriptingref32_a_c, [.c 4 13 true]),
  (76, 5, scriptingref32_none_c, [.c 2 13 true])]
theorem exT_ok : TabOK Tryd.prog exT := 
  (TabOK.cons scriptinglaw38_LabelsCalls_ok 
  (TabOK.cons scriptinglaw38_LabelsNumbers_ok 
  (TabOK.cons scriptinglaw38_LabelsTargets_ok 
  (TabOK.cons scriptinglaw38_LabelsStraight_ok 
  (TabOK.cons scriptinglaw38_LabelsShares_ok 
  (TabOK.cons scriptinglaw38_LabelsNone_ok 
  (TabOK.cons scriptinglaw38_LabelsFollows_ok 
  (TabOK.cons scriptinglaw38_awake_ok 
  (TabOK.cons labels_New_ok 
  (TabOK.cons scriptingref38_New_ok 
  (TabOK.cons scriptinglaw38_program_ok 
  (TabOK.cons scriptinglaw38_document_ok 
  (TabOK.cons labels_Code_Len_ok 
  (TabOK.cons scriptingref38_Code_Len_ok 
  (TabOK.cons labels_Code_Finish_ok 
  (TabOK.cons scriptingref38_Code_Finish_ok 
  (TabOK.cons scriptinglaw38_same_ok 
  (TabOK.cons opcode_Check_ok 
  (TabOK.cons labels_Code_Emit_ok 
  (TabOK.cons flow_Next_ok 
  (TabOK.cons labels_Code_Place_ok 
  (TabOK.cons labels_Code_Label_ok 
  (TabOK.cons labels_Code_Jump_ok 
  (TabOK.cons scriptingref38_Code_Emit_ok 
  (TabOK.cons scriptingref38_Code_Jump_ok 
  (TabOK.cons scriptingref38_Code_Label_ok 
  (TabOK.cons scriptingref38_Code_Place_ok 
  (TabOK.cons labels_add_api_Instr_ok 
  (TabOK.cons labels_add_int_ok 
  (TabOK.cons opcode_of_ok 
  (TabOK.cons opcode_fields_ok 
  (TabOK.cons opcode_between_ok 
  (TabOK.cons opcode_last_ok 
  (TabOK.cons labels_Code_room_ok 
  (TabOK.cons labels_add_labels_item_ok 
  (TabOK.cons opcode_Target_ok 
  (TabOK.cons opcode_Falls_ok 
  (TabOK.cons slices_Sort_int_int_ok 
  (TabOK.cons slices_Compact_int_int_ok 
  (TabOK.cons scriptingref32_Check_ok 
  (TabOK.cons scriptingref38_Code_add_ok 
  (TabOK.cons scriptingref32_Target_ok 
  (TabOK.cons strings_Fields_ok 
  (TabOK.cons opcode_shape_ok 
  (TabOK.cons scriptingref32_data_ok 
  (TabOK.cons scriptingref32_fields_ok 
  (TabOK.cons scriptingref32_limit_ok 
  (TabOK.cons slices_insertionSortOrdered_int_ok 
  (TabOK.cons cmp_Less_int_ok 
  (TabOK.cons scriptingref32_ab_ok 
  (TabOK.cons scriptingref32_abc_ok 
  (TabOK.cons scriptingref32_later_ok 
  (TabOK.cons cmp_isNaN_int_ok 
  (TabOK.cons scriptingref32_a_ok 
  (TabOK.cons scriptingref32_none_ok TabOK.nil)))))))))))))))))))))))))))))))))))))))))))))))))))))))

end Go.Proofs.YtlckjdhammcpaaaDoor
