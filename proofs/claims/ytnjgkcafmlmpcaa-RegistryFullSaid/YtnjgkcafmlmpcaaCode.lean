/-
  The code of the functions that this seat reaches, translated into abstract code (printed by a program, each proved to be the translation). No condition.
-/
import Derived.Test.YtnjgkcafmlmpcaaSim
import Derived.Test.YtnjgkcafmlmpcaaChecked
namespace Go.Proofs.Ytnjgkcafmlmpcaa
open Go.Abs

@[go_sem] def scriptinglaw18_RegistryReuses_r0 : List AI := [
  ⟨(some 4), none, .mov (.c (.bool false))⟩]
@[go_sem] def scriptinglaw18_RegistryReuses_r1 : List AI := [
  ⟨(some 21), none, .call 10 []⟩,
  ⟨(some 5), none, .mov (.t 21)⟩]
@[go_sem] def scriptinglaw18_RegistryReuses_r2 : List AI := [
  ⟨(some 22), none, .mov (.t 5)⟩,
  ⟨(some 23), none, .eqp 0 false (.t 22) (.c .nilp)⟩,
  ⟨(some 24), none, .mov (.t 23)⟩,
  ⟨(some 25), (some (24, false)), .mov (.t 1)⟩,
  ⟨(some 26), (some (24, false)), .len 0 (.t 25)⟩,
  ⟨(some 27), (some (24, false)), .bin .gtr (.t 26) (.c (.int .i64 100))⟩,
  ⟨(some 28), none, .pick (.t 24) (.c (.bool true)) (.t 27)⟩]
@[go_sem] def scriptinglaw18_RegistryReuses_r3 : List AI := [
  ⟨(some 29), none, .mov (.t 5)⟩,
  ⟨(some 30), none, .eqp 0 true (.t 29) (.c .nilp)⟩,
  ⟨(some 31), none, .mov (.t 30)⟩,
  ⟨(some 32), (some (31, true)), .call 11 []⟩,
  ⟨(some 33), none, .pick (.t 31) (.t 32) (.c (.bool false))⟩,
  ⟨(some 4), none, .mov (.t 33)⟩]
@[go_sem] def scriptinglaw18_RegistryReuses_r4 : List AI := [
  ⟨(some 34), none, .build [(.int .i64 0), (.int .i64 0), (.int .i64 0), (.str []), (.int .i64 0)] [(0, 1, (.c (.int .i64 8))), (4, 1, (.c (.int .i64 5)))]⟩,
  ⟨(some 6), none, .box 30006 5 (.c (.agg [(.int .i64 0), (.int .i64 0), (.int .i64 0), (.str []), (.int .i64 0)]))⟩,
  ⟨none, none, .store 5 (.t 6) (.t 34)⟩]
@[go_sem] def scriptinglaw18_RegistryReuses_r5 : List AI := [
  ⟨(some 35), none, .mov (.t 0)⟩,
  ⟨(some 36), none, .conv .i64 (.t 35)⟩,
  ⟨(some 37), none, .bin .rem (.t 36) (.c (.int .i64 50))⟩,
  ⟨(some 38), none, .bin .add (.c (.int .i64 1)) (.t 37)⟩,
  ⟨(some 7), none, .mov (.t 38)⟩]
@[go_sem] def scriptinglaw18_RegistryReuses_r6 : List AI := [
  ⟨(some 39), none, .mov (.t 7)⟩,
  ⟨(some 40), none, .bin .add (.t 39) (.c (.int .i64 1))⟩,
  ⟨(some 41), none, .mksl 30041 [(.bool false)] (.t 40)⟩,
  ⟨(some 8), none, .mov (.t 41)⟩]
@[go_sem] def scriptinglaw18_RegistryReuses_r7 : List AI := [
  ⟨(some 9), none, .mov (.c (.int .i64 1))⟩]
@[go_sem] def scriptinglaw18_RegistryReuses_r8 : List AI := [
  ⟨(some 42), none, .mov (.t 9)⟩,
  ⟨(some 43), none, .mov (.t 7)⟩,
  ⟨(some 44), none, .bin .leq (.t 42) (.t 43)⟩]
@[go_sem] def scriptinglaw18_RegistryReuses_r9 : List AI := [
  ⟨(some 48), none, .mov (.t 5)⟩,
  ⟨(some 49), none, .load 5 true (.t 6)⟩,
  ⟨(some 50), none, .call 12 [(.t 48), (.t 49)]⟩,
  ⟨(some 47), none, .mov (.t 50)⟩,
  ⟨(some 51), none, .ext 0 (.t 47)⟩,
  ⟨(some 52), none, .ext 1 (.t 47)⟩,
  ⟨(some 10), none, .mov (.t 51)⟩,
  ⟨(some 11), none, .mov (.t 52)⟩]
@[go_sem] def scriptinglaw18_RegistryReuses_r10 : List AI := [
  ⟨(some 53), none, .mov (.t 10)⟩,
  ⟨(some 54), none, .mov (.t 9)⟩,
  ⟨(some 55), none, .bin .neq (.t 53) (.t 54)⟩,
  ⟨(some 56), none, .mov (.t 55)⟩,
  ⟨(some 57), (some (56, false)), .mov (.t 11)⟩,
  ⟨(some 58), (some (56, false)), .bin .neq (.t 57) (.c (.int .i64 0))⟩,
  ⟨(some 59), none, .pick (.t 56) (.c (.bool true)) (.t 58)⟩]
@[go_sem] def scriptinglaw18_RegistryReuses_r11 : List AI := [
  ⟨(some 4), none, .mov (.c (.bool false))⟩]
@[go_sem] def scriptinglaw18_RegistryReuses_r12 : List AI := [
  ⟨(some 60), none, .mov (.t 8)⟩,
  ⟨(some 61), none, .mov (.t 10)⟩,
  ⟨(some 62), none, .iaddr 1 (.t 60) (.t 61)⟩,
  ⟨none, none, .store 1 (.t 62) (.c (.bool true))⟩]
@[go_sem] def scriptinglaw18_RegistryReuses_r13 : List AI := [
  ⟨(some 45), none, .mov (.t 9)⟩,
  ⟨(some 46), none, .bin .add (.t 45) (.c (.int .i64 1))⟩,
  ⟨(some 9), none, .mov (.t 46)⟩]
def scriptinglaw18_RegistryReuses_l0 : AC := .seq (.seq (.ops [scriptinglaw18_RegistryReuses_r8]) (.cond (.t 44) (.skip) (.exit 0))) (.seq (.block 1 (.seq (.ops [scriptinglaw18_RegistryReuses_r9]) (.seq (.seq (.ops [scriptinglaw18_RegistryReuses_r10]) (.cond (.t 59) (.seq (.ops [scriptinglaw18_RegistryReuses_r11]) (.ret)) (.skip))) (.ops [scriptinglaw18_RegistryReuses_r12])))) (.ops [scriptinglaw18_RegistryReuses_r13]))
theorem scriptinglaw18_RegistryReuses_l0_eq : scriptinglaw18_RegistryReuses_l0 = .seq (.seq (.ops [scriptinglaw18_RegistryReuses_r8]) (.cond (.t 44) (.skip) (.exit 0))) (.seq (.block 1 (.seq (.ops [scriptinglaw18_RegistryReuses_r9]) (.seq (.seq (.ops [scriptinglaw18_RegistryReuses_r10]) (.cond (.t 59) (.seq (.ops [scriptinglaw18_RegistryReuses_r11]) (.ret)) (.skip))) (.ops [scriptinglaw18_RegistryReuses_r12])))) (.ops [scriptinglaw18_RegistryReuses_r13])) := rfl
@[go_sem] def scriptinglaw18_RegistryReuses_r14 : List AI := [
  ⟨(some 12), none, .mov (.c .nils)⟩]
@[go_sem] def scriptinglaw18_RegistryReuses_r15 : List AI := [
  ⟨(some 13), none, .mov (.c (.int .i64 0))⟩]
@[go_sem] def scriptinglaw18_RegistryReuses_r16 : List AI := [
  ⟨(some 63), none, .mov (.t 13)⟩,
  ⟨(some 64), none, .mov (.t 1)⟩,
  ⟨(some 65), none, .len 0 (.t 64)⟩,
  ⟨(some 66), none, .bin .lss (.t 63) (.t 65)⟩]
@[go_sem] def scriptinglaw18_RegistryReuses_r17 : List AI := [
  ⟨(some 69), none, .mov (.t 1)⟩,
  ⟨(some 70), none, .mov (.t 13)⟩,
  ⟨(some 71), none, .iaddr 1 (.t 69) (.t 70)⟩,
  ⟨(some 72), none, .load 1 false (.t 71)⟩,
  ⟨(some 73), none, .conv .i64 (.t 72)⟩,
  ⟨(some 74), none, .mov (.t 7)⟩,
  ⟨(some 75), none, .bin .rem (.t 73) (.t 74)⟩,
  ⟨(some 76), none, .bin .add (.c (.int .i64 1)) (.t 75)⟩,
  ⟨(some 14), none, .mov (.t 76)⟩]
@[go_sem] def scriptinglaw18_RegistryReuses_r18 : List AI := [
  ⟨(some 77), none, .mov (.t 5)⟩,
  ⟨(some 78), none, .mov (.t 14)⟩,
  ⟨(some 79), none, .call 13 [(.t 77), (.t 78)]⟩,
  ⟨(some 15), none, .mov (.t 79)⟩]
@[go_sem] def scriptinglaw18_RegistryReuses_r19 : List AI := [
  ⟨(some 80), none, .mov (.t 15)⟩,
  ⟨(some 81), none, .bin .eql (.t 80) (.c (.int .i64 0))⟩,
  ⟨(some 82), none, .mov (.t 8)⟩,
  ⟨(some 83), none, .mov (.t 14)⟩,
  ⟨(some 84), none, .iaddr 1 (.t 82) (.t 83)⟩,
  ⟨(some 85), none, .load 1 false (.t 84)⟩,
  ⟨(some 86), none, .eqp 2 true (.t 81) (.t 85)⟩]
@[go_sem] def scriptinglaw18_RegistryReuses_r20 : List AI := [
  ⟨(some 4), none, .mov (.c (.bool false))⟩]
@[go_sem] def scriptinglaw18_RegistryReuses_r21 : List AI := [
  ⟨(some 87), none, .mov (.t 8)⟩,
  ⟨(some 88), none, .mov (.t 14)⟩,
  ⟨(some 89), none, .iaddr 1 (.t 87) (.t 88)⟩,
  ⟨(some 90), none, .load 1 false (.t 89)⟩]
@[go_sem] def scriptinglaw18_RegistryReuses_r22 : List AI := [
  ⟨(some 91), none, .mov (.t 12)⟩,
  ⟨(some 92), none, .mov (.t 14)⟩,
  ⟨(some 93), none, .mkisl 1 [(.t 92)]⟩,
  ⟨(some 94), none, .app 30094 1 (.t 91) (.t 93)⟩,
  ⟨(some 12), none, .mov (.t 94)⟩]
@[go_sem] def scriptinglaw18_RegistryReuses_r23 : List AI := [
  ⟨(some 95), none, .mov (.t 8)⟩,
  ⟨(some 96), none, .mov (.t 14)⟩,
  ⟨(some 97), none, .iaddr 1 (.t 95) (.t 96)⟩,
  ⟨none, none, .store 1 (.t 97) (.c (.bool false))⟩]
@[go_sem] def scriptinglaw18_RegistryReuses_r24 : List AI := [
  ⟨(some 67), none, .mov (.t 13)⟩,
  ⟨(some 68), none, .bin .add (.t 67) (.c (.int .i64 1))⟩,
  ⟨(some 13), none, .mov (.t 68)⟩]
def scriptinglaw18_RegistryReuses_l1 : AC := .seq (.seq (.ops [scriptinglaw18_RegistryReuses_r16]) (.cond (.t 66) (.skip) (.exit 2))) (.seq (.block 3 (.seq (.ops [scriptinglaw18_RegistryReuses_r17]) (.seq (.seq (.ops [scriptinglaw18_RegistryReuses_r18]) (.seq (.ops [scriptinglaw18_RegistryReuses_r19]) (.cond (.t 86) (.seq (.ops [scriptinglaw18_RegistryReuses_r20]) (.ret)) (.skip)))) (.seq (.seq (.ops [scriptinglaw18_RegistryReuses_r21]) (.cond (.t 90) (.ops [scriptinglaw18_RegistryReuses_r22]) (.skip))) (.ops [scriptinglaw18_RegistryReuses_r23]))))) (.ops [scriptinglaw18_RegistryReuses_r24]))
theorem scriptinglaw18_RegistryReuses_l1_eq : scriptinglaw18_RegistryReuses_l1 = .seq (.seq (.ops [scriptinglaw18_RegistryReuses_r16]) (.cond (.t 66) (.skip) (.exit 2))) (.seq (.block 3 (.seq (.ops [scriptinglaw18_RegistryReuses_r17]) (.seq (.seq (.ops [scriptinglaw18_RegistryReuses_r18]) (.seq (.ops [scriptinglaw18_RegistryReuses_r19]) (.cond (.t 86) (.seq (.ops [scriptinglaw18_RegistryReuses_r20]) (.ret)) (.skip)))) (.seq (.seq (.ops [scriptinglaw18_RegistryReuses_r21]) (.cond (.t 90) (.ops [scriptinglaw18_RegistryReuses_r22]) (.skip))) (.ops [scriptinglaw18_RegistryReuses_r23]))))) (.ops [scriptinglaw18_RegistryReuses_r24])) := rfl
@[go_sem] def scriptinglaw18_RegistryReuses_r25 : List AI := [
  ⟨(some 98), none, .mov (.t 12)⟩,
  ⟨(some 99), none, .len 0 (.t 98)⟩,
  ⟨(some 100), none, .bin .sub (.t 99) (.c (.int .i64 1))⟩,
  ⟨(some 16), none, .mov (.t 100)⟩]
@[go_sem] def scriptinglaw18_RegistryReuses_r26 : List AI := [
  ⟨(some 101), none, .mov (.t 16)⟩,
  ⟨(some 102), none, .bin .geq (.t 101) (.c (.int .i64 0))⟩]
@[go_sem] def scriptinglaw18_RegistryReuses_r27 : List AI := [
  ⟨(some 106), none, .mov (.t 5)⟩,
  ⟨(some 107), none, .load 5 true (.t 6)⟩,
  ⟨(some 108), none, .call 12 [(.t 106), (.t 107)]⟩,
  ⟨(some 105), none, .mov (.t 108)⟩,
  ⟨(some 109), none, .ext 0 (.t 105)⟩,
  ⟨(some 110), none, .ext 1 (.t 105)⟩,
  ⟨(some 17), none, .mov (.t 109)⟩,
  ⟨(some 18), none, .mov (.t 110)⟩]
@[go_sem] def scriptinglaw18_RegistryReuses_r28 : List AI := [
  ⟨(some 111), none, .mov (.t 17)⟩,
  ⟨(some 112), none, .mov (.t 12)⟩,
  ⟨(some 113), none, .mov (.t 16)⟩,
  ⟨(some 114), none, .iaddr 1 (.t 112) (.t 113)⟩,
  ⟨(some 115), none, .load 1 false (.t 114)⟩,
  ⟨(some 116), none, .bin .neq (.t 111) (.t 115)⟩,
  ⟨(some 117), none, .mov (.t 116)⟩,
  ⟨(some 118), (some (117, false)), .mov (.t 18)⟩,
  ⟨(some 119), (some (117, false)), .bin .neq (.t 118) (.c (.int .i64 0))⟩,
  ⟨(some 120), none, .pick (.t 117) (.c (.bool true)) (.t 119)⟩]
@[go_sem] def scriptinglaw18_RegistryReuses_r29 : List AI := [
  ⟨(some 4), none, .mov (.c (.bool false))⟩]
@[go_sem] def scriptinglaw18_RegistryReuses_r30 : List AI := [
  ⟨(some 103), none, .mov (.t 16)⟩,
  ⟨(some 104), none, .bin .sub (.t 103) (.c (.int .i64 1))⟩,
  ⟨(some 16), none, .mov (.t 104)⟩]
def scriptinglaw18_RegistryReuses_l2 : AC := .seq (.seq (.ops [scriptinglaw18_RegistryReuses_r26]) (.cond (.t 102) (.skip) (.exit 4))) (.seq (.block 5 (.seq (.ops [scriptinglaw18_RegistryReuses_r27]) (.seq (.ops [scriptinglaw18_RegistryReuses_r28]) (.cond (.t 120) (.seq (.ops [scriptinglaw18_RegistryReuses_r29]) (.ret)) (.skip))))) (.ops [scriptinglaw18_RegistryReuses_r30]))
theorem scriptinglaw18_RegistryReuses_l2_eq : scriptinglaw18_RegistryReuses_l2 = .seq (.seq (.ops [scriptinglaw18_RegistryReuses_r26]) (.cond (.t 102) (.skip) (.exit 4))) (.seq (.block 5 (.seq (.ops [scriptinglaw18_RegistryReuses_r27]) (.seq (.ops [scriptinglaw18_RegistryReuses_r28]) (.cond (.t 120) (.seq (.ops [scriptinglaw18_RegistryReuses_r29]) (.ret)) (.skip))))) (.ops [scriptinglaw18_RegistryReuses_r30])) := rfl
@[go_sem] def scriptinglaw18_RegistryReuses_r31 : List AI := [
  ⟨(some 122), none, .mov (.t 5)⟩,
  ⟨(some 123), none, .load 5 true (.t 6)⟩,
  ⟨(some 124), none, .call 12 [(.t 122), (.t 123)]⟩,
  ⟨(some 121), none, .mov (.t 124)⟩,
  ⟨(some 125), none, .ext 0 (.t 121)⟩,
  ⟨(some 126), none, .ext 1 (.t 121)⟩,
  ⟨(some 19), none, .mov (.t 125)⟩,
  ⟨(some 20), none, .mov (.t 126)⟩]
@[go_sem] def scriptinglaw18_RegistryReuses_r32 : List AI := [
  ⟨(some 127), none, .mov (.t 19)⟩,
  ⟨(some 128), none, .mov (.t 7)⟩,
  ⟨(some 129), none, .bin .add (.t 128) (.c (.int .i64 1))⟩,
  ⟨(some 130), none, .bin .eql (.t 127) (.t 129)⟩,
  ⟨(some 131), none, .mov (.t 130)⟩,
  ⟨(some 132), (some (131, true)), .mov (.t 20)⟩,
  ⟨(some 133), (some (131, true)), .bin .eql (.t 132) (.c (.int .i64 0))⟩,
  ⟨(some 134), none, .pick (.t 131) (.t 133) (.c (.bool false))⟩,
  ⟨(some 135), none, .mov (.t 134)⟩,
  ⟨(some 136), (some (135, true)), .mov (.t 5)⟩,
  ⟨(some 137), (some (135, true)), .call 14 [(.t 136)]⟩,
  ⟨(some 138), (some (135, true)), .mov (.t 7)⟩,
  ⟨(some 139), (some (135, true)), .bin .add (.t 138) (.c (.int .i64 1))⟩,
  ⟨(some 140), (some (135, true)), .bin .eql (.t 137) (.t 139)⟩,
  ⟨(some 141), none, .pick (.t 135) (.t 140) (.c (.bool false))⟩,
  ⟨(some 142), none, .mov (.t 141)⟩,
  ⟨(some 143), (some (142, true)), .call 11 []⟩,
  ⟨(some 144), none, .pick (.t 142) (.t 143) (.c (.bool false))⟩,
  ⟨(some 4), none, .mov (.t 144)⟩]
@[go_sem] def scriptinglaw18_RegistryReuses_c : AC := .seq (.ops [scriptinglaw18_RegistryReuses_r0]) (.seq (.ops [scriptinglaw18_RegistryReuses_r1]) (.seq (.seq (.ops [scriptinglaw18_RegistryReuses_r2]) (.cond (.t 28) (.seq (.ops [scriptinglaw18_RegistryReuses_r3]) (.ret)) (.skip))) (.seq (.ops [scriptinglaw18_RegistryReuses_r4]) (.seq (.ops [scriptinglaw18_RegistryReuses_r5]) (.seq (.ops [scriptinglaw18_RegistryReuses_r6]) (.seq (.seq (.ops [scriptinglaw18_RegistryReuses_r7]) (.block 0 (.loop scriptinglaw18_RegistryReuses_l0))) (.seq (.ops [scriptinglaw18_RegistryReuses_r14]) (.seq (.seq (.ops [scriptinglaw18_RegistryReuses_r15]) (.block 2 (.loop scriptinglaw18_RegistryReuses_l1))) (.seq (.seq (.ops [scriptinglaw18_RegistryReuses_r25]) (.block 4 (.loop scriptinglaw18_RegistryReuses_l2))) (.seq (.ops [scriptinglaw18_RegistryReuses_r31]) (.seq (.ops [scriptinglaw18_RegistryReuses_r32]) (.ret))))))))))))
theorem scriptinglaw18_RegistryReuses_ok : compF Try.prog 3 = some (145, scriptinglaw18_RegistryReuses_c, [.t 4]) := by kernel_rfl

@[go_sem] def scriptinglaw18_RegistryKeeps_r0 : List AI := [
  ⟨(some 4), none, .box 40004 5 (.t 1)⟩,
  ⟨(some 6), none, .mov (.c (.bool false))⟩]
@[go_sem] def scriptinglaw18_RegistryKeeps_r1 : List AI := [
  ⟨(some 19), none, .mov (.t 0)⟩,
  ⟨(some 20), none, .call 15 [(.t 19)]⟩,
  ⟨(some 21), none, .mov (.t 20)⟩,
  ⟨(some 22), (some (21, false)), .mov (.t 2)⟩,
  ⟨(some 23), (some (21, false)), .call 15 [(.t 22)]⟩,
  ⟨(some 24), none, .pick (.t 21) (.c (.bool true)) (.t 23)⟩]
@[go_sem] def scriptinglaw18_RegistryKeeps_r2 : List AI := [
  ⟨(some 25), none, .call 11 []⟩,
  ⟨(some 6), none, .mov (.t 25)⟩]
@[go_sem] def scriptinglaw18_RegistryKeeps_r3 : List AI := [
  ⟨(some 27), none, .mov (.t 0)⟩,
  ⟨(some 28), none, .call 16 [(.t 27)]⟩,
  ⟨(some 26), none, .mov (.t 28)⟩,
  ⟨(some 29), none, .ext 0 (.t 26)⟩,
  ⟨(some 30), none, .ext 1 (.t 26)⟩,
  ⟨(some 31), none, .ext 2 (.t 26)⟩,
  ⟨(some 7), none, .mov (.t 29)⟩,
  ⟨(some 8), none, .mov (.t 30)⟩,
  ⟨(some 9), none, .mov (.t 31)⟩]
@[go_sem] def scriptinglaw18_RegistryKeeps_r4 : List AI := [
  ⟨(some 32), none, .mov (.t 9)⟩,
  ⟨(some 33), none, .un .not (.t 32)⟩]
@[go_sem] def scriptinglaw18_RegistryKeeps_r5 : List AI := [
  ⟨(some 6), none, .mov (.c (.bool false))⟩]
@[go_sem] def scriptinglaw18_RegistryKeeps_r6 : List AI := [
  ⟨(some 34), none, .mov (.t 7)⟩,
  ⟨(some 35), none, .call 14 [(.t 34)]⟩,
  ⟨(some 10), none, .mov (.t 35)⟩]
@[go_sem] def scriptinglaw18_RegistryKeeps_r7 : List AI := [
  ⟨(some 37), none, .mov (.t 7)⟩,
  ⟨(some 38), none, .load 5 true (.t 4)⟩,
  ⟨(some 39), none, .call 12 [(.t 37), (.t 38)]⟩,
  ⟨(some 36), none, .mov (.t 39)⟩,
  ⟨(some 40), none, .ext 0 (.t 36)⟩,
  ⟨(some 41), none, .ext 1 (.t 36)⟩,
  ⟨(some 11), none, .mov (.t 40)⟩,
  ⟨(some 12), none, .mov (.t 41)⟩]
@[go_sem] def scriptinglaw18_RegistryKeeps_r8 : List AI := [
  ⟨(some 42), none, .load 5 true (.t 4)⟩,
  ⟨(some 43), none, .call 17 [(.t 42)]⟩,
  ⟨(some 44), none, .un .not (.t 43)⟩]
@[go_sem] def scriptinglaw18_RegistryKeeps_r9 : List AI := [
  ⟨(some 45), none, .mov (.t 11)⟩,
  ⟨(some 46), none, .bin .eql (.t 45) (.c (.int .i64 0))⟩,
  ⟨(some 47), none, .mov (.t 46)⟩,
  ⟨(some 48), (some (47, true)), .mov (.t 12)⟩,
  ⟨(some 49), (some (47, true)), .bin .eql (.t 48) (.c (.int .i64 2))⟩,
  ⟨(some 50), none, .pick (.t 47) (.t 49) (.c (.bool false))⟩,
  ⟨(some 51), none, .mov (.t 50)⟩,
  ⟨(some 52), (some (51, true)), .mov (.t 7)⟩,
  ⟨(some 53), (some (51, true)), .call 14 [(.t 52)]⟩,
  ⟨(some 54), (some (51, true)), .mov (.t 10)⟩,
  ⟨(some 55), (some (51, true)), .bin .eql (.t 53) (.t 54)⟩,
  ⟨(some 56), none, .pick (.t 51) (.t 55) (.c (.bool false))⟩,
  ⟨(some 57), none, .mov (.t 56)⟩,
  ⟨(some 58), (some (57, true)), .call 11 []⟩,
  ⟨(some 59), none, .pick (.t 57) (.t 58) (.c (.bool false))⟩,
  ⟨(some 6), none, .mov (.t 59)⟩]
@[go_sem] def scriptinglaw18_RegistryKeeps_r10 : List AI := [
  ⟨(some 60), none, .faddr 0 (.t 4)⟩,
  ⟨(some 61), none, .load 1 false (.t 60)⟩,
  ⟨(some 62), none, .bin .eql (.t 61) (.c (.int .i64 0))⟩]
@[go_sem] def scriptinglaw18_RegistryKeeps_r11 : List AI := [
  ⟨(some 63), none, .mov (.t 11)⟩,
  ⟨(some 64), none, .bin .eql (.t 63) (.c (.int .i64 0))⟩,
  ⟨(some 65), none, .mov (.t 64)⟩,
  ⟨(some 66), (some (65, true)), .mov (.t 12)⟩,
  ⟨(some 67), (some (65, true)), .bin .eql (.t 66) (.c (.int .i64 0))⟩,
  ⟨(some 68), none, .pick (.t 65) (.t 67) (.c (.bool false))⟩,
  ⟨(some 69), none, .mov (.t 68)⟩,
  ⟨(some 70), (some (69, true)), .mov (.t 7)⟩,
  ⟨(some 71), (some (69, true)), .call 14 [(.t 70)]⟩,
  ⟨(some 72), (some (69, true)), .mov (.t 10)⟩,
  ⟨(some 73), (some (69, true)), .bin .eql (.t 71) (.t 72)⟩,
  ⟨(some 74), none, .pick (.t 69) (.t 73) (.c (.bool false))⟩,
  ⟨(some 75), none, .mov (.t 74)⟩,
  ⟨(some 76), (some (75, true)), .call 11 []⟩,
  ⟨(some 77), none, .pick (.t 75) (.t 76) (.c (.bool false))⟩,
  ⟨(some 6), none, .mov (.t 77)⟩]
@[go_sem] def scriptinglaw18_RegistryKeeps_r12 : List AI := [
  ⟨(some 78), none, .mov (.t 11)⟩,
  ⟨(some 79), none, .bin .lss (.t 78) (.c (.int .i64 1))⟩,
  ⟨(some 80), none, .mov (.t 79)⟩,
  ⟨(some 81), (some (80, false)), .mov (.t 12)⟩,
  ⟨(some 82), (some (80, false)), .bin .neq (.t 81) (.c (.int .i64 0))⟩,
  ⟨(some 83), none, .pick (.t 80) (.c (.bool true)) (.t 82)⟩,
  ⟨(some 84), none, .mov (.t 83)⟩,
  ⟨(some 85), (some (84, false)), .mov (.t 7)⟩,
  ⟨(some 86), (some (84, false)), .call 14 [(.t 85)]⟩,
  ⟨(some 87), (some (84, false)), .mov (.t 10)⟩,
  ⟨(some 88), (some (84, false)), .bin .add (.t 87) (.c (.int .i64 1))⟩,
  ⟨(some 89), (some (84, false)), .bin .neq (.t 86) (.t 88)⟩,
  ⟨(some 90), none, .pick (.t 84) (.c (.bool true)) (.t 89)⟩]
@[go_sem] def scriptinglaw18_RegistryKeeps_r13 : List AI := [
  ⟨(some 6), none, .mov (.c (.bool false))⟩]
@[go_sem] def scriptinglaw18_RegistryKeeps_r14 : List AI := [
  ⟨(some 13), none, .mov (.c (.int .i64 0))⟩]
@[go_sem] def scriptinglaw18_RegistryKeeps_r15 : List AI := [
  ⟨(some 91), none, .mov (.t 13)⟩,
  ⟨(some 92), none, .mov (.t 2)⟩,
  ⟨(some 93), none, .len 0 (.t 92)⟩,
  ⟨(some 94), none, .bin .lss (.t 91) (.t 93)⟩]
@[go_sem] def scriptinglaw18_RegistryKeeps_r16 : List AI := [
  ⟨(some 97), none, .mov (.t 2)⟩,
  ⟨(some 98), none, .mov (.t 13)⟩,
  ⟨(some 99), none, .iaddr 8 (.t 97) (.t 98)⟩,
  ⟨(some 100), none, .faddr 0 (.t 99)⟩,
  ⟨(some 101), none, .load 1 false (.t 100)⟩,
  ⟨(some 102), none, .bin .neq (.t 101) (.c (.int .i64 1))⟩]
@[go_sem] def scriptinglaw18_RegistryKeeps_r17_0 : List AI := [
  ⟨(some 103), none, .mov (.t 7)⟩,
  ⟨(some 105), none, .mov (.t 2)⟩,
  ⟨(some 106), none, .mov (.t 13)⟩,
  ⟨(some 107), none, .iaddr 8 (.t 105) (.t 106)⟩,
  ⟨(some 108), none, .load 8 true (.t 107)⟩,
  ⟨(some 104), none, .call 19 []⟩,
  ⟨(some 109), none, .call 18 [(.t 103), (.t 104), (.t 108)]⟩]
@[go_sem] def scriptinglaw18_RegistryKeeps_r17_1 : List AI := [
  ⟨(some 103), none, .mov (.t 7)⟩,
  ⟨(some 105), none, .mov (.t 2)⟩,
  ⟨(some 106), none, .mov (.t 13)⟩,
  ⟨(some 107), none, .iaddr 8 (.t 105) (.t 106)⟩,
  ⟨(some 104), none, .call 19 []⟩,
  ⟨(some 108), none, .load 8 true (.t 107)⟩,
  ⟨(some 109), none, .call 18 [(.t 103), (.t 104), (.t 108)]⟩]
@[go_sem] def scriptinglaw18_RegistryKeeps_r17_2 : List AI := [
  ⟨(some 103), none, .mov (.t 7)⟩,
  ⟨(some 105), none, .mov (.t 2)⟩,
  ⟨(some 106), none, .mov (.t 13)⟩,
  ⟨(some 104), none, .call 19 []⟩,
  ⟨(some 107), none, .iaddr 8 (.t 105) (.t 106)⟩,
  ⟨(some 108), none, .load 8 true (.t 107)⟩,
  ⟨(some 109), none, .call 18 [(.t 103), (.t 104), (.t 108)]⟩]
@[go_sem] def scriptinglaw18_RegistryKeeps_r18 : List AI := [
  ⟨(some 95), none, .mov (.t 13)⟩,
  ⟨(some 96), none, .bin .add (.t 95) (.c (.int .i64 1))⟩,
  ⟨(some 13), none, .mov (.t 96)⟩]
def scriptinglaw18_RegistryKeeps_l0 : AC := .seq (.seq (.ops [scriptinglaw18_RegistryKeeps_r15]) (.cond (.t 94) (.skip) (.exit 0))) (.seq (.block 1 (.seq (.ops [scriptinglaw18_RegistryKeeps_r16]) (.cond (.t 102) (.ops [scriptinglaw18_RegistryKeeps_r17_0, scriptinglaw18_RegistryKeeps_r17_1, scriptinglaw18_RegistryKeeps_r17_2]) (.skip)))) (.ops [scriptinglaw18_RegistryKeeps_r18]))
theorem scriptinglaw18_RegistryKeeps_l0_eq : scriptinglaw18_RegistryKeeps_l0 = .seq (.seq (.ops [scriptinglaw18_RegistryKeeps_r15]) (.cond (.t 94) (.skip) (.exit 0))) (.seq (.block 1 (.seq (.ops [scriptinglaw18_RegistryKeeps_r16]) (.cond (.t 102) (.ops [scriptinglaw18_RegistryKeeps_r17_0, scriptinglaw18_RegistryKeeps_r17_1, scriptinglaw18_RegistryKeeps_r17_2]) (.skip)))) (.ops [scriptinglaw18_RegistryKeeps_r18])) := rfl
@[go_sem] def scriptinglaw18_RegistryKeeps_r19 : List AI := [
  ⟨(some 111), none, .mov (.t 7)⟩,
  ⟨(some 112), none, .mov (.t 11)⟩,
  ⟨(some 113), none, .call 20 [(.t 111), (.t 112)]⟩,
  ⟨(some 110), none, .mov (.t 113)⟩,
  ⟨(some 114), none, .ext 0 (.t 110)⟩,
  ⟨(some 115), none, .ext 1 (.t 110)⟩,
  ⟨(some 14), none, .box 40014 5 (.c (.agg [(.int .i64 0), (.int .i64 0), (.int .i64 0), (.str []), (.int .i64 0)]))⟩,
  ⟨none, none, .store 5 (.t 14) (.t 114)⟩,
  ⟨(some 15), none, .mov (.t 115)⟩]
@[go_sem] def scriptinglaw18_RegistryKeeps_r20 : List AI := [
  ⟨(some 116), none, .mov (.t 7)⟩,
  ⟨(some 117), none, .mov (.t 11)⟩,
  ⟨(some 118), none, .call 13 [(.t 116), (.t 117)]⟩,
  ⟨(some 16), none, .mov (.t 118)⟩]
@[go_sem] def scriptinglaw18_RegistryKeeps_r21 : List AI := [
  ⟨(some 120), none, .mov (.t 7)⟩,
  ⟨(some 121), none, .mov (.t 11)⟩,
  ⟨(some 122), none, .call 20 [(.t 120), (.t 121)]⟩,
  ⟨(some 119), none, .mov (.t 122)⟩,
  ⟨(some 123), none, .ext 0 (.t 119)⟩,
  ⟨(some 124), none, .ext 1 (.t 119)⟩,
  ⟨(some 17), none, .box 40017 5 (.c (.agg [(.int .i64 0), (.int .i64 0), (.int .i64 0), (.str []), (.int .i64 0)]))⟩,
  ⟨none, none, .store 5 (.t 17) (.t 123)⟩,
  ⟨(some 18), none, .mov (.t 124)⟩]
@[go_sem] def scriptinglaw18_RegistryKeeps_r22 : List AI := [
  ⟨(some 125), none, .load 5 true (.t 14)⟩,
  ⟨(some 126), none, .load 5 true (.t 4)⟩,
  ⟨(some 127), none, .eqa false (.agg [(0, 1, (.leaf 1)), (1, 2, (.agg [(0, 1, (.leaf 1)), (1, 1, (.leaf 1))])), (3, 1, (.leaf 2)), (4, 1, (.leaf 1))]) (.t 125) (.t 126)⟩,
  ⟨(some 128), none, .mov (.t 127)⟩,
  ⟨(some 129), (some (128, true)), .mov (.t 15)⟩,
  ⟨(some 130), (some (128, true)), .bin .eql (.t 129) (.c (.int .i64 0))⟩,
  ⟨(some 131), none, .pick (.t 128) (.t 130) (.c (.bool false))⟩,
  ⟨(some 132), none, .mov (.t 131)⟩,
  ⟨(some 133), (some (132, true)), .mov (.t 16)⟩,
  ⟨(some 134), (some (132, true)), .bin .eql (.t 133) (.c (.int .i64 0))⟩,
  ⟨(some 135), none, .pick (.t 132) (.t 134) (.c (.bool false))⟩,
  ⟨(some 136), none, .mov (.t 135)⟩,
  ⟨(some 137), (some (136, true)), .mov (.t 18)⟩,
  ⟨(some 138), (some (136, true)), .bin .eql (.t 137) (.c (.int .i64 6))⟩,
  ⟨(some 139), none, .pick (.t 136) (.t 138) (.c (.bool false))⟩,
  ⟨(some 140), none, .mov (.t 139)⟩,
  ⟨(some 141), (some (140, true)), .mov (.t 7)⟩,
  ⟨(some 142), (some (140, true)), .mov (.t 11)⟩,
  ⟨(some 143), (some (140, true)), .call 13 [(.t 141), (.t 142)]⟩,
  ⟨(some 144), (some (140, true)), .bin .eql (.t 143) (.c (.int .i64 6))⟩,
  ⟨(some 145), none, .pick (.t 140) (.t 144) (.c (.bool false))⟩,
  ⟨(some 146), none, .mov (.t 145)⟩,
  ⟨(some 147), (some (146, true)), .call 11 []⟩,
  ⟨(some 148), none, .pick (.t 146) (.t 147) (.c (.bool false))⟩,
  ⟨(some 6), none, .mov (.t 148)⟩]
@[go_sem] def scriptinglaw18_RegistryKeeps_c : AC := .seq (.ops [scriptinglaw18_RegistryKeeps_r0]) (.seq (.seq (.ops [scriptinglaw18_RegistryKeeps_r1]) (.cond (.t 24) (.seq (.ops [scriptinglaw18_RegistryKeeps_r2]) (.ret)) (.skip))) (.seq (.ops [scriptinglaw18_RegistryKeeps_r3]) (.seq (.seq (.ops [scriptinglaw18_RegistryKeeps_r4]) (.cond (.t 33) (.seq (.ops [scriptinglaw18_RegistryKeeps_r5]) (.ret)) (.skip))) (.seq (.ops [scriptinglaw18_RegistryKeeps_r6]) (.seq (.ops [scriptinglaw18_RegistryKeeps_r7]) (.seq (.seq (.ops [scriptinglaw18_RegistryKeeps_r8]) (.cond (.t 44) (.seq (.ops [scriptinglaw18_RegistryKeeps_r9]) (.ret)) (.skip))) (.seq (.seq (.ops [scriptinglaw18_RegistryKeeps_r10]) (.cond (.t 62) (.seq (.ops [scriptinglaw18_RegistryKeeps_r11]) (.ret)) (.skip))) (.seq (.seq (.ops [scriptinglaw18_RegistryKeeps_r12]) (.cond (.t 90) (.seq (.ops [scriptinglaw18_RegistryKeeps_r13]) (.ret)) (.skip))) (.seq (.seq (.ops [scriptinglaw18_RegistryKeeps_r14]) (.block 0 (.loop scriptinglaw18_RegistryKeeps_l0))) (.seq (.ops [scriptinglaw18_RegistryKeeps_r19]) (.seq (.ops [scriptinglaw18_RegistryKeeps_r20]) (.seq (.ops [scriptinglaw18_RegistryKeeps_r21]) (.seq (.ops [scriptinglaw18_RegistryKeeps_r22]) (.ret))))))))))))))
theorem scriptinglaw18_RegistryKeeps_ok : compF Try.prog 4 = some (149, scriptinglaw18_RegistryKeeps_c, [.t 6]) := by kernel_rfl

@[go_sem] def scriptinglaw18_RegistryNames_r0 : List AI := [
  ⟨(some 6), none, .box 50006 5 (.t 2)⟩,
  ⟨(some 8), none, .mov (.c (.bool false))⟩]
@[go_sem] def scriptinglaw18_RegistryNames_r1 : List AI := [
  ⟨(some 19), none, .mov (.t 0)⟩,
  ⟨(some 20), none, .call 15 [(.t 19)]⟩,
  ⟨(some 21), none, .mov (.t 20)⟩,
  ⟨(some 22), (some (21, false)), .mov (.t 1)⟩,
  ⟨(some 23), (some (21, false)), .len 1 (.t 22)⟩,
  ⟨(some 24), (some (21, false)), .bin .gtr (.t 23) (.c (.int .i64 5000))⟩,
  ⟨(some 25), none, .pick (.t 21) (.c (.bool true)) (.t 24)⟩,
  ⟨(some 26), none, .mov (.t 25)⟩,
  ⟨(some 27), (some (26, false)), .mov (.t 3)⟩,
  ⟨(some 28), (some (26, false)), .len 1 (.t 27)⟩,
  ⟨(some 29), (some (26, false)), .bin .gtr (.t 28) (.c (.int .i64 5000))⟩,
  ⟨(some 30), none, .pick (.t 26) (.c (.bool true)) (.t 29)⟩]
@[go_sem] def scriptinglaw18_RegistryNames_r2 : List AI := [
  ⟨(some 31), none, .call 11 []⟩,
  ⟨(some 8), none, .mov (.t 31)⟩]
@[go_sem] def scriptinglaw18_RegistryNames_r3 : List AI := [
  ⟨(some 33), none, .mov (.t 0)⟩,
  ⟨(some 34), none, .call 16 [(.t 33)]⟩,
  ⟨(some 32), none, .mov (.t 34)⟩,
  ⟨(some 35), none, .ext 0 (.t 32)⟩,
  ⟨(some 36), none, .ext 1 (.t 32)⟩,
  ⟨(some 37), none, .ext 2 (.t 32)⟩,
  ⟨(some 9), none, .mov (.t 35)⟩,
  ⟨(some 10), none, .mov (.t 36)⟩,
  ⟨(some 11), none, .mov (.t 37)⟩]
@[go_sem] def scriptinglaw18_RegistryNames_r4 : List AI := [
  ⟨(some 38), none, .mov (.t 11)⟩,
  ⟨(some 39), none, .un .not (.t 38)⟩]
@[go_sem] def scriptinglaw18_RegistryNames_r5 : List AI := [
  ⟨(some 8), none, .mov (.c (.bool false))⟩]
@[go_sem] def scriptinglaw18_RegistryNames_r6 : List AI := [
  ⟨(some 41), none, .mov (.t 9)⟩,
  ⟨(some 42), none, .mov (.t 3)⟩,
  ⟨(some 43), none, .call 21 [(.t 41), (.t 42)]⟩,
  ⟨(some 40), none, .mov (.t 43)⟩,
  ⟨(some 44), none, .ext 0 (.t 40)⟩,
  ⟨(some 45), none, .ext 1 (.t 40)⟩,
  ⟨(some 12), none, .box 50012 5 (.c (.agg [(.int .i64 0), (.int .i64 0), (.int .i64 0), (.str []), (.int .i64 0)]))⟩,
  ⟨none, none, .store 5 (.t 12) (.t 44)⟩,
  ⟨(some 13), none, .mov (.t 45)⟩]
@[go_sem] def scriptinglaw18_RegistryNames_r7 : List AI := [
  ⟨(some 46), none, .mov (.t 9)⟩,
  ⟨(some 47), none, .mov (.t 1)⟩,
  ⟨(some 48), none, .load 5 true (.t 6)⟩,
  ⟨(some 49), none, .call 22 [(.t 46), (.t 47), (.t 48)]⟩,
  ⟨(some 14), none, .mov (.t 49)⟩]
@[go_sem] def scriptinglaw18_RegistryNames_r8 : List AI := [
  ⟨(some 51), none, .mov (.t 9)⟩,
  ⟨(some 52), none, .mov (.t 1)⟩,
  ⟨(some 53), none, .call 21 [(.t 51), (.t 52)]⟩,
  ⟨(some 50), none, .mov (.t 53)⟩,
  ⟨(some 54), none, .ext 0 (.t 50)⟩,
  ⟨(some 55), none, .ext 1 (.t 50)⟩,
  ⟨(some 15), none, .box 50015 5 (.c (.agg [(.int .i64 0), (.int .i64 0), (.int .i64 0), (.str []), (.int .i64 0)]))⟩,
  ⟨none, none, .store 5 (.t 15) (.t 54)⟩,
  ⟨(some 16), none, .mov (.t 55)⟩]
@[go_sem] def scriptinglaw18_RegistryNames_r9 : List AI := [
  ⟨(some 57), none, .mov (.t 9)⟩,
  ⟨(some 58), none, .mov (.t 3)⟩,
  ⟨(some 59), none, .call 21 [(.t 57), (.t 58)]⟩,
  ⟨(some 56), none, .mov (.t 59)⟩,
  ⟨(some 60), none, .ext 0 (.t 56)⟩,
  ⟨(some 61), none, .ext 1 (.t 56)⟩,
  ⟨(some 17), none, .box 50017 5 (.c (.agg [(.int .i64 0), (.int .i64 0), (.int .i64 0), (.str []), (.int .i64 0)]))⟩,
  ⟨none, none, .store 5 (.t 17) (.t 60)⟩,
  ⟨(some 18), none, .mov (.t 61)⟩]
@[go_sem] def scriptinglaw18_RegistryNames_r10 : List AI := [
  ⟨(some 62), none, .mov (.t 1)⟩,
  ⟨(some 63), none, .mov (.t 3)⟩,
  ⟨(some 64), none, .bin .neq (.t 62) (.t 63)⟩,
  ⟨(some 65), none, .mov (.t 64)⟩,
  ⟨(some 66), (some (65, true)), .load 5 true (.t 17)⟩,
  ⟨(some 67), (some (65, true)), .load 5 true (.t 12)⟩,
  ⟨(some 68), (some (65, true)), .eqa true (.agg [(0, 1, (.leaf 1)), (1, 2, (.agg [(0, 1, (.leaf 1)), (1, 1, (.leaf 1))])), (3, 1, (.leaf 2)), (4, 1, (.leaf 1))]) (.t 66) (.t 67)⟩,
  ⟨(some 69), (some (65, true)), .mov (.t 68)⟩,
  ⟨(some 70), (some (69, false)), .mov (.t 18)⟩,
  ⟨(some 71), (some (69, false)), .mov (.t 13)⟩,
  ⟨(some 72), (some (69, false)), .eqp 2 true (.t 70) (.t 71)⟩,
  ⟨(some 73), (some (65, true)), .pick (.t 69) (.c (.bool true)) (.t 72)⟩,
  ⟨(some 74), none, .pick (.t 65) (.t 73) (.c (.bool false))⟩]
@[go_sem] def scriptinglaw18_RegistryNames_r11 : List AI := [
  ⟨(some 8), none, .mov (.c (.bool false))⟩]
@[go_sem] def scriptinglaw18_RegistryNames_r12 : List AI := [
  ⟨(some 75), none, .mov (.t 1)⟩,
  ⟨(some 76), none, .len 1 (.t 75)⟩,
  ⟨(some 77), none, .bin .gtr (.t 76) (.c (.int .i64 4096))⟩]
@[go_sem] def scriptinglaw18_RegistryNames_r13 : List AI := [
  ⟨(some 78), none, .mov (.t 14)⟩,
  ⟨(some 79), none, .bin .eql (.t 78) (.c (.int .i64 14))⟩,
  ⟨(some 80), none, .mov (.t 79)⟩,
  ⟨(some 81), (some (80, true)), .mov (.t 16)⟩,
  ⟨(some 82), (some (80, true)), .un .not (.t 81)⟩,
  ⟨(some 83), none, .pick (.t 80) (.t 82) (.c (.bool false))⟩,
  ⟨(some 84), none, .mov (.t 83)⟩,
  ⟨(some 85), (some (84, true)), .call 11 []⟩,
  ⟨(some 86), none, .pick (.t 84) (.t 85) (.c (.bool false))⟩,
  ⟨(some 8), none, .mov (.t 86)⟩]
@[go_sem] def scriptinglaw18_RegistryNames_r14 : List AI := [
  ⟨(some 87), none, .load 5 true (.t 6)⟩,
  ⟨(some 88), none, .call 17 [(.t 87)]⟩,
  ⟨(some 89), none, .un .not (.t 88)⟩]
@[go_sem] def scriptinglaw18_RegistryNames_r15 : List AI := [
  ⟨(some 90), none, .mov (.t 14)⟩,
  ⟨(some 91), none, .bin .eql (.t 90) (.c (.int .i64 2))⟩,
  ⟨(some 92), none, .mov (.t 91)⟩,
  ⟨(some 93), (some (92, true)), .call 11 []⟩,
  ⟨(some 94), none, .pick (.t 92) (.t 93) (.c (.bool false))⟩,
  ⟨(some 8), none, .mov (.t 94)⟩]
@[go_sem] def scriptinglaw18_RegistryNames_r16 : List AI := [
  ⟨(some 95), none, .mov (.t 14)⟩,
  ⟨(some 96), none, .bin .eql (.t 95) (.c (.int .i64 0))⟩,
  ⟨(some 97), none, .mov (.t 96)⟩,
  ⟨(some 98), (some (97, true)), .load 5 true (.t 15)⟩,
  ⟨(some 99), (some (97, true)), .load 5 true (.t 6)⟩,
  ⟨(some 100), (some (97, true)), .eqa false (.agg [(0, 1, (.leaf 1)), (1, 2, (.agg [(0, 1, (.leaf 1)), (1, 1, (.leaf 1))])), (3, 1, (.leaf 2)), (4, 1, (.leaf 1))]) (.t 98) (.t 99)⟩,
  ⟨(some 101), none, .pick (.t 97) (.t 100) (.c (.bool false))⟩,
  ⟨(some 102), none, .mov (.t 101)⟩,
  ⟨(some 103), (some (102, true)), .mov (.t 16)⟩,
  ⟨(some 104), (some (102, true)), .faddr 0 (.t 6)⟩,
  ⟨(some 105), (some (102, true)), .load 1 false (.t 104)⟩,
  ⟨(some 106), (some (102, true)), .bin .neq (.t 105) (.c (.int .i64 0))⟩,
  ⟨(some 107), (some (102, true)), .eqp 2 false (.t 103) (.t 106)⟩,
  ⟨(some 108), none, .pick (.t 102) (.t 107) (.c (.bool false))⟩,
  ⟨(some 109), none, .mov (.t 108)⟩,
  ⟨(some 110), (some (109, true)), .call 11 []⟩,
  ⟨(some 111), none, .pick (.t 109) (.t 110) (.c (.bool false))⟩,
  ⟨(some 8), none, .mov (.t 111)⟩]
@[go_sem] def scriptinglaw18_RegistryNames_c : AC := .seq (.ops [scriptinglaw18_RegistryNames_r0]) (.seq (.seq (.ops [scriptinglaw18_RegistryNames_r1]) (.cond (.t 30) (.seq (.ops [scriptinglaw18_RegistryNames_r2]) (.ret)) (.skip))) (.seq (.ops [scriptinglaw18_RegistryNames_r3]) (.seq (.seq (.ops [scriptinglaw18_RegistryNames_r4]) (.cond (.t 39) (.seq (.ops [scriptinglaw18_RegistryNames_r5]) (.ret)) (.skip))) (.seq (.ops [scriptinglaw18_RegistryNames_r6]) (.seq (.ops [scriptinglaw18_RegistryNames_r7]) (.seq (.ops [scriptinglaw18_RegistryNames_r8]) (.seq (.ops [scriptinglaw18_RegistryNames_r9]) (.seq (.seq (.ops [scriptinglaw18_RegistryNames_r10]) (.cond (.t 74) (.seq (.ops [scriptinglaw18_RegistryNames_r11]) (.ret)) (.skip))) (.seq (.seq (.ops [scriptinglaw18_RegistryNames_r12]) (.cond (.t 77) (.seq (.ops [scriptinglaw18_RegistryNames_r13]) (.ret)) (.skip))) (.seq (.seq (.ops [scriptinglaw18_RegistryNames_r14]) (.cond (.t 89) (.seq (.ops [scriptinglaw18_RegistryNames_r15]) (.ret)) (.skip))) (.seq (.ops [scriptinglaw18_RegistryNames_r16]) (.ret))))))))))))
theorem scriptinglaw18_RegistryNames_ok : compF Try.prog 5 = some (112, scriptinglaw18_RegistryNames_c, [.t 8]) := by kernel_rfl

@[go_sem] def scriptinglaw18_RegistryFull_r0 : List AI := [
  ⟨(some 2), none, .box 60002 5 (.t 0)⟩,
  ⟨(some 4), none, .mov (.c (.bool false))⟩]
@[go_sem] def scriptinglaw18_RegistryFull_r1 : List AI := [
  ⟨(some 16), none, .call 10 []⟩,
  ⟨(some 5), none, .mov (.t 16)⟩]
@[go_sem] def scriptinglaw18_RegistryFull_r2 : List AI := [
  ⟨(some 17), none, .mov (.t 5)⟩,
  ⟨(some 18), none, .eqp 0 false (.t 17) (.c .nilp)⟩]
@[go_sem] def scriptinglaw18_RegistryFull_r3 : List AI := [
  ⟨(some 4), none, .mov (.c (.bool false))⟩]
@[go_sem] def scriptinglaw18_RegistryFull_r4 : List AI := [
  ⟨(some 19), none, .load 5 true (.t 2)⟩,
  ⟨(some 20), none, .call 17 [(.t 19)]⟩,
  ⟨(some 21), none, .un .not (.t 20)⟩,
  ⟨(some 22), none, .mov (.t 21)⟩,
  ⟨(some 23), (some (22, false)), .faddr 0 (.t 2)⟩,
  ⟨(some 24), (some (22, false)), .load 1 false (.t 23)⟩,
  ⟨(some 25), (some (22, false)), .bin .eql (.t 24) (.c (.int .i64 0))⟩,
  ⟨(some 26), none, .pick (.t 22) (.c (.bool true)) (.t 25)⟩]
@[go_sem] def scriptinglaw18_RegistryFull_r5 : List AI := [
  ⟨(some 27), none, .call 11 []⟩,
  ⟨(some 4), none, .mov (.t 27)⟩]
@[go_sem] def scriptinglaw18_RegistryFull_r6 : List AI := [
  ⟨(some 6), none, .mov (.c (.int .i64 1))⟩]
@[go_sem] def scriptinglaw18_RegistryFull_r7 : List AI := [
  ⟨(some 28), none, .mov (.t 6)⟩,
  ⟨(some 29), none, .bin .leq (.t 28) (.c (.int .i64 1000))⟩]
@[go_sem] def scriptinglaw18_RegistryFull_r8 : List AI := [
  ⟨(some 33), none, .mov (.t 5)⟩,
  ⟨(some 34), none, .load 5 true (.t 2)⟩,
  ⟨(some 35), none, .call 12 [(.t 33), (.t 34)]⟩,
  ⟨(some 32), none, .mov (.t 35)⟩,
  ⟨(some 36), none, .ext 0 (.t 32)⟩,
  ⟨(some 37), none, .ext 1 (.t 32)⟩,
  ⟨(some 7), none, .mov (.t 36)⟩,
  ⟨(some 8), none, .mov (.t 37)⟩]
@[go_sem] def scriptinglaw18_RegistryFull_r9 : List AI := [
  ⟨(some 38), none, .mov (.t 8)⟩,
  ⟨(some 39), none, .bin .neq (.t 38) (.c (.int .i64 0))⟩]
@[go_sem] def scriptinglaw18_RegistryFull_r10 : List AI := [
  ⟨(some 4), none, .mov (.c (.bool false))⟩]
@[go_sem] def scriptinglaw18_RegistryFull_r11_0 : List AI := [
  ⟨(some 40), none, .mov (.t 5)⟩,
  ⟨(some 41), none, .mov (.t 6)⟩,
  ⟨(some 43), none, .load 5 true (.t 2)⟩,
  ⟨(some 42), none, .call 23 [(.c (.str [110])), (.t 41)]⟩,
  ⟨(some 44), none, .call 22 [(.t 40), (.t 42), (.t 43)]⟩,
  ⟨(some 9), none, .mov (.t 44)⟩]
@[go_sem] def scriptinglaw18_RegistryFull_r11_1 : List AI := [
  ⟨(some 40), none, .mov (.t 5)⟩,
  ⟨(some 41), none, .mov (.t 6)⟩,
  ⟨(some 42), none, .call 23 [(.c (.str [110])), (.t 41)]⟩,
  ⟨(some 43), none, .load 5 true (.t 2)⟩,
  ⟨(some 44), none, .call 22 [(.t 40), (.t 42), (.t 43)]⟩,
  ⟨(some 9), none, .mov (.t 44)⟩]
@[go_sem] def scriptinglaw18_RegistryFull_r12 : List AI := [
  ⟨(some 45), none, .mov (.t 9)⟩,
  ⟨(some 46), none, .bin .neq (.t 45) (.c (.int .i64 0))⟩]
@[go_sem] def scriptinglaw18_RegistryFull_r13 : List AI := [
  ⟨(some 4), none, .mov (.c (.bool false))⟩]
@[go_sem] def scriptinglaw18_RegistryFull_r14 : List AI := [
  ⟨(some 30), none, .mov (.t 6)⟩,
  ⟨(some 31), none, .bin .add (.t 30) (.c (.int .i64 1))⟩,
  ⟨(some 6), none, .mov (.t 31)⟩]
def scriptinglaw18_RegistryFull_l0 : AC := .seq (.seq (.ops [scriptinglaw18_RegistryFull_r7]) (.cond (.t 29) (.skip) (.exit 0))) (.seq (.block 1 (.seq (.seq (.ops [scriptinglaw18_RegistryFull_r8]) (.seq (.ops [scriptinglaw18_RegistryFull_r9]) (.cond (.t 39) (.seq (.ops [scriptinglaw18_RegistryFull_r10]) (.ret)) (.skip)))) (.seq (.ops [scriptinglaw18_RegistryFull_r11_0, scriptinglaw18_RegistryFull_r11_1]) (.seq (.ops [scriptinglaw18_RegistryFull_r12]) (.cond (.t 46) (.seq (.ops [scriptinglaw18_RegistryFull_r13]) (.ret)) (.skip)))))) (.ops [scriptinglaw18_RegistryFull_r14]))
theorem scriptinglaw18_RegistryFull_l0_eq : scriptinglaw18_RegistryFull_l0 = .seq (.seq (.ops [scriptinglaw18_RegistryFull_r7]) (.cond (.t 29) (.skip) (.exit 0))) (.seq (.block 1 (.seq (.seq (.ops [scriptinglaw18_RegistryFull_r8]) (.seq (.ops [scriptinglaw18_RegistryFull_r9]) (.cond (.t 39) (.seq (.ops [scriptinglaw18_RegistryFull_r10]) (.ret)) (.skip)))) (.seq (.ops [scriptinglaw18_RegistryFull_r11_0, scriptinglaw18_RegistryFull_r11_1]) (.seq (.ops [scriptinglaw18_RegistryFull_r12]) (.cond (.t 46) (.seq (.ops [scriptinglaw18_RegistryFull_r13]) (.ret)) (.skip)))))) (.ops [scriptinglaw18_RegistryFull_r14])) := rfl
@[go_sem] def scriptinglaw18_RegistryFull_r15 : List AI := [
  ⟨(some 48), none, .mov (.t 5)⟩,
  ⟨(some 49), none, .load 5 true (.t 2)⟩,
  ⟨(some 50), none, .call 12 [(.t 48), (.t 49)]⟩,
  ⟨(some 47), none, .mov (.t 50)⟩,
  ⟨(some 51), none, .ext 0 (.t 47)⟩,
  ⟨(some 52), none, .ext 1 (.t 47)⟩,
  ⟨(some 10), none, .mov (.t 51)⟩,
  ⟨(some 11), none, .mov (.t 52)⟩]
@[go_sem] def scriptinglaw18_RegistryFull_r16 : List AI := [
  ⟨(some 53), none, .mov (.t 5)⟩,
  ⟨(some 54), none, .load 5 true (.t 2)⟩,
  ⟨(some 55), none, .call 22 [(.t 53), (.c (.str [111, 116, 104, 101, 114])), (.t 54)]⟩,
  ⟨(some 12), none, .mov (.t 55)⟩]
@[go_sem] def scriptinglaw18_RegistryFull_r17 : List AI := [
  ⟨(some 56), none, .mov (.t 1)⟩,
  ⟨(some 57), none, .conv .i64 (.t 56)⟩,
  ⟨(some 58), none, .bin .rem (.t 57) (.c (.int .i64 1000))⟩,
  ⟨(some 59), none, .bin .add (.c (.int .i64 1)) (.t 58)⟩,
  ⟨(some 13), none, .mov (.t 59)⟩]
@[go_sem] def scriptinglaw18_RegistryFull_r18 : List AI := [
  ⟨(some 60), none, .mov (.t 11)⟩,
  ⟨(some 61), none, .bin .neq (.t 60) (.c (.int .i64 17))⟩,
  ⟨(some 62), none, .mov (.t 61)⟩,
  ⟨(some 63), (some (62, false)), .mov (.t 12)⟩,
  ⟨(some 64), (some (62, false)), .bin .neq (.t 63) (.c (.int .i64 17))⟩,
  ⟨(some 65), none, .pick (.t 62) (.c (.bool true)) (.t 64)⟩,
  ⟨(some 66), none, .mov (.t 65)⟩,
  ⟨(some 67), (some (66, false)), .mov (.t 5)⟩,
  ⟨(some 68), (some (66, false)), .load 5 true (.t 2)⟩,
  ⟨(some 69), (some (66, false)), .call 22 [(.t 67), (.c (.str [110])), (.t 68)]⟩,
  ⟨(some 70), (some (66, false)), .bin .neq (.t 69) (.c (.int .i64 0))⟩,
  ⟨(some 71), none, .pick (.t 66) (.c (.bool true)) (.t 70)⟩,
  ⟨(some 72), none, .mov (.t 71)⟩,
  ⟨(some 73), (some (72, false)), .mov (.t 5)⟩,
  ⟨(some 74), (some (72, false)), .call 14 [(.t 73)]⟩,
  ⟨(some 75), (some (72, false)), .bin .neq (.t 74) (.c (.int .i64 2000))⟩,
  ⟨(some 76), none, .pick (.t 72) (.c (.bool true)) (.t 75)⟩,
  ⟨(some 77), none, .mov (.t 76)⟩,
  ⟨(some 78), (some (77, false)), .mov (.t 5)⟩,
  ⟨(some 79), (some (77, false)), .mov (.t 13)⟩,
  ⟨(some 80), (some (77, false)), .call 13 [(.t 78), (.t 79)]⟩,
  ⟨(some 81), (some (77, false)), .bin .neq (.t 80) (.c (.int .i64 0))⟩,
  ⟨(some 82), none, .pick (.t 77) (.c (.bool true)) (.t 81)⟩,
  ⟨(some 83), none, .mov (.t 82)⟩,
  ⟨(some 84), (some (83, false)), .mov (.t 5)⟩,
  ⟨(some 85), (some (83, false)), .build [(.int .i64 0), (.int .i64 0), (.int .i64 0), (.str []), (.int .i64 0)] []⟩,
  ⟨(some 86), (some (83, false)), .call 22 [(.t 84), (.c (.str [110, 110])), (.t 85)]⟩,
  ⟨(some 87), (some (83, false)), .bin .neq (.t 86) (.c (.int .i64 0))⟩,
  ⟨(some 88), none, .pick (.t 83) (.c (.bool true)) (.t 87)⟩]
@[go_sem] def scriptinglaw18_RegistryFull_r19 : List AI := [
  ⟨(some 4), none, .mov (.c (.bool false))⟩]
@[go_sem] def scriptinglaw18_RegistryFull_r20 : List AI := [
  ⟨(some 90), none, .mov (.t 5)⟩,
  ⟨(some 91), none, .load 5 true (.t 2)⟩,
  ⟨(some 92), none, .call 12 [(.t 90), (.t 91)]⟩,
  ⟨(some 89), none, .mov (.t 92)⟩,
  ⟨(some 93), none, .ext 0 (.t 89)⟩,
  ⟨(some 94), none, .ext 1 (.t 89)⟩,
  ⟨(some 14), none, .mov (.t 93)⟩,
  ⟨(some 15), none, .mov (.t 94)⟩]
@[go_sem] def scriptinglaw18_RegistryFull_r21 : List AI := [
  ⟨(some 95), none, .mov (.t 14)⟩,
  ⟨(some 96), none, .mov (.t 13)⟩,
  ⟨(some 97), none, .bin .eql (.t 95) (.t 96)⟩,
  ⟨(some 98), none, .mov (.t 97)⟩,
  ⟨(some 99), (some (98, true)), .mov (.t 15)⟩,
  ⟨(some 100), (some (98, true)), .bin .eql (.t 99) (.c (.int .i64 0))⟩,
  ⟨(some 101), none, .pick (.t 98) (.t 100) (.c (.bool false))⟩,
  ⟨(some 102), none, .mov (.t 101)⟩,
  ⟨(some 103), (some (102, true)), .mov (.t 5)⟩,
  ⟨(some 104), (some (102, true)), .load 5 true (.t 2)⟩,
  ⟨(some 105), (some (102, true)), .call 22 [(.t 103), (.c (.str [111, 116, 104, 101, 114])), (.t 104)]⟩,
  ⟨(some 106), (some (102, true)), .bin .eql (.t 105) (.c (.int .i64 0))⟩,
  ⟨(some 107), none, .pick (.t 102) (.t 106) (.c (.bool false))⟩,
  ⟨(some 108), none, .mov (.t 107)⟩,
  ⟨(some 109), (some (108, true)), .call 11 []⟩,
  ⟨(some 110), none, .pick (.t 108) (.t 109) (.c (.bool false))⟩,
  ⟨(some 4), none, .mov (.t 110)⟩]
@[go_sem] def scriptinglaw18_RegistryFull_c : AC := .seq (.ops [scriptinglaw18_RegistryFull_r0]) (.seq (.ops [scriptinglaw18_RegistryFull_r1]) (.seq (.seq (.ops [scriptinglaw18_RegistryFull_r2]) (.cond (.t 18) (.seq (.ops [scriptinglaw18_RegistryFull_r3]) (.ret)) (.skip))) (.seq (.seq (.ops [scriptinglaw18_RegistryFull_r4]) (.cond (.t 26) (.seq (.ops [scriptinglaw18_RegistryFull_r5]) (.ret)) (.skip))) (.seq (.seq (.ops [scriptinglaw18_RegistryFull_r6]) (.block 0 (.loop scriptinglaw18_RegistryFull_l0))) (.seq (.ops [scriptinglaw18_RegistryFull_r15]) (.seq (.ops [scriptinglaw18_RegistryFull_r16]) (.seq (.ops [scriptinglaw18_RegistryFull_r17]) (.seq (.seq (.ops [scriptinglaw18_RegistryFull_r18]) (.cond (.t 88) (.seq (.ops [scriptinglaw18_RegistryFull_r19]) (.ret)) (.skip))) (.seq (.ops [scriptinglaw18_RegistryFull_r20]) (.seq (.ops [scriptinglaw18_RegistryFull_r21]) (.ret)))))))))))
theorem scriptinglaw18_RegistryFull_ok : compF Try.prog 6 = some (111, scriptinglaw18_RegistryFull_c, [.t 4]) := by kernel_rfl

@[go_sem] def scriptinglaw18_RegistryPlays_r0 : List AI := [
  ⟨(some 2), none, .mov (.c (.bool false))⟩]
@[go_sem] def scriptinglaw18_RegistryPlays_r1 : List AI := [
  ⟨(some 6), none, .mov (.t 0)⟩,
  ⟨(some 7), none, .call 15 [(.t 6)]⟩]
@[go_sem] def scriptinglaw18_RegistryPlays_r2 : List AI := [
  ⟨(some 8), none, .call 11 []⟩,
  ⟨(some 2), none, .mov (.t 8)⟩]
@[go_sem] def scriptinglaw18_RegistryPlays_r3 : List AI := [
  ⟨(some 9), none, .call 10 []⟩,
  ⟨(some 10), none, .call 19 []⟩,
  ⟨(some 3), none, .mov (.t 9)⟩,
  ⟨(some 4), none, .mov (.t 10)⟩]
@[go_sem] def scriptinglaw18_RegistryPlays_r4 : List AI := [
  ⟨(some 11), none, .mov (.t 3)⟩,
  ⟨(some 12), none, .eqp 0 false (.t 11) (.c .nilp)⟩]
@[go_sem] def scriptinglaw18_RegistryPlays_r5 : List AI := [
  ⟨(some 2), none, .mov (.c (.bool false))⟩]
@[go_sem] def scriptinglaw18_RegistryPlays_r6 : List AI := [
  ⟨(some 5), none, .mov (.c (.int .i64 0))⟩]
@[go_sem] def scriptinglaw18_RegistryPlays_r7 : List AI := [
  ⟨(some 13), none, .mov (.t 5)⟩,
  ⟨(some 14), none, .mov (.t 0)⟩,
  ⟨(some 15), none, .len 0 (.t 14)⟩,
  ⟨(some 16), none, .bin .lss (.t 13) (.t 15)⟩]
@[go_sem] def scriptinglaw18_RegistryPlays_r8 : List AI := [
  ⟨(some 19), none, .mov (.t 3)⟩,
  ⟨(some 20), none, .mov (.t 4)⟩,
  ⟨(some 21), none, .mov (.t 0)⟩,
  ⟨(some 22), none, .mov (.t 5)⟩,
  ⟨(some 23), none, .iaddr 8 (.t 21) (.t 22)⟩,
  ⟨(some 24), none, .load 8 true (.t 23)⟩,
  ⟨(some 25), none, .call 18 [(.t 19), (.t 20), (.t 24)]⟩,
  ⟨(some 26), none, .un .not (.t 25)⟩,
  ⟨(some 27), none, .mov (.t 26)⟩,
  ⟨(some 28), (some (27, false)), .mov (.t 3)⟩,
  ⟨(some 29), (some (27, false)), .mov (.t 4)⟩,
  ⟨(some 30), (some (27, false)), .call 24 [(.t 28), (.t 29)]⟩,
  ⟨(some 31), (some (27, false)), .un .not (.t 30)⟩,
  ⟨(some 32), none, .pick (.t 27) (.c (.bool true)) (.t 31)⟩]
@[go_sem] def scriptinglaw18_RegistryPlays_r9 : List AI := [
  ⟨(some 2), none, .mov (.c (.bool false))⟩]
@[go_sem] def scriptinglaw18_RegistryPlays_r10 : List AI := [
  ⟨(some 17), none, .mov (.t 5)⟩,
  ⟨(some 18), none, .bin .add (.t 17) (.c (.int .i64 1))⟩,
  ⟨(some 5), none, .mov (.t 18)⟩]
def scriptinglaw18_RegistryPlays_l0 : AC := .seq (.seq (.ops [scriptinglaw18_RegistryPlays_r7]) (.cond (.t 16) (.skip) (.exit 0))) (.seq (.block 1 (.seq (.ops [scriptinglaw18_RegistryPlays_r8]) (.cond (.t 32) (.seq (.ops [scriptinglaw18_RegistryPlays_r9]) (.ret)) (.skip)))) (.ops [scriptinglaw18_RegistryPlays_r10]))
theorem scriptinglaw18_RegistryPlays_l0_eq : scriptinglaw18_RegistryPlays_l0 = .seq (.seq (.ops [scriptinglaw18_RegistryPlays_r7]) (.cond (.t 16) (.skip) (.exit 0))) (.seq (.block 1 (.seq (.ops [scriptinglaw18_RegistryPlays_r8]) (.cond (.t 32) (.seq (.ops [scriptinglaw18_RegistryPlays_r9]) (.ret)) (.skip)))) (.ops [scriptinglaw18_RegistryPlays_r10])) := rfl
@[go_sem] def scriptinglaw18_RegistryPlays_r11 : List AI := [
  ⟨(some 33), none, .call 11 []⟩,
  ⟨(some 2), none, .mov (.t 33)⟩]
@[go_sem] def scriptinglaw18_RegistryPlays_c : AC := .seq (.ops [scriptinglaw18_RegistryPlays_r0]) (.seq (.seq (.ops [scriptinglaw18_RegistryPlays_r1]) (.cond (.t 7) (.seq (.ops [scriptinglaw18_RegistryPlays_r2]) (.ret)) (.skip))) (.seq (.ops [scriptinglaw18_RegistryPlays_r3]) (.seq (.seq (.ops [scriptinglaw18_RegistryPlays_r4]) (.cond (.t 12) (.seq (.ops [scriptinglaw18_RegistryPlays_r5]) (.ret)) (.skip))) (.seq (.seq (.ops [scriptinglaw18_RegistryPlays_r6]) (.block 0 (.loop scriptinglaw18_RegistryPlays_l0))) (.seq (.ops [scriptinglaw18_RegistryPlays_r11]) (.ret))))))
theorem scriptinglaw18_RegistryPlays_ok : compF Try.prog 7 = some (34, scriptinglaw18_RegistryPlays_c, [.t 2]) := by kernel_rfl

@[go_sem] def scriptinglaw18_RegistryRoots_r0 : List AI := [
  ⟨(some 2), none, .mov (.c (.bool false))⟩]
@[go_sem] def scriptinglaw18_RegistryRoots_r1 : List AI := [
  ⟨(some 14), none, .mov (.t 0)⟩,
  ⟨(some 15), none, .call 15 [(.t 14)]⟩]
@[go_sem] def scriptinglaw18_RegistryRoots_r2 : List AI := [
  ⟨(some 16), none, .call 11 []⟩,
  ⟨(some 2), none, .mov (.t 16)⟩]
@[go_sem] def scriptinglaw18_RegistryRoots_r3 : List AI := [
  ⟨(some 18), none, .mov (.t 0)⟩,
  ⟨(some 19), none, .call 16 [(.t 18)]⟩,
  ⟨(some 17), none, .mov (.t 19)⟩,
  ⟨(some 20), none, .ext 0 (.t 17)⟩,
  ⟨(some 21), none, .ext 1 (.t 17)⟩,
  ⟨(some 22), none, .ext 2 (.t 17)⟩,
  ⟨(some 3), none, .mov (.t 20)⟩,
  ⟨(some 4), none, .mov (.t 21)⟩,
  ⟨(some 5), none, .mov (.t 22)⟩]
@[go_sem] def scriptinglaw18_RegistryRoots_r4 : List AI := [
  ⟨(some 23), none, .mov (.t 5)⟩,
  ⟨(some 24), none, .un .not (.t 23)⟩]
@[go_sem] def scriptinglaw18_RegistryRoots_r5 : List AI := [
  ⟨(some 2), none, .mov (.c (.bool false))⟩]
@[go_sem] def scriptinglaw18_RegistryRoots_r6 : List AI := [
  ⟨(some 6), none, .mov (.c .nils)⟩]
@[go_sem] def scriptinglaw18_RegistryRoots_r7 : List AI := [
  ⟨(some 7), none, .mov (.c (.int .i64 0))⟩]
@[go_sem] def scriptinglaw18_RegistryRoots_r8 : List AI := [
  ⟨(some 25), none, .mov (.t 7)⟩,
  ⟨(some 26), none, .mov (.t 0)⟩,
  ⟨(some 27), none, .len 0 (.t 26)⟩,
  ⟨(some 28), none, .bin .lss (.t 25) (.t 27)⟩]
@[go_sem] def scriptinglaw18_RegistryRoots_r9 : List AI := [
  ⟨(some 32), none, .mov (.t 3)⟩,
  ⟨(some 33), none, .mov (.t 7)⟩,
  ⟨(some 34), none, .bin .add (.t 33) (.c (.int .i64 1))⟩,
  ⟨(some 35), none, .call 20 [(.t 32), (.t 34)]⟩,
  ⟨(some 31), none, .mov (.t 35)⟩,
  ⟨(some 36), none, .ext 0 (.t 31)⟩,
  ⟨(some 37), none, .ext 1 (.t 31)⟩,
  ⟨(some 8), none, .box 80008 5 (.c (.agg [(.int .i64 0), (.int .i64 0), (.int .i64 0), (.str []), (.int .i64 0)]))⟩,
  ⟨none, none, .store 5 (.t 8) (.t 36)⟩,
  ⟨(some 9), none, .mov (.t 37)⟩]
@[go_sem] def scriptinglaw18_RegistryRoots_r10 : List AI := [
  ⟨(some 39), none, .mov (.t 3)⟩,
  ⟨(some 40), none, .mov (.t 0)⟩,
  ⟨(some 41), none, .mov (.t 7)⟩,
  ⟨(some 42), none, .iaddr 8 (.t 40) (.t 41)⟩,
  ⟨(some 43), none, .faddr 2 (.t 42)⟩,
  ⟨(some 44), none, .load 1 false (.t 43)⟩,
  ⟨(some 45), none, .call 21 [(.t 39), (.t 44)]⟩,
  ⟨(some 38), none, .mov (.t 45)⟩,
  ⟨(some 46), none, .ext 0 (.t 38)⟩,
  ⟨(some 47), none, .ext 1 (.t 38)⟩,
  ⟨(some 10), none, .box 80010 5 (.c (.agg [(.int .i64 0), (.int .i64 0), (.int .i64 0), (.str []), (.int .i64 0)]))⟩,
  ⟨none, none, .store 5 (.t 10) (.t 46)⟩,
  ⟨(some 11), none, .mov (.t 47)⟩]
@[go_sem] def scriptinglaw18_RegistryRoots_r11_0 : List AI := [
  ⟨(some 48), none, .mov (.t 6)⟩,
  ⟨(some 49), none, .load 5 true (.t 8)⟩,
  ⟨(some 51), none, .load 5 true (.t 10)⟩,
  ⟨(some 50), none, .call 25 [(.t 48), (.t 49)]⟩,
  ⟨(some 52), none, .call 25 [(.t 50), (.t 51)]⟩,
  ⟨(some 6), none, .mov (.t 52)⟩]
@[go_sem] def scriptinglaw18_RegistryRoots_r11_1 : List AI := [
  ⟨(some 48), none, .mov (.t 6)⟩,
  ⟨(some 49), none, .load 5 true (.t 8)⟩,
  ⟨(some 50), none, .call 25 [(.t 48), (.t 49)]⟩,
  ⟨(some 51), none, .load 5 true (.t 10)⟩,
  ⟨(some 52), none, .call 25 [(.t 50), (.t 51)]⟩,
  ⟨(some 6), none, .mov (.t 52)⟩]
@[go_sem] def scriptinglaw18_RegistryRoots_r12 : List AI := [
  ⟨(some 29), none, .mov (.t 7)⟩,
  ⟨(some 30), none, .bin .add (.t 29) (.c (.int .i64 1))⟩,
  ⟨(some 7), none, .mov (.t 30)⟩]
def scriptinglaw18_RegistryRoots_l0 : AC := .seq (.seq (.ops [scriptinglaw18_RegistryRoots_r8]) (.cond (.t 28) (.skip) (.exit 0))) (.seq (.block 1 (.seq (.ops [scriptinglaw18_RegistryRoots_r9]) (.seq (.ops [scriptinglaw18_RegistryRoots_r10]) (.ops [scriptinglaw18_RegistryRoots_r11_0, scriptinglaw18_RegistryRoots_r11_1])))) (.ops [scriptinglaw18_RegistryRoots_r12]))
theorem scriptinglaw18_RegistryRoots_l0_eq : scriptinglaw18_RegistryRoots_l0 = .seq (.seq (.ops [scriptinglaw18_RegistryRoots_r8]) (.cond (.t 28) (.skip) (.exit 0))) (.seq (.block 1 (.seq (.ops [scriptinglaw18_RegistryRoots_r9]) (.seq (.ops [scriptinglaw18_RegistryRoots_r10]) (.ops [scriptinglaw18_RegistryRoots_r11_0, scriptinglaw18_RegistryRoots_r11_1])))) (.ops [scriptinglaw18_RegistryRoots_r12])) := rfl
@[go_sem] def scriptinglaw18_RegistryRoots_r13 : List AI := [
  ⟨(some 53), none, .mov (.t 3)⟩,
  ⟨(some 54), none, .call 26 [(.t 53)]⟩,
  ⟨(some 12), none, .mov (.t 54)⟩]
@[go_sem] def scriptinglaw18_RegistryRoots_r14 : List AI := [
  ⟨(some 13), none, .mov (.c (.int .i64 0))⟩]
@[go_sem] def scriptinglaw18_RegistryRoots_r15 : List AI := [
  ⟨(some 55), none, .mov (.t 13)⟩,
  ⟨(some 56), none, .mov (.t 12)⟩,
  ⟨(some 57), none, .len 0 (.t 56)⟩,
  ⟨(some 58), none, .bin .lss (.t 55) (.t 57)⟩]
@[go_sem] def scriptinglaw18_RegistryRoots_r16 : List AI := [
  ⟨(some 61), none, .mov (.t 6)⟩,
  ⟨(some 62), none, .mov (.t 12)⟩,
  ⟨(some 63), none, .mov (.t 13)⟩,
  ⟨(some 64), none, .iaddr 1 (.t 62) (.t 63)⟩,
  ⟨(some 65), none, .load 1 false (.t 64)⟩,
  ⟨(some 66), none, .call 27 [(.t 61), (.t 65)]⟩,
  ⟨(some 67), none, .un .not (.t 66)⟩,
  ⟨(some 68), none, .mov (.t 67)⟩,
  ⟨(some 69), (some (68, false)), .mov (.t 13)⟩,
  ⟨(some 70), (some (68, false)), .bin .gtr (.t 69) (.c (.int .i64 0))⟩,
  ⟨(some 71), (some (68, false)), .mov (.t 70)⟩,
  ⟨(some 72), (some (71, true)), .mov (.t 12)⟩,
  ⟨(some 73), (some (71, true)), .mov (.t 13)⟩,
  ⟨(some 74), (some (71, true)), .iaddr 1 (.t 72) (.t 73)⟩,
  ⟨(some 75), (some (71, true)), .load 1 false (.t 74)⟩,
  ⟨(some 76), (some (71, true)), .mov (.t 12)⟩,
  ⟨(some 77), (some (71, true)), .mov (.t 13)⟩,
  ⟨(some 78), (some (71, true)), .bin .sub (.t 77) (.c (.int .i64 1))⟩,
  ⟨(some 79), (some (71, true)), .iaddr 1 (.t 76) (.t 78)⟩,
  ⟨(some 80), (some (71, true)), .load 1 false (.t 79)⟩,
  ⟨(some 81), (some (71, true)), .bin .leq (.t 75) (.t 80)⟩,
  ⟨(some 82), (some (68, false)), .pick (.t 71) (.t 81) (.c (.bool false))⟩,
  ⟨(some 83), none, .pick (.t 68) (.c (.bool true)) (.t 82)⟩]
@[go_sem] def scriptinglaw18_RegistryRoots_r17 : List AI := [
  ⟨(some 2), none, .mov (.c (.bool false))⟩]
@[go_sem] def scriptinglaw18_RegistryRoots_r18 : List AI := [
  ⟨(some 59), none, .mov (.t 13)⟩,
  ⟨(some 60), none, .bin .add (.t 59) (.c (.int .i64 1))⟩,
  ⟨(some 13), none, .mov (.t 60)⟩]
def scriptinglaw18_RegistryRoots_l1 : AC := .seq (.seq (.ops [scriptinglaw18_RegistryRoots_r15]) (.cond (.t 58) (.skip) (.exit 2))) (.seq (.block 3 (.seq (.ops [scriptinglaw18_RegistryRoots_r16]) (.cond (.t 83) (.seq (.ops [scriptinglaw18_RegistryRoots_r17]) (.ret)) (.skip)))) (.ops [scriptinglaw18_RegistryRoots_r18]))
theorem scriptinglaw18_RegistryRoots_l1_eq : scriptinglaw18_RegistryRoots_l1 = .seq (.seq (.ops [scriptinglaw18_RegistryRoots_r15]) (.cond (.t 58) (.skip) (.exit 2))) (.seq (.block 3 (.seq (.ops [scriptinglaw18_RegistryRoots_r16]) (.cond (.t 83) (.seq (.ops [scriptinglaw18_RegistryRoots_r17]) (.ret)) (.skip)))) (.ops [scriptinglaw18_RegistryRoots_r18])) := rfl
@[go_sem] def scriptinglaw18_RegistryRoots_r19 : List AI := [
  ⟨(some 84), none, .mov (.t 12)⟩,
  ⟨(some 85), none, .len 0 (.t 84)⟩,
  ⟨(some 86), none, .mov (.t 6)⟩,
  ⟨(some 87), none, .len 0 (.t 86)⟩,
  ⟨(some 88), none, .bin .eql (.t 85) (.t 87)⟩,
  ⟨(some 89), none, .mov (.t 88)⟩,
  ⟨(some 90), (some (89, true)), .call 11 []⟩,
  ⟨(some 91), none, .pick (.t 89) (.t 90) (.c (.bool false))⟩,
  ⟨(some 2), none, .mov (.t 91)⟩]
@[go_sem] def scriptinglaw18_RegistryRoots_c : AC := .seq (.ops [scriptinglaw18_RegistryRoots_r0]) (.seq (.seq (.ops [scriptinglaw18_RegistryRoots_r1]) (.cond (.t 15) (.seq (.ops [scriptinglaw18_RegistryRoots_r2]) (.ret)) (.skip))) (.seq (.ops [scriptinglaw18_RegistryRoots_r3]) (.seq (.seq (.ops [scriptinglaw18_RegistryRoots_r4]) (.cond (.t 24) (.seq (.ops [scriptinglaw18_RegistryRoots_r5]) (.ret)) (.skip))) (.seq (.ops [scriptinglaw18_RegistryRoots_r6]) (.seq (.seq (.ops [scriptinglaw18_RegistryRoots_r7]) (.block 0 (.loop scriptinglaw18_RegistryRoots_l0))) (.seq (.ops [scriptinglaw18_RegistryRoots_r13]) (.seq (.seq (.ops [scriptinglaw18_RegistryRoots_r14]) (.block 2 (.loop scriptinglaw18_RegistryRoots_l1))) (.seq (.ops [scriptinglaw18_RegistryRoots_r19]) (.ret)))))))))
theorem scriptinglaw18_RegistryRoots_ok : compF Try.prog 8 = some (92, scriptinglaw18_RegistryRoots_c, [.t 2]) := by kernel_rfl

@[go_sem] def scriptinglaw18_RegistryNil_r0 : List AI := [
  ⟨(some 1), none, .box 90001 8 (.t 0)⟩,
  ⟨(some 2), none, .mov (.c (.bool false))⟩]
@[go_sem] def scriptinglaw18_RegistryNil_r1 : List AI := [
  ⟨(some 3), none, .mov (.c .nilp)⟩]
@[go_sem] def scriptinglaw18_RegistryNil_r2 : List AI := [
  ⟨(some 11), none, .mov (.t 3)⟩,
  ⟨(some 12), none, .faddr 3 (.t 1)⟩,
  ⟨(some 13), none, .load 5 true (.t 12)⟩,
  ⟨(some 14), none, .call 12 [(.t 11), (.t 13)]⟩,
  ⟨(some 10), none, .mov (.t 14)⟩,
  ⟨(some 15), none, .ext 0 (.t 10)⟩,
  ⟨(some 16), none, .ext 1 (.t 10)⟩,
  ⟨(some 4), none, .mov (.t 15)⟩,
  ⟨(some 5), none, .mov (.t 16)⟩]
@[go_sem] def scriptinglaw18_RegistryNil_r3 : List AI := [
  ⟨(some 18), none, .mov (.t 3)⟩,
  ⟨(some 19), none, .faddr 1 (.t 1)⟩,
  ⟨(some 20), none, .load 1 false (.t 19)⟩,
  ⟨(some 21), none, .call 20 [(.t 18), (.t 20)]⟩,
  ⟨(some 17), none, .mov (.t 21)⟩,
  ⟨(some 22), none, .ext 0 (.t 17)⟩,
  ⟨(some 23), none, .ext 1 (.t 17)⟩,
  ⟨(some 6), none, .box 90006 5 (.c (.agg [(.int .i64 0), (.int .i64 0), (.int .i64 0), (.str []), (.int .i64 0)]))⟩,
  ⟨none, none, .store 5 (.t 6) (.t 22)⟩,
  ⟨(some 7), none, .mov (.t 23)⟩]
@[go_sem] def scriptinglaw18_RegistryNil_r4 : List AI := [
  ⟨(some 25), none, .mov (.t 3)⟩,
  ⟨(some 26), none, .faddr 2 (.t 1)⟩,
  ⟨(some 27), none, .load 1 false (.t 26)⟩,
  ⟨(some 28), none, .call 21 [(.t 25), (.t 27)]⟩,
  ⟨(some 24), none, .mov (.t 28)⟩,
  ⟨(some 29), none, .ext 0 (.t 24)⟩,
  ⟨(some 30), none, .ext 1 (.t 24)⟩,
  ⟨(some 8), none, .box 90008 5 (.c (.agg [(.int .i64 0), (.int .i64 0), (.int .i64 0), (.str []), (.int .i64 0)]))⟩,
  ⟨none, none, .store 5 (.t 8) (.t 29)⟩,
  ⟨(some 9), none, .mov (.t 30)⟩]
@[go_sem] def scriptinglaw18_RegistryNil_r5 : List AI := [
  ⟨(some 31), none, .mov (.t 4)⟩,
  ⟨(some 32), none, .bin .eql (.t 31) (.c (.int .i64 0))⟩,
  ⟨(some 33), none, .mov (.t 32)⟩,
  ⟨(some 34), (some (33, true)), .mov (.t 5)⟩,
  ⟨(some 35), (some (33, true)), .bin .eql (.t 34) (.c (.int .i64 1))⟩,
  ⟨(some 36), none, .pick (.t 33) (.t 35) (.c (.bool false))⟩,
  ⟨(some 37), none, .mov (.t 36)⟩,
  ⟨(some 38), (some (37, true)), .load 5 true (.t 6)⟩,
  ⟨(some 39), (some (37, true)), .build [(.int .i64 0), (.int .i64 0), (.int .i64 0), (.str []), (.int .i64 0)] []⟩,
  ⟨(some 40), (some (37, true)), .eqa false (.agg [(0, 1, (.leaf 1)), (1, 2, (.agg [(0, 1, (.leaf 1)), (1, 1, (.leaf 1))])), (3, 1, (.leaf 2)), (4, 1, (.leaf 1))]) (.t 38) (.t 39)⟩,
  ⟨(some 41), none, .pick (.t 37) (.t 40) (.c (.bool false))⟩,
  ⟨(some 42), none, .mov (.t 41)⟩,
  ⟨(some 43), (some (42, true)), .mov (.t 7)⟩,
  ⟨(some 44), (some (42, true)), .bin .eql (.t 43) (.c (.int .i64 1))⟩,
  ⟨(some 45), none, .pick (.t 42) (.t 44) (.c (.bool false))⟩,
  ⟨(some 46), none, .mov (.t 45)⟩,
  ⟨(some 47), (some (46, true)), .load 5 true (.t 8)⟩,
  ⟨(some 48), (some (46, true)), .build [(.int .i64 0), (.int .i64 0), (.int .i64 0), (.str []), (.int .i64 0)] []⟩,
  ⟨(some 49), (some (46, true)), .eqa false (.agg [(0, 1, (.leaf 1)), (1, 2, (.agg [(0, 1, (.leaf 1)), (1, 1, (.leaf 1))])), (3, 1, (.leaf 2)), (4, 1, (.leaf 1))]) (.t 47) (.t 48)⟩,
  ⟨(some 50), none, .pick (.t 46) (.t 49) (.c (.bool false))⟩,
  ⟨(some 51), none, .mov (.t 50)⟩,
  ⟨(some 52), (some (51, true)), .mov (.t 9)⟩,
  ⟨(some 53), (some (51, true)), .un .not (.t 52)⟩,
  ⟨(some 54), none, .pick (.t 51) (.t 53) (.c (.bool false))⟩,
  ⟨(some 55), none, .mov (.t 54)⟩,
  ⟨(some 56), (some (55, true)), .mov (.t 3)⟩,
  ⟨(some 57), (some (55, true)), .faddr 1 (.t 1)⟩,
  ⟨(some 58), (some (55, true)), .load 1 false (.t 57)⟩,
  ⟨(some 59), (some (55, true)), .call 13 [(.t 56), (.t 58)]⟩,
  ⟨(some 60), (some (55, true)), .bin .eql (.t 59) (.c (.int .i64 1))⟩,
  ⟨(some 61), none, .pick (.t 55) (.t 60) (.c (.bool false))⟩,
  ⟨(some 62), none, .mov (.t 61)⟩,
  ⟨(some 63), (some (62, true)), .mov (.t 3)⟩,
  ⟨(some 64), (some (62, true)), .faddr 2 (.t 1)⟩,
  ⟨(some 65), (some (62, true)), .load 1 false (.t 64)⟩,
  ⟨(some 66), (some (62, true)), .faddr 3 (.t 1)⟩,
  ⟨(some 67), (some (62, true)), .load 5 true (.t 66)⟩,
  ⟨(some 68), (some (62, true)), .call 22 [(.t 63), (.t 65), (.t 67)]⟩,
  ⟨(some 69), (some (62, true)), .bin .eql (.t 68) (.c (.int .i64 1))⟩,
  ⟨(some 70), none, .pick (.t 62) (.t 69) (.c (.bool false))⟩,
  ⟨(some 71), none, .mov (.t 70)⟩,
  ⟨(some 72), (some (71, true)), .mov (.t 3)⟩,
  ⟨(some 73), (some (71, true)), .call 14 [(.t 72)]⟩,
  ⟨(some 74), (some (71, true)), .bin .eql (.t 73) (.c (.int .i64 0))⟩,
  ⟨(some 75), none, .pick (.t 71) (.t 74) (.c (.bool false))⟩,
  ⟨(some 76), none, .mov (.t 75)⟩,
  ⟨(some 77), (some (76, true)), .mov (.t 3)⟩,
  ⟨(some 78), (some (76, true)), .call 26 [(.t 77)]⟩,
  ⟨(some 79), (some (76, true)), .len 0 (.t 78)⟩,
  ⟨(some 80), (some (76, true)), .bin .eql (.t 79) (.c (.int .i64 0))⟩,
  ⟨(some 81), none, .pick (.t 76) (.t 80) (.c (.bool false))⟩,
  ⟨(some 82), none, .mov (.t 81)⟩,
  ⟨(some 83), (some (82, true)), .call 11 []⟩,
  ⟨(some 84), none, .pick (.t 82) (.t 83) (.c (.bool false))⟩,
  ⟨(some 2), none, .mov (.t 84)⟩]
@[go_sem] def scriptinglaw18_RegistryNil_c : AC := .seq (.ops [scriptinglaw18_RegistryNil_r0]) (.seq (.ops [scriptinglaw18_RegistryNil_r1]) (.seq (.ops [scriptinglaw18_RegistryNil_r2]) (.seq (.ops [scriptinglaw18_RegistryNil_r3]) (.seq (.ops [scriptinglaw18_RegistryNil_r4]) (.seq (.ops [scriptinglaw18_RegistryNil_r5]) (.ret))))))
theorem scriptinglaw18_RegistryNil_ok : compF Try.prog 9 = some (85, scriptinglaw18_RegistryNil_c, [.t 2]) := by kernel_rfl

@[go_sem] def registry_New_r0 : List AI := [
  ⟨(some 0), none, .mov (.c .nilp)⟩]
@[go_sem] def registry_New_r1 : List AI := [
  ⟨(some 1), none, .mkmap 100001⟩,
  ⟨(some 2), none, .build [.nils, .nils, .nilm] [(2, 1, (.t 1))]⟩,
  ⟨(some 3), none, .box 100003 3 (.t 2)⟩,
  ⟨(some 0), none, .mov (.t 3)⟩]
@[go_sem] def registry_New_c : AC := .seq (.ops [registry_New_r0]) (.seq (.ops [registry_New_r1]) (.ret))
theorem registry_New_ok : compF Try.prog 10 = some (4, registry_New_c, [.t 0]) := by kernel_rfl

@[go_sem] def scriptinglaw18_lives_r0 : List AI := [
  ⟨(some 0), none, .mov (.c (.bool false))⟩]
@[go_sem] def scriptinglaw18_lives_r1 : List AI := [
  ⟨(some 13), none, .call 10 []⟩,
  ⟨(some 1), none, .mov (.t 13)⟩]
@[go_sem] def scriptinglaw18_lives_r2 : List AI := [
  ⟨(some 14), none, .mov (.t 1)⟩,
  ⟨(some 15), none, .eqp 0 false (.t 14) (.c .nilp)⟩]
@[go_sem] def scriptinglaw18_lives_r3 : List AI := [
  ⟨(some 0), none, .mov (.c (.bool false))⟩]
@[go_sem] def scriptinglaw18_lives_r4 : List AI := [
  ⟨(some 16), none, .build [(.int .i64 0), (.int .i64 0), (.int .i64 0), (.str []), (.int .i64 0)] [(0, 1, (.c (.int .i64 4))), (4, 1, (.c (.int .i64 7)))]⟩,
  ⟨(some 2), none, .box 110002 5 (.c (.agg [(.int .i64 0), (.int .i64 0), (.int .i64 0), (.str []), (.int .i64 0)]))⟩,
  ⟨none, none, .store 5 (.t 2) (.t 16)⟩]
@[go_sem] def scriptinglaw18_lives_r5 : List AI := [
  ⟨(some 18), none, .mov (.t 1)⟩,
  ⟨(some 19), none, .load 5 true (.t 2)⟩,
  ⟨(some 20), none, .call 12 [(.t 18), (.t 19)]⟩,
  ⟨(some 17), none, .mov (.t 20)⟩,
  ⟨(some 21), none, .ext 0 (.t 17)⟩,
  ⟨(some 22), none, .ext 1 (.t 17)⟩,
  ⟨(some 3), none, .mov (.t 21)⟩,
  ⟨(some 4), none, .mov (.t 22)⟩]
@[go_sem] def scriptinglaw18_lives_r6 : List AI := [
  ⟨(some 24), none, .mov (.t 1)⟩,
  ⟨(some 25), none, .load 5 true (.t 2)⟩,
  ⟨(some 26), none, .call 12 [(.t 24), (.t 25)]⟩,
  ⟨(some 23), none, .mov (.t 26)⟩,
  ⟨(some 27), none, .ext 0 (.t 23)⟩,
  ⟨(some 28), none, .ext 1 (.t 23)⟩,
  ⟨(some 5), none, .mov (.t 27)⟩,
  ⟨(some 6), none, .mov (.t 28)⟩]
@[go_sem] def scriptinglaw18_lives_r7 : List AI := [
  ⟨(some 30), none, .mov (.t 1)⟩,
  ⟨(some 31), none, .load 5 true (.t 2)⟩,
  ⟨(some 32), none, .call 12 [(.t 30), (.t 31)]⟩,
  ⟨(some 29), none, .mov (.t 32)⟩,
  ⟨(some 33), none, .ext 0 (.t 29)⟩,
  ⟨(some 34), none, .ext 1 (.t 29)⟩,
  ⟨(some 7), none, .mov (.t 33)⟩,
  ⟨(some 8), none, .mov (.t 34)⟩]
@[go_sem] def scriptinglaw18_lives_r8 : List AI := [
  ⟨(some 35), none, .mov (.t 3)⟩,
  ⟨(some 36), none, .bin .neq (.t 35) (.c (.int .i64 1))⟩,
  ⟨(some 37), none, .mov (.t 36)⟩,
  ⟨(some 38), (some (37, false)), .mov (.t 5)⟩,
  ⟨(some 39), (some (37, false)), .bin .neq (.t 38) (.c (.int .i64 2))⟩,
  ⟨(some 40), none, .pick (.t 37) (.c (.bool true)) (.t 39)⟩,
  ⟨(some 41), none, .mov (.t 40)⟩,
  ⟨(some 42), (some (41, false)), .mov (.t 7)⟩,
  ⟨(some 43), (some (41, false)), .bin .neq (.t 42) (.c (.int .i64 3))⟩,
  ⟨(some 44), none, .pick (.t 41) (.c (.bool true)) (.t 43)⟩,
  ⟨(some 45), none, .mov (.t 44)⟩,
  ⟨(some 46), (some (45, false)), .mov (.t 1)⟩,
  ⟨(some 47), (some (45, false)), .call 13 [(.t 46), (.c (.int .i64 1))]⟩,
  ⟨(some 48), (some (45, false)), .bin .neq (.t 47) (.c (.int .i64 0))⟩,
  ⟨(some 49), none, .pick (.t 45) (.c (.bool true)) (.t 48)⟩,
  ⟨(some 50), none, .mov (.t 49)⟩,
  ⟨(some 51), (some (50, false)), .mov (.t 1)⟩,
  ⟨(some 52), (some (50, false)), .call 13 [(.t 51), (.c (.int .i64 2))]⟩,
  ⟨(some 53), (some (50, false)), .bin .neq (.t 52) (.c (.int .i64 0))⟩,
  ⟨(some 54), none, .pick (.t 50) (.c (.bool true)) (.t 53)⟩]
@[go_sem] def scriptinglaw18_lives_r9 : List AI := [
  ⟨(some 0), none, .mov (.c (.bool false))⟩]
@[go_sem] def scriptinglaw18_lives_r10 : List AI := [
  ⟨(some 56), none, .mov (.t 1)⟩,
  ⟨(some 57), none, .load 5 true (.t 2)⟩,
  ⟨(some 58), none, .call 12 [(.t 56), (.t 57)]⟩,
  ⟨(some 55), none, .mov (.t 58)⟩,
  ⟨(some 59), none, .ext 0 (.t 55)⟩,
  ⟨(some 60), none, .ext 1 (.t 55)⟩,
  ⟨(some 9), none, .mov (.t 59)⟩,
  ⟨(some 10), none, .mov (.t 60)⟩]
@[go_sem] def scriptinglaw18_lives_r11 : List AI := [
  ⟨(some 62), none, .mov (.t 1)⟩,
  ⟨(some 63), none, .load 5 true (.t 2)⟩,
  ⟨(some 64), none, .call 12 [(.t 62), (.t 63)]⟩,
  ⟨(some 61), none, .mov (.t 64)⟩,
  ⟨(some 65), none, .ext 0 (.t 61)⟩,
  ⟨(some 66), none, .ext 1 (.t 61)⟩,
  ⟨(some 11), none, .mov (.t 65)⟩,
  ⟨(some 12), none, .mov (.t 66)⟩]
@[go_sem] def scriptinglaw18_lives_r12 : List AI := [
  ⟨(some 67), none, .mov (.t 9)⟩,
  ⟨(some 68), none, .bin .eql (.t 67) (.c (.int .i64 2))⟩,
  ⟨(some 69), none, .mov (.t 68)⟩,
  ⟨(some 70), (some (69, true)), .mov (.t 11)⟩,
  ⟨(some 71), (some (69, true)), .bin .eql (.t 70) (.c (.int .i64 1))⟩,
  ⟨(some 72), none, .pick (.t 69) (.t 71) (.c (.bool false))⟩,
  ⟨(some 73), none, .mov (.t 72)⟩,
  ⟨(some 74), (some (73, true)), .mov (.t 1)⟩,
  ⟨(some 75), (some (73, true)), .call 14 [(.t 74)]⟩,
  ⟨(some 76), (some (73, true)), .bin .eql (.t 75) (.c (.int .i64 3))⟩,
  ⟨(some 77), none, .pick (.t 73) (.t 76) (.c (.bool false))⟩,
  ⟨(some 0), none, .mov (.t 77)⟩]
@[go_sem] def scriptinglaw18_lives_c : AC := .seq (.ops [scriptinglaw18_lives_r0]) (.seq (.ops [scriptinglaw18_lives_r1]) (.seq (.seq (.ops [scriptinglaw18_lives_r2]) (.cond (.t 15) (.seq (.ops [scriptinglaw18_lives_r3]) (.ret)) (.skip))) (.seq (.ops [scriptinglaw18_lives_r4]) (.seq (.ops [scriptinglaw18_lives_r5]) (.seq (.ops [scriptinglaw18_lives_r6]) (.seq (.ops [scriptinglaw18_lives_r7]) (.seq (.seq (.ops [scriptinglaw18_lives_r8]) (.cond (.t 54) (.seq (.ops [scriptinglaw18_lives_r9]) (.ret)) (.skip))) (.seq (.ops [scriptinglaw18_lives_r10]) (.seq (.ops [scriptinglaw18_lives_r11]) (.seq (.ops [scriptinglaw18_lives_r12]) (.ret)))))))))))
theorem scriptinglaw18_lives_ok : compF Try.prog 11 = some (78, scriptinglaw18_lives_c, [.t 0]) := by kernel_rfl

@[go_sem] def registry_Registry_Ref_r0 : List AI := [
  ⟨(some 3), none, .box 120003 5 (.t 1)⟩,
  ⟨(some 4), none, .mov (.c (.int .i64 0))⟩,
  ⟨(some 5), none, .mov (.c (.int .i64 0))⟩]
@[go_sem] def registry_Registry_Ref_r1 : List AI := [
  ⟨(some 10), none, .mov (.t 0)⟩,
  ⟨(some 11), none, .eqp 0 false (.t 10) (.c .nilp)⟩,
  ⟨(some 9), none, .mov (.t 11)⟩]
@[go_sem] def registry_Registry_Ref_r2 : List AI := [
  ⟨(some 4), none, .mov (.c (.int .i64 0))⟩,
  ⟨(some 5), none, .mov (.c (.int .i64 1))⟩]
@[go_sem] def registry_Registry_Ref_r3 : List AI := [
  ⟨(some 13), none, .load 5 true (.t 3)⟩,
  ⟨(some 14), none, .call 28 [(.t 13)]⟩,
  ⟨(some 15), none, .un .not (.t 14)⟩,
  ⟨(some 12), none, .mov (.t 15)⟩]
@[go_sem] def registry_Registry_Ref_r4 : List AI := [
  ⟨(some 4), none, .mov (.c (.int .i64 0))⟩,
  ⟨(some 5), none, .mov (.c (.int .i64 2))⟩]
@[go_sem] def registry_Registry_Ref_r5 : List AI := [
  ⟨(some 17), none, .faddr 0 (.t 3)⟩,
  ⟨(some 18), none, .load 1 false (.t 17)⟩,
  ⟨(some 19), none, .bin .eql (.t 18) (.c (.int .i64 0))⟩,
  ⟨(some 16), none, .mov (.t 19)⟩]
@[go_sem] def registry_Registry_Ref_r6 : List AI := [
  ⟨(some 4), none, .mov (.c (.int .i64 0))⟩,
  ⟨(some 5), none, .mov (.c (.int .i64 0))⟩]
@[go_sem] def registry_Registry_Ref_r7 : List AI := [
  ⟨(some 21), none, .mov (.t 0)⟩,
  ⟨(some 22), none, .nilck (.t 21)⟩,
  ⟨(some 23), none, .faddr 0 (.t 22)⟩,
  ⟨(some 24), none, .load 1 false (.t 23)⟩,
  ⟨(some 25), none, .len 0 (.t 24)⟩,
  ⟨(some 26), none, .mov (.t 0)⟩,
  ⟨(some 27), none, .nilck (.t 26)⟩,
  ⟨(some 28), none, .faddr 1 (.t 27)⟩,
  ⟨(some 29), none, .load 1 false (.t 28)⟩,
  ⟨(some 30), none, .len 0 (.t 29)⟩,
  ⟨(some 31), none, .bin .sub (.t 25) (.t 30)⟩,
  ⟨(some 32), none, .bin .eql (.t 31) (.c (.int .i64 1000))⟩,
  ⟨(some 20), none, .mov (.t 32)⟩]
@[go_sem] def registry_Registry_Ref_r8 : List AI := [
  ⟨(some 4), none, .mov (.c (.int .i64 0))⟩,
  ⟨(some 5), none, .mov (.c (.int .i64 17))⟩]
@[go_sem] def registry_Registry_Ref_r9 : List AI := [
  ⟨(some 34), none, .mov (.t 0)⟩,
  ⟨(some 35), none, .nilck (.t 34)⟩,
  ⟨(some 36), none, .faddr 1 (.t 35)⟩,
  ⟨(some 37), none, .load 1 false (.t 36)⟩,
  ⟨(some 38), none, .len 0 (.t 37)⟩,
  ⟨(some 39), none, .bin .eql (.t 38) (.c (.int .i64 0))⟩,
  ⟨(some 33), none, .mov (.t 39)⟩]
@[go_sem] def registry_Registry_Ref_r10 : List AI := [
  ⟨(some 40), none, .mov (.t 0)⟩,
  ⟨(some 41), none, .mov (.t 0)⟩,
  ⟨(some 42), none, .nilck (.t 41)⟩,
  ⟨(some 43), none, .faddr 0 (.t 42)⟩,
  ⟨(some 44), none, .load 1 false (.t 43)⟩,
  ⟨(some 45), none, .load 5 true (.t 3)⟩,
  ⟨(some 46), none, .mkisl 5 [(.t 45)]⟩,
  ⟨(some 47), none, .app 120047 5 (.t 44) (.t 46)⟩,
  ⟨(some 48), none, .nilck (.t 40)⟩,
  ⟨(some 49), none, .faddr 0 (.t 48)⟩,
  ⟨none, none, .store 1 (.t 49) (.t 47)⟩]
@[go_sem] def registry_Registry_Ref_r11 : List AI := [
  ⟨(some 50), none, .mov (.t 0)⟩,
  ⟨(some 51), none, .nilck (.t 50)⟩,
  ⟨(some 52), none, .faddr 0 (.t 51)⟩,
  ⟨(some 53), none, .load 1 false (.t 52)⟩,
  ⟨(some 54), none, .len 0 (.t 53)⟩,
  ⟨(some 4), none, .mov (.t 54)⟩,
  ⟨(some 5), none, .mov (.c (.int .i64 0))⟩]
@[go_sem] def registry_Registry_Ref_r12 : List AI := [
  ⟨(some 55), none, .mov (.t 0)⟩,
  ⟨(some 56), none, .nilck (.t 55)⟩,
  ⟨(some 57), none, .faddr 1 (.t 56)⟩,
  ⟨(some 58), none, .load 1 false (.t 57)⟩,
  ⟨(some 59), none, .len 0 (.t 58)⟩,
  ⟨(some 60), none, .bin .sub (.t 59) (.c (.int .i64 1))⟩,
  ⟨(some 6), none, .mov (.t 60)⟩]
@[go_sem] def registry_Registry_Ref_r13 : List AI := [
  ⟨(some 61), none, .mov (.t 0)⟩,
  ⟨(some 62), none, .nilck (.t 61)⟩,
  ⟨(some 63), none, .faddr 1 (.t 62)⟩,
  ⟨(some 64), none, .load 1 false (.t 63)⟩,
  ⟨(some 65), none, .mov (.t 6)⟩,
  ⟨(some 66), none, .iaddr 1 (.t 64) (.t 65)⟩,
  ⟨(some 67), none, .load 1 false (.t 66)⟩,
  ⟨(some 7), none, .mov (.t 67)⟩]
@[go_sem] def registry_Registry_Ref_r14 : List AI := [
  ⟨(some 68), none, .mov (.t 6)⟩,
  ⟨(some 69), none, .mksl 120069 [(.int .i64 0)] (.t 68)⟩,
  ⟨(some 8), none, .mov (.t 69)⟩]
@[go_sem] def registry_Registry_Ref_r15 : List AI := [
  ⟨(some 70), none, .mov (.t 8)⟩,
  ⟨(some 71), none, .mov (.t 0)⟩,
  ⟨(some 72), none, .nilck (.t 71)⟩,
  ⟨(some 73), none, .faddr 1 (.t 72)⟩,
  ⟨(some 74), none, .load 1 false (.t 73)⟩,
  ⟨(some 75), none, .copy 1 (.t 70) (.t 74)⟩]
@[go_sem] def registry_Registry_Ref_r16 : List AI := [
  ⟨(some 76), none, .mov (.t 0)⟩,
  ⟨(some 77), none, .mov (.t 8)⟩,
  ⟨(some 78), none, .nilck (.t 76)⟩,
  ⟨(some 79), none, .faddr 1 (.t 78)⟩,
  ⟨none, none, .store 1 (.t 79) (.t 77)⟩]
@[go_sem] def registry_Registry_Ref_r17 : List AI := [
  ⟨(some 80), none, .mov (.t 0)⟩,
  ⟨(some 81), none, .nilck (.t 80)⟩,
  ⟨(some 82), none, .faddr 0 (.t 81)⟩,
  ⟨(some 83), none, .load 1 false (.t 82)⟩,
  ⟨(some 84), none, .mov (.t 7)⟩,
  ⟨(some 85), none, .bin .sub (.t 84) (.c (.int .i64 1))⟩,
  ⟨(some 86), none, .load 5 true (.t 3)⟩,
  ⟨(some 87), none, .iaddr 5 (.t 83) (.t 85)⟩,
  ⟨none, none, .store 5 (.t 87) (.t 86)⟩]
@[go_sem] def registry_Registry_Ref_r18 : List AI := [
  ⟨(some 88), none, .mov (.t 7)⟩,
  ⟨(some 4), none, .mov (.t 88)⟩,
  ⟨(some 5), none, .mov (.c (.int .i64 0))⟩]
@[go_sem] def registry_Registry_Ref_c : AC := .seq (.ops [registry_Registry_Ref_r0]) (.seq (.block 0 (.seq (.ops [registry_Registry_Ref_r1]) (.cond (.t 9) (.seq (.ops [registry_Registry_Ref_r2]) (.ret)) (.seq (.ops [registry_Registry_Ref_r3]) (.cond (.t 12) (.seq (.ops [registry_Registry_Ref_r4]) (.ret)) (.seq (.ops [registry_Registry_Ref_r5]) (.cond (.t 16) (.seq (.ops [registry_Registry_Ref_r6]) (.ret)) (.seq (.ops [registry_Registry_Ref_r7]) (.cond (.t 20) (.seq (.ops [registry_Registry_Ref_r8]) (.ret)) (.seq (.ops [registry_Registry_Ref_r9]) (.cond (.t 33) (.seq (.ops [registry_Registry_Ref_r10]) (.seq (.ops [registry_Registry_Ref_r11]) (.ret))) (.skip)))))))))))) (.seq (.ops [registry_Registry_Ref_r12]) (.seq (.ops [registry_Registry_Ref_r13]) (.seq (.ops [registry_Registry_Ref_r14]) (.seq (.ops [registry_Registry_Ref_r15]) (.seq (.ops [registry_Registry_Ref_r16]) (.seq (.ops [registry_Registry_Ref_r17]) (.seq (.ops [registry_Registry_Ref_r18]) (.ret)))))))))
theorem registry_Registry_Ref_ok : compF Try.prog 12 = some (89, registry_Registry_Ref_c, [.t 4, .t 5]) := by kernel_rfl

@[go_sem] def registry_Registry_Unref_r0 : List AI := [
  ⟨(some 4), none, .mov (.c (.int .i64 0))⟩]
@[go_sem] def registry_Registry_Unref_r1 : List AI := [
  ⟨(some 6), none, .mov (.t 0)⟩,
  ⟨(some 7), none, .eqp 0 false (.t 6) (.c .nilp)⟩,
  ⟨(some 5), none, .mov (.t 7)⟩]
@[go_sem] def registry_Registry_Unref_r2 : List AI := [
  ⟨(some 4), none, .mov (.c (.int .i64 1))⟩]
@[go_sem] def registry_Registry_Unref_r3 : List AI := [
  ⟨(some 9), none, .mov (.t 1)⟩,
  ⟨(some 10), none, .bin .eql (.t 9) (.c (.int .i64 0))⟩,
  ⟨(some 8), none, .mov (.t 10)⟩]
@[go_sem] def registry_Registry_Unref_r4 : List AI := [
  ⟨(some 4), none, .mov (.c (.int .i64 0))⟩]
@[go_sem] def registry_Registry_Unref_r5 : List AI := [
  ⟨(some 12), none, .mov (.t 0)⟩,
  ⟨(some 13), none, .mov (.t 1)⟩,
  ⟨(some 14), none, .call 29 [(.t 12), (.t 13)]⟩,
  ⟨(some 15), none, .un .not (.t 14)⟩,
  ⟨(some 11), none, .mov (.t 15)⟩]
@[go_sem] def registry_Registry_Unref_r6 : List AI := [
  ⟨(some 4), none, .mov (.c (.int .i64 6))⟩]
@[go_sem] def registry_Registry_Unref_r7 : List AI := [
  ⟨(some 16), none, .mov (.t 0)⟩,
  ⟨(some 17), none, .nilck (.t 16)⟩,
  ⟨(some 18), none, .faddr 0 (.t 17)⟩,
  ⟨(some 19), none, .load 1 false (.t 18)⟩,
  ⟨(some 20), none, .mov (.t 1)⟩,
  ⟨(some 21), none, .bin .sub (.t 20) (.c (.int .i64 1))⟩,
  ⟨(some 22), none, .build [(.int .i64 0), (.int .i64 0), (.int .i64 0), (.str []), (.int .i64 0)] []⟩,
  ⟨(some 23), none, .iaddr 5 (.t 19) (.t 21)⟩,
  ⟨none, none, .store 5 (.t 23) (.t 22)⟩]
@[go_sem] def registry_Registry_Unref_r8 : List AI := [
  ⟨(some 24), none, .mov (.t 0)⟩,
  ⟨(some 25), none, .mov (.t 0)⟩,
  ⟨(some 26), none, .nilck (.t 25)⟩,
  ⟨(some 27), none, .faddr 1 (.t 26)⟩,
  ⟨(some 28), none, .load 1 false (.t 27)⟩,
  ⟨(some 29), none, .mov (.t 1)⟩,
  ⟨(some 30), none, .mkisl 1 [(.t 29)]⟩,
  ⟨(some 31), none, .app 130031 1 (.t 28) (.t 30)⟩,
  ⟨(some 32), none, .nilck (.t 24)⟩,
  ⟨(some 33), none, .faddr 1 (.t 32)⟩,
  ⟨none, none, .store 1 (.t 33) (.t 31)⟩]
@[go_sem] def registry_Registry_Unref_r9 : List AI := [
  ⟨(some 4), none, .mov (.c (.int .i64 0))⟩]
@[go_sem] def registry_Registry_Unref_c : AC := .seq (.ops [registry_Registry_Unref_r0]) (.seq (.block 0 (.seq (.ops [registry_Registry_Unref_r1]) (.cond (.t 5) (.seq (.ops [registry_Registry_Unref_r2]) (.ret)) (.seq (.ops [registry_Registry_Unref_r3]) (.cond (.t 8) (.seq (.ops [registry_Registry_Unref_r4]) (.ret)) (.seq (.ops [registry_Registry_Unref_r5]) (.cond (.t 11) (.seq (.ops [registry_Registry_Unref_r6]) (.ret)) (.skip)))))))) (.seq (.ops [registry_Registry_Unref_r7]) (.seq (.ops [registry_Registry_Unref_r8]) (.seq (.ops [registry_Registry_Unref_r9]) (.ret)))))
theorem registry_Registry_Unref_ok : compF Try.prog 13 = some (34, registry_Registry_Unref_c, [.t 4]) := by kernel_rfl

@[go_sem] def registry_Registry_Len_r0 : List AI := [
  ⟨(some 2), none, .mov (.c (.int .i64 0))⟩]
@[go_sem] def registry_Registry_Len_r1 : List AI := [
  ⟨(some 3), none, .mov (.t 0)⟩,
  ⟨(some 4), none, .eqp 0 false (.t 3) (.c .nilp)⟩]
@[go_sem] def registry_Registry_Len_r2 : List AI := [
  ⟨(some 2), none, .mov (.c (.int .i64 0))⟩]
@[go_sem] def registry_Registry_Len_r3 : List AI := [
  ⟨(some 5), none, .mov (.t 0)⟩,
  ⟨(some 6), none, .nilck (.t 5)⟩,
  ⟨(some 7), none, .faddr 0 (.t 6)⟩,
  ⟨(some 8), none, .load 1 false (.t 7)⟩,
  ⟨(some 9), none, .len 0 (.t 8)⟩,
  ⟨(some 10), none, .mov (.t 0)⟩,
  ⟨(some 11), none, .nilck (.t 10)⟩,
  ⟨(some 12), none, .faddr 1 (.t 11)⟩,
  ⟨(some 13), none, .load 1 false (.t 12)⟩,
  ⟨(some 14), none, .len 0 (.t 13)⟩,
  ⟨(some 15), none, .bin .sub (.t 9) (.t 14)⟩,
  ⟨(some 16), none, .mov (.t 0)⟩,
  ⟨(some 17), none, .nilck (.t 16)⟩,
  ⟨(some 18), none, .faddr 2 (.t 17)⟩,
  ⟨(some 19), none, .load 1 false (.t 18)⟩,
  ⟨(some 20), none, .len 2 (.t 19)⟩,
  ⟨(some 21), none, .bin .add (.t 15) (.t 20)⟩,
  ⟨(some 2), none, .mov (.t 21)⟩]
@[go_sem] def registry_Registry_Len_c : AC := .seq (.ops [registry_Registry_Len_r0]) (.seq (.seq (.ops [registry_Registry_Len_r1]) (.cond (.t 4) (.seq (.ops [registry_Registry_Len_r2]) (.ret)) (.skip))) (.seq (.ops [registry_Registry_Len_r3]) (.ret)))
theorem registry_Registry_Len_ok : compF Try.prog 14 = some (22, registry_Registry_Len_c, [.t 2]) := by kernel_rfl

@[go_sem] def scriptinglaw18_large_r0 : List AI := [
  ⟨(some 2), none, .mov (.c (.bool false))⟩]
@[go_sem] def scriptinglaw18_large_r1 : List AI := [
  ⟨(some 4), none, .mov (.t 0)⟩,
  ⟨(some 5), none, .len 0 (.t 4)⟩,
  ⟨(some 6), none, .bin .gtr (.t 5) (.c (.int .i64 300))⟩]
@[go_sem] def scriptinglaw18_large_r2 : List AI := [
  ⟨(some 2), none, .mov (.c (.bool true))⟩]
@[go_sem] def scriptinglaw18_large_r3 : List AI := [
  ⟨(some 3), none, .mov (.c (.int .i64 0))⟩]
@[go_sem] def scriptinglaw18_large_r4 : List AI := [
  ⟨(some 7), none, .mov (.t 3)⟩,
  ⟨(some 8), none, .mov (.t 0)⟩,
  ⟨(some 9), none, .len 0 (.t 8)⟩,
  ⟨(some 10), none, .bin .lss (.t 7) (.t 9)⟩]
@[go_sem] def scriptinglaw18_large_r5 : List AI := [
  ⟨(some 13), none, .mov (.t 0)⟩,
  ⟨(some 14), none, .mov (.t 3)⟩,
  ⟨(some 15), none, .iaddr 8 (.t 13) (.t 14)⟩,
  ⟨(some 16), none, .faddr 2 (.t 15)⟩,
  ⟨(some 17), none, .load 1 false (.t 16)⟩,
  ⟨(some 18), none, .len 1 (.t 17)⟩,
  ⟨(some 19), none, .bin .gtr (.t 18) (.c (.int .i64 5000))⟩]
@[go_sem] def scriptinglaw18_large_r6 : List AI := [
  ⟨(some 2), none, .mov (.c (.bool true))⟩]
@[go_sem] def scriptinglaw18_large_r7 : List AI := [
  ⟨(some 11), none, .mov (.t 3)⟩,
  ⟨(some 12), none, .bin .add (.t 11) (.c (.int .i64 1))⟩,
  ⟨(some 3), none, .mov (.t 12)⟩]
def scriptinglaw18_large_l0 : AC := .seq (.seq (.ops [scriptinglaw18_large_r4]) (.cond (.t 10) (.skip) (.exit 0))) (.seq (.block 1 (.seq (.ops [scriptinglaw18_large_r5]) (.cond (.t 19) (.seq (.ops [scriptinglaw18_large_r6]) (.ret)) (.skip)))) (.ops [scriptinglaw18_large_r7]))
theorem scriptinglaw18_large_l0_eq : scriptinglaw18_large_l0 = .seq (.seq (.ops [scriptinglaw18_large_r4]) (.cond (.t 10) (.skip) (.exit 0))) (.seq (.block 1 (.seq (.ops [scriptinglaw18_large_r5]) (.cond (.t 19) (.seq (.ops [scriptinglaw18_large_r6]) (.ret)) (.skip)))) (.ops [scriptinglaw18_large_r7])) := rfl
@[go_sem] def scriptinglaw18_large_r8 : List AI := [
  ⟨(some 2), none, .mov (.c (.bool false))⟩]
@[go_sem] def scriptinglaw18_large_c : AC := .seq (.ops [scriptinglaw18_large_r0]) (.seq (.seq (.ops [scriptinglaw18_large_r1]) (.cond (.t 6) (.seq (.ops [scriptinglaw18_large_r2]) (.ret)) (.skip))) (.seq (.seq (.ops [scriptinglaw18_large_r3]) (.block 0 (.loop scriptinglaw18_large_l0))) (.seq (.ops [scriptinglaw18_large_r8]) (.ret))))
theorem scriptinglaw18_large_ok : compF Try.prog 15 = some (20, scriptinglaw18_large_c, [.t 2]) := by kernel_rfl

@[go_sem] def scriptinglaw18_made_r0 : List AI := [
  ⟨(some 2), none, .mov (.c .nilp)⟩,
  ⟨(some 3), none, .mov (.c .nilp)⟩,
  ⟨(some 4), none, .mov (.c (.bool false))⟩]
@[go_sem] def scriptinglaw18_made_r1 : List AI := [
  ⟨(some 8), none, .call 10 []⟩,
  ⟨(some 9), none, .call 19 []⟩,
  ⟨(some 5), none, .mov (.t 8)⟩,
  ⟨(some 6), none, .mov (.t 9)⟩]
@[go_sem] def scriptinglaw18_made_r2 : List AI := [
  ⟨(some 10), none, .mov (.t 5)⟩,
  ⟨(some 11), none, .eqp 0 false (.t 10) (.c .nilp)⟩]
@[go_sem] def scriptinglaw18_made_r3 : List AI := [
  ⟨(some 2), none, .mov (.c .nilp)⟩,
  ⟨(some 3), none, .mov (.c .nilp)⟩,
  ⟨(some 4), none, .mov (.c (.bool false))⟩]
@[go_sem] def scriptinglaw18_made_r4 : List AI := [
  ⟨(some 7), none, .mov (.c (.int .i64 0))⟩]
@[go_sem] def scriptinglaw18_made_r5 : List AI := [
  ⟨(some 12), none, .mov (.t 7)⟩,
  ⟨(some 13), none, .mov (.t 0)⟩,
  ⟨(some 14), none, .len 0 (.t 13)⟩,
  ⟨(some 15), none, .bin .lss (.t 12) (.t 14)⟩]
@[go_sem] def scriptinglaw18_made_r6 : List AI := [
  ⟨(some 18), none, .mov (.t 5)⟩,
  ⟨(some 19), none, .mov (.t 6)⟩,
  ⟨(some 20), none, .mov (.t 0)⟩,
  ⟨(some 21), none, .mov (.t 7)⟩,
  ⟨(some 22), none, .iaddr 8 (.t 20) (.t 21)⟩,
  ⟨(some 23), none, .load 8 true (.t 22)⟩,
  ⟨(some 24), none, .call 18 [(.t 18), (.t 19), (.t 23)]⟩,
  ⟨(some 25), none, .un .not (.t 24)⟩]
@[go_sem] def scriptinglaw18_made_r7 : List AI := [
  ⟨(some 2), none, .mov (.c .nilp)⟩,
  ⟨(some 3), none, .mov (.c .nilp)⟩,
  ⟨(some 4), none, .mov (.c (.bool false))⟩]
@[go_sem] def scriptinglaw18_made_r8 : List AI := [
  ⟨(some 16), none, .mov (.t 7)⟩,
  ⟨(some 17), none, .bin .add (.t 16) (.c (.int .i64 1))⟩,
  ⟨(some 7), none, .mov (.t 17)⟩]
def scriptinglaw18_made_l0 : AC := .seq (.seq (.ops [scriptinglaw18_made_r5]) (.cond (.t 15) (.skip) (.exit 0))) (.seq (.block 1 (.seq (.ops [scriptinglaw18_made_r6]) (.cond (.t 25) (.seq (.ops [scriptinglaw18_made_r7]) (.ret)) (.skip)))) (.ops [scriptinglaw18_made_r8]))
theorem scriptinglaw18_made_l0_eq : scriptinglaw18_made_l0 = .seq (.seq (.ops [scriptinglaw18_made_r5]) (.cond (.t 15) (.skip) (.exit 0))) (.seq (.block 1 (.seq (.ops [scriptinglaw18_made_r6]) (.cond (.t 25) (.seq (.ops [scriptinglaw18_made_r7]) (.ret)) (.skip)))) (.ops [scriptinglaw18_made_r8])) := rfl
@[go_sem] def scriptinglaw18_made_r9 : List AI := [
  ⟨(some 26), none, .mov (.t 5)⟩,
  ⟨(some 27), none, .mov (.t 6)⟩,
  ⟨(some 2), none, .mov (.t 26)⟩,
  ⟨(some 3), none, .mov (.t 27)⟩,
  ⟨(some 4), none, .mov (.c (.bool true))⟩]
@[go_sem] def scriptinglaw18_made_c : AC := .seq (.ops [scriptinglaw18_made_r0]) (.seq (.ops [scriptinglaw18_made_r1]) (.seq (.seq (.ops [scriptinglaw18_made_r2]) (.cond (.t 11) (.seq (.ops [scriptinglaw18_made_r3]) (.ret)) (.skip))) (.seq (.seq (.ops [scriptinglaw18_made_r4]) (.block 0 (.loop scriptinglaw18_made_l0))) (.seq (.ops [scriptinglaw18_made_r9]) (.ret)))))
theorem scriptinglaw18_made_ok : compF Try.prog 16 = some (28, scriptinglaw18_made_c, [.t 2, .t 3, .t 4]) := by kernel_rfl

@[go_sem] def scriptingref11_Valid_r0 : List AI := [
  ⟨(some 1), none, .box 170001 5 (.t 0)⟩,
  ⟨(some 2), none, .mov (.c (.bool false))⟩]
@[go_sem] def scriptingref11_Valid_r1 : List AI := [
  ⟨(some 3), none, .faddr 0 (.t 1)⟩,
  ⟨(some 4), none, .load 1 false (.t 3)⟩]
@[go_sem] def scriptingref11_Valid_r2 : List AI := [
  ⟨(some 6), none, .bin .eql (.t 4) (.c (.int .i64 0))⟩,
  ⟨(some 5), none, .mov (.t 6)⟩]
@[go_sem] def scriptingref11_Valid_r3 : List AI := [
  ⟨(some 7), none, .load 5 true (.t 1)⟩,
  ⟨(some 8), none, .build [(.int .i64 0), (.int .i64 0), (.int .i64 0), (.str []), (.int .i64 0)] []⟩,
  ⟨(some 9), none, .eqa false (.agg [(0, 1, (.leaf 1)), (1, 2, (.agg [(0, 1, (.leaf 1)), (1, 1, (.leaf 1))])), (3, 1, (.leaf 2)), (4, 1, (.leaf 1))]) (.t 7) (.t 8)⟩,
  ⟨(some 2), none, .mov (.t 9)⟩]
@[go_sem] def scriptingref11_Valid_r4 : List AI := [
  ⟨(some 11), none, .bin .eql (.t 4) (.c (.int .i64 1))⟩,
  ⟨(some 10), none, .mov (.t 11)⟩]
@[go_sem] def scriptingref11_Valid_r5 : List AI := [
  ⟨(some 12), none, .load 5 true (.t 1)⟩,
  ⟨(some 13), none, .faddr 4 (.t 1)⟩,
  ⟨(some 14), none, .load 1 false (.t 13)⟩,
  ⟨(some 15), none, .build [(.int .i64 0), (.int .i64 0), (.int .i64 0), (.str []), (.int .i64 0)] [(0, 1, (.c (.int .i64 1))), (4, 1, (.t 14))]⟩,
  ⟨(some 16), none, .eqa false (.agg [(0, 1, (.leaf 1)), (1, 2, (.agg [(0, 1, (.leaf 1)), (1, 1, (.leaf 1))])), (3, 1, (.leaf 2)), (4, 1, (.leaf 1))]) (.t 12) (.t 15)⟩,
  ⟨(some 17), none, .mov (.t 16)⟩,
  ⟨(some 18), (some (17, true)), .faddr 4 (.t 1)⟩,
  ⟨(some 19), (some (17, true)), .load 1 false (.t 18)⟩,
  ⟨(some 20), (some (17, true)), .bin .eql (.t 19) (.c (.int .i64 0))⟩,
  ⟨(some 21), (some (17, true)), .mov (.t 20)⟩,
  ⟨(some 22), (some (21, false)), .faddr 4 (.t 1)⟩,
  ⟨(some 23), (some (21, false)), .load 1 false (.t 22)⟩,
  ⟨(some 24), (some (21, false)), .bin .eql (.t 23) (.c (.int .i64 1))⟩,
  ⟨(some 25), (some (17, true)), .pick (.t 21) (.c (.bool true)) (.t 24)⟩,
  ⟨(some 26), none, .pick (.t 17) (.t 25) (.c (.bool false))⟩,
  ⟨(some 2), none, .mov (.t 26)⟩]
@[go_sem] def scriptingref11_Valid_r6 : List AI := [
  ⟨(some 28), none, .bin .eql (.t 4) (.c (.int .i64 2))⟩,
  ⟨(some 27), none, .mov (.t 28)⟩]
@[go_sem] def scriptingref11_Valid_r7 : List AI := [
  ⟨(some 29), none, .load 5 true (.t 1)⟩,
  ⟨(some 30), none, .faddr 1 (.t 1)⟩,
  ⟨(some 31), none, .load 2 true (.t 30)⟩,
  ⟨(some 32), none, .build [(.int .i64 0), (.int .i64 0), (.int .i64 0), (.str []), (.int .i64 0)] [(0, 1, (.c (.int .i64 2))), (1, 2, (.t 31))]⟩,
  ⟨(some 33), none, .eqa false (.agg [(0, 1, (.leaf 1)), (1, 2, (.agg [(0, 1, (.leaf 1)), (1, 1, (.leaf 1))])), (3, 1, (.leaf 2)), (4, 1, (.leaf 1))]) (.t 29) (.t 32)⟩,
  ⟨(some 34), none, .mov (.t 33)⟩,
  ⟨(some 35), (some (34, true)), .faddr 1 (.t 1)⟩,
  ⟨(some 36), (some (34, true)), .load 2 true (.t 35)⟩,
  ⟨(some 37), (some (34, true)), .call 30 [(.t 36)]⟩,
  ⟨(some 38), none, .pick (.t 34) (.t 37) (.c (.bool false))⟩,
  ⟨(some 2), none, .mov (.t 38)⟩]
@[go_sem] def scriptingref11_Valid_r8 : List AI := [
  ⟨(some 40), none, .bin .eql (.t 4) (.c (.int .i64 3))⟩,
  ⟨(some 39), none, .mov (.t 40)⟩]
@[go_sem] def scriptingref11_Valid_r9 : List AI := [
  ⟨(some 41), none, .faddr 3 (.t 1)⟩,
  ⟨(some 42), none, .load 1 false (.t 41)⟩,
  ⟨(some 43), none, .len 1 (.t 42)⟩,
  ⟨(some 44), none, .bin .leq (.t 43) (.c (.int .i64 4096))⟩,
  ⟨(some 45), none, .mov (.t 44)⟩,
  ⟨(some 46), (some (45, true)), .load 5 true (.t 1)⟩,
  ⟨(some 47), (some (45, true)), .faddr 3 (.t 1)⟩,
  ⟨(some 48), (some (45, true)), .load 1 false (.t 47)⟩,
  ⟨(some 49), (some (45, true)), .build [(.int .i64 0), (.int .i64 0), (.int .i64 0), (.str []), (.int .i64 0)] [(0, 1, (.c (.int .i64 3))), (3, 1, (.t 48))]⟩,
  ⟨(some 50), (some (45, true)), .eqa false (.agg [(0, 1, (.leaf 1)), (1, 2, (.agg [(0, 1, (.leaf 1)), (1, 1, (.leaf 1))])), (3, 1, (.leaf 2)), (4, 1, (.leaf 1))]) (.t 46) (.t 49)⟩,
  ⟨(some 51), none, .pick (.t 45) (.t 50) (.c (.bool false))⟩,
  ⟨(some 2), none, .mov (.t 51)⟩]
@[go_sem] def scriptingref11_Valid_r10 : List AI := [
  ⟨(some 53), none, .bin .eql (.t 4) (.c (.int .i64 6))⟩,
  ⟨(some 52), none, .mov (.t 53)⟩]
@[go_sem] def scriptingref11_Valid_r11 : List AI := [
  ⟨(some 54), none, .faddr 3 (.t 1)⟩,
  ⟨(some 55), none, .load 1 false (.t 54)⟩,
  ⟨(some 56), none, .len 1 (.t 55)⟩,
  ⟨(some 57), none, .bin .geq (.t 56) (.c (.int .i64 1))⟩,
  ⟨(some 58), none, .mov (.t 57)⟩,
  ⟨(some 59), (some (58, true)), .faddr 3 (.t 1)⟩,
  ⟨(some 60), (some (58, true)), .load 1 false (.t 59)⟩,
  ⟨(some 61), (some (58, true)), .len 1 (.t 60)⟩,
  ⟨(some 62), (some (58, true)), .bin .leq (.t 61) (.c (.int .i64 4096))⟩,
  ⟨(some 63), none, .pick (.t 58) (.t 62) (.c (.bool false))⟩,
  ⟨(some 64), none, .mov (.t 63)⟩,
  ⟨(some 65), (some (64, true)), .load 5 true (.t 1)⟩,
  ⟨(some 66), (some (64, true)), .faddr 3 (.t 1)⟩,
  ⟨(some 67), (some (64, true)), .load 1 false (.t 66)⟩,
  ⟨(some 68), (some (64, true)), .build [(.int .i64 0), (.int .i64 0), (.int .i64 0), (.str []), (.int .i64 0)] [(0, 1, (.c (.int .i64 6))), (3, 1, (.t 67))]⟩,
  ⟨(some 69), (some (64, true)), .eqa false (.agg [(0, 1, (.leaf 1)), (1, 2, (.agg [(0, 1, (.leaf 1)), (1, 1, (.leaf 1))])), (3, 1, (.leaf 2)), (4, 1, (.leaf 1))]) (.t 65) (.t 68)⟩,
  ⟨(some 70), none, .pick (.t 64) (.t 69) (.c (.bool false))⟩,
  ⟨(some 2), none, .mov (.t 70)⟩]
@[go_sem] def scriptingref11_Valid_r12 : List AI := [
  ⟨(some 72), none, .bin .eql (.t 4) (.c (.int .i64 4))⟩,
  ⟨(some 71), none, .mov (.t 72)⟩]
@[go_sem] def scriptingref11_Valid_r13 : List AI := [
  ⟨(some 73), none, .bin .eql (.t 4) (.c (.int .i64 5))⟩,
  ⟨(some 71), none, .mov (.t 73)⟩]
@[go_sem] def scriptingref11_Valid_r14 : List AI := [
  ⟨(some 74), none, .bin .eql (.t 4) (.c (.int .i64 7))⟩,
  ⟨(some 71), none, .mov (.t 74)⟩]
@[go_sem] def scriptingref11_Valid_r15 : List AI := [
  ⟨(some 75), none, .bin .eql (.t 4) (.c (.int .i64 8))⟩,
  ⟨(some 71), none, .mov (.t 75)⟩]
@[go_sem] def scriptingref11_Valid_r16 : List AI := [
  ⟨(some 76), none, .load 5 true (.t 1)⟩,
  ⟨(some 77), none, .faddr 0 (.t 1)⟩,
  ⟨(some 78), none, .load 1 false (.t 77)⟩,
  ⟨(some 79), none, .faddr 4 (.t 1)⟩,
  ⟨(some 80), none, .load 1 false (.t 79)⟩,
  ⟨(some 81), none, .build [(.int .i64 0), (.int .i64 0), (.int .i64 0), (.str []), (.int .i64 0)] [(0, 1, (.t 78)), (4, 1, (.t 80))]⟩,
  ⟨(some 82), none, .eqa false (.agg [(0, 1, (.leaf 1)), (1, 2, (.agg [(0, 1, (.leaf 1)), (1, 1, (.leaf 1))])), (3, 1, (.leaf 2)), (4, 1, (.leaf 1))]) (.t 76) (.t 81)⟩,
  ⟨(some 83), none, .mov (.t 82)⟩,
  ⟨(some 84), (some (83, true)), .faddr 4 (.t 1)⟩,
  ⟨(some 85), (some (83, true)), .load 1 false (.t 84)⟩,
  ⟨(some 86), (some (83, true)), .bin .geq (.t 85) (.c (.int .i64 1))⟩,
  ⟨(some 87), none, .pick (.t 83) (.t 86) (.c (.bool false))⟩,
  ⟨(some 2), none, .mov (.t 87)⟩]
@[go_sem] def scriptingref11_Valid_r17 : List AI := [
  ⟨(some 2), none, .mov (.c (.bool false))⟩]
@[go_sem] def scriptingref11_Valid_c : AC := .seq (.ops [scriptingref11_Valid_r0]) (.seq (.seq (.ops [scriptingref11_Valid_r1]) (.block 0 (.seq (.ops [scriptingref11_Valid_r2]) (.cond (.t 5) (.seq (.ops [scriptingref11_Valid_r3]) (.ret)) (.seq (.ops [scriptingref11_Valid_r4]) (.cond (.t 10) (.seq (.ops [scriptingref11_Valid_r5]) (.ret)) (.seq (.ops [scriptingref11_Valid_r6]) (.cond (.t 27) (.seq (.ops [scriptingref11_Valid_r7]) (.ret)) (.seq (.ops [scriptingref11_Valid_r8]) (.cond (.t 39) (.seq (.ops [scriptingref11_Valid_r9]) (.ret)) (.seq (.ops [scriptingref11_Valid_r10]) (.cond (.t 52) (.seq (.ops [scriptingref11_Valid_r11]) (.ret)) (.seq (.seq (.ops [scriptingref11_Valid_r12]) (.cond (.t 71) (.skip) (.seq (.ops [scriptingref11_Valid_r13]) (.cond (.t 71) (.skip) (.seq (.ops [scriptingref11_Valid_r14]) (.cond (.t 71) (.skip) (.ops [scriptingref11_Valid_r15]))))))) (.cond (.t 71) (.seq (.ops [scriptingref11_Valid_r16]) (.ret)) (.skip))))))))))))))) (.seq (.ops [scriptingref11_Valid_r17]) (.ret)))
theorem scriptingref11_Valid_ok : compF Try.prog 17 = some (88, scriptingref11_Valid_c, [.t 2]) := by kernel_rfl

@[go_sem] def scriptinglaw18_step_r0 : List AI := [
  ⟨(some 5), none, .box 180005 8 (.t 2)⟩,
  ⟨(some 6), none, .mov (.c (.bool false))⟩]
@[go_sem] def scriptinglaw18_step_r1 : List AI := [
  ⟨(some 19), none, .faddr 0 (.t 5)⟩,
  ⟨(some 20), none, .load 1 false (.t 19)⟩]
@[go_sem] def scriptinglaw18_step_r2 : List AI := [
  ⟨(some 22), none, .bin .eql (.t 20) (.c (.int .i64 0))⟩,
  ⟨(some 21), none, .mov (.t 22)⟩]
@[go_sem] def scriptinglaw18_step_r3 : List AI := [
  ⟨(some 24), none, .mov (.t 0)⟩,
  ⟨(some 25), none, .faddr 3 (.t 5)⟩,
  ⟨(some 26), none, .load 5 true (.t 25)⟩,
  ⟨(some 27), none, .call 12 [(.t 24), (.t 26)]⟩,
  ⟨(some 23), none, .mov (.t 27)⟩,
  ⟨(some 28), none, .ext 0 (.t 23)⟩,
  ⟨(some 29), none, .ext 1 (.t 23)⟩,
  ⟨(some 7), none, .mov (.t 28)⟩,
  ⟨(some 8), none, .mov (.t 29)⟩]
@[go_sem] def scriptinglaw18_step_r4 : List AI := [
  ⟨(some 31), none, .mov (.t 1)⟩,
  ⟨(some 32), none, .faddr 3 (.t 5)⟩,
  ⟨(some 33), none, .load 5 true (.t 32)⟩,
  ⟨(some 34), none, .call 31 [(.t 31), (.t 33)]⟩,
  ⟨(some 30), none, .mov (.t 34)⟩,
  ⟨(some 35), none, .ext 0 (.t 30)⟩,
  ⟨(some 36), none, .ext 1 (.t 30)⟩,
  ⟨(some 9), none, .mov (.t 35)⟩,
  ⟨(some 10), none, .mov (.t 36)⟩]
@[go_sem] def scriptinglaw18_step_r5 : List AI := [
  ⟨(some 37), none, .mov (.t 7)⟩,
  ⟨(some 38), none, .mov (.t 9)⟩,
  ⟨(some 39), none, .bin .eql (.t 37) (.t 38)⟩,
  ⟨(some 40), none, .mov (.t 39)⟩,
  ⟨(some 41), (some (40, true)), .mov (.t 8)⟩,
  ⟨(some 42), (some (40, true)), .mov (.t 10)⟩,
  ⟨(some 43), (some (40, true)), .bin .eql (.t 41) (.t 42)⟩,
  ⟨(some 44), none, .pick (.t 40) (.t 43) (.c (.bool false))⟩,
  ⟨(some 6), none, .mov (.t 44)⟩]
@[go_sem] def scriptinglaw18_step_r6 : List AI := [
  ⟨(some 46), none, .bin .eql (.t 20) (.c (.int .i64 1))⟩,
  ⟨(some 45), none, .mov (.t 46)⟩]
@[go_sem] def scriptinglaw18_step_r7_0 : List AI := [
  ⟨(some 47), none, .mov (.t 0)⟩,
  ⟨(some 48), none, .faddr 1 (.t 5)⟩,
  ⟨(some 49), none, .load 1 false (.t 48)⟩,
  ⟨(some 51), none, .mov (.t 1)⟩,
  ⟨(some 52), none, .faddr 1 (.t 5)⟩,
  ⟨(some 53), none, .load 1 false (.t 52)⟩,
  ⟨(some 50), none, .call 13 [(.t 47), (.t 49)]⟩,
  ⟨(some 54), none, .call 32 [(.t 51), (.t 53)]⟩,
  ⟨(some 55), none, .bin .eql (.t 50) (.t 54)⟩,
  ⟨(some 6), none, .mov (.t 55)⟩]
@[go_sem] def scriptinglaw18_step_r7_1 : List AI := [
  ⟨(some 47), none, .mov (.t 0)⟩,
  ⟨(some 48), none, .faddr 1 (.t 5)⟩,
  ⟨(some 49), none, .load 1 false (.t 48)⟩,
  ⟨(some 51), none, .mov (.t 1)⟩,
  ⟨(some 52), none, .faddr 1 (.t 5)⟩,
  ⟨(some 50), none, .call 13 [(.t 47), (.t 49)]⟩,
  ⟨(some 53), none, .load 1 false (.t 52)⟩,
  ⟨(some 54), none, .call 32 [(.t 51), (.t 53)]⟩,
  ⟨(some 55), none, .bin .eql (.t 50) (.t 54)⟩,
  ⟨(some 6), none, .mov (.t 55)⟩]
@[go_sem] def scriptinglaw18_step_r8 : List AI := [
  ⟨(some 57), none, .bin .eql (.t 20) (.c (.int .i64 2))⟩,
  ⟨(some 56), none, .mov (.t 57)⟩]
@[go_sem] def scriptinglaw18_step_r9 : List AI := [
  ⟨(some 59), none, .mov (.t 0)⟩,
  ⟨(some 60), none, .faddr 1 (.t 5)⟩,
  ⟨(some 61), none, .load 1 false (.t 60)⟩,
  ⟨(some 62), none, .call 20 [(.t 59), (.t 61)]⟩,
  ⟨(some 58), none, .mov (.t 62)⟩,
  ⟨(some 63), none, .ext 0 (.t 58)⟩,
  ⟨(some 64), none, .ext 1 (.t 58)⟩,
  ⟨(some 11), none, .box 180011 5 (.c (.agg [(.int .i64 0), (.int .i64 0), (.int .i64 0), (.str []), (.int .i64 0)]))⟩,
  ⟨none, none, .store 5 (.t 11) (.t 63)⟩,
  ⟨(some 12), none, .mov (.t 64)⟩]
@[go_sem] def scriptinglaw18_step_r10 : List AI := [
  ⟨(some 66), none, .mov (.t 1)⟩,
  ⟨(some 67), none, .faddr 1 (.t 5)⟩,
  ⟨(some 68), none, .load 1 false (.t 67)⟩,
  ⟨(some 69), none, .call 33 [(.t 66), (.t 68)]⟩,
  ⟨(some 65), none, .mov (.t 69)⟩,
  ⟨(some 70), none, .ext 0 (.t 65)⟩,
  ⟨(some 71), none, .ext 1 (.t 65)⟩,
  ⟨(some 13), none, .box 180013 5 (.c (.agg [(.int .i64 0), (.int .i64 0), (.int .i64 0), (.str []), (.int .i64 0)]))⟩,
  ⟨none, none, .store 5 (.t 13) (.t 70)⟩,
  ⟨(some 14), none, .mov (.t 71)⟩]
@[go_sem] def scriptinglaw18_step_r11 : List AI := [
  ⟨(some 72), none, .load 5 true (.t 11)⟩,
  ⟨(some 73), none, .load 5 true (.t 13)⟩,
  ⟨(some 74), none, .eqa false (.agg [(0, 1, (.leaf 1)), (1, 2, (.agg [(0, 1, (.leaf 1)), (1, 1, (.leaf 1))])), (3, 1, (.leaf 2)), (4, 1, (.leaf 1))]) (.t 72) (.t 73)⟩,
  ⟨(some 75), none, .mov (.t 74)⟩,
  ⟨(some 76), (some (75, true)), .mov (.t 12)⟩,
  ⟨(some 77), (some (75, true)), .mov (.t 14)⟩,
  ⟨(some 78), (some (75, true)), .bin .eql (.t 76) (.t 77)⟩,
  ⟨(some 79), none, .pick (.t 75) (.t 78) (.c (.bool false))⟩,
  ⟨(some 6), none, .mov (.t 79)⟩]
@[go_sem] def scriptinglaw18_step_r12 : List AI := [
  ⟨(some 81), none, .bin .eql (.t 20) (.c (.int .i64 3))⟩,
  ⟨(some 80), none, .mov (.t 81)⟩]
@[go_sem] def scriptinglaw18_step_r13_0 : List AI := [
  ⟨(some 82), none, .mov (.t 0)⟩,
  ⟨(some 83), none, .faddr 2 (.t 5)⟩,
  ⟨(some 84), none, .load 1 false (.t 83)⟩,
  ⟨(some 85), none, .faddr 3 (.t 5)⟩,
  ⟨(some 86), none, .load 5 true (.t 85)⟩,
  ⟨(some 88), none, .mov (.t 1)⟩,
  ⟨(some 89), none, .faddr 2 (.t 5)⟩,
  ⟨(some 90), none, .load 1 false (.t 89)⟩,
  ⟨(some 91), none, .faddr 3 (.t 5)⟩,
  ⟨(some 92), none, .load 5 true (.t 91)⟩,
  ⟨(some 87), none, .call 22 [(.t 82), (.t 84), (.t 86)]⟩,
  ⟨(some 93), none, .call 34 [(.t 88), (.t 90), (.t 92)]⟩,
  ⟨(some 94), none, .bin .eql (.t 87) (.t 93)⟩,
  ⟨(some 6), none, .mov (.t 94)⟩]
@[go_sem] def scriptinglaw18_step_r13_1 : List AI := [
  ⟨(some 82), none, .mov (.t 0)⟩,
  ⟨(some 83), none, .faddr 2 (.t 5)⟩,
  ⟨(some 84), none, .load 1 false (.t 83)⟩,
  ⟨(some 85), none, .faddr 3 (.t 5)⟩,
  ⟨(some 86), none, .load 5 true (.t 85)⟩,
  ⟨(some 88), none, .mov (.t 1)⟩,
  ⟨(some 89), none, .faddr 2 (.t 5)⟩,
  ⟨(some 90), none, .load 1 false (.t 89)⟩,
  ⟨(some 91), none, .faddr 3 (.t 5)⟩,
  ⟨(some 87), none, .call 22 [(.t 82), (.t 84), (.t 86)]⟩,
  ⟨(some 92), none, .load 5 true (.t 91)⟩,
  ⟨(some 93), none, .call 34 [(.t 88), (.t 90), (.t 92)]⟩,
  ⟨(some 94), none, .bin .eql (.t 87) (.t 93)⟩,
  ⟨(some 6), none, .mov (.t 94)⟩]
@[go_sem] def scriptinglaw18_step_r13_2 : List AI := [
  ⟨(some 82), none, .mov (.t 0)⟩,
  ⟨(some 83), none, .faddr 2 (.t 5)⟩,
  ⟨(some 84), none, .load 1 false (.t 83)⟩,
  ⟨(some 85), none, .faddr 3 (.t 5)⟩,
  ⟨(some 86), none, .load 5 true (.t 85)⟩,
  ⟨(some 88), none, .mov (.t 1)⟩,
  ⟨(some 89), none, .faddr 2 (.t 5)⟩,
  ⟨(some 91), none, .faddr 3 (.t 5)⟩,
  ⟨(some 92), none, .load 5 true (.t 91)⟩,
  ⟨(some 87), none, .call 22 [(.t 82), (.t 84), (.t 86)]⟩,
  ⟨(some 90), none, .load 1 false (.t 89)⟩,
  ⟨(some 93), none, .call 34 [(.t 88), (.t 90), (.t 92)]⟩,
  ⟨(some 94), none, .bin .eql (.t 87) (.t 93)⟩,
  ⟨(some 6), none, .mov (.t 94)⟩]
@[go_sem] def scriptinglaw18_step_r13_3 : List AI := [
  ⟨(some 82), none, .mov (.t 0)⟩,
  ⟨(some 83), none, .faddr 2 (.t 5)⟩,
  ⟨(some 84), none, .load 1 false (.t 83)⟩,
  ⟨(some 85), none, .faddr 3 (.t 5)⟩,
  ⟨(some 86), none, .load 5 true (.t 85)⟩,
  ⟨(some 88), none, .mov (.t 1)⟩,
  ⟨(some 89), none, .faddr 2 (.t 5)⟩,
  ⟨(some 91), none, .faddr 3 (.t 5)⟩,
  ⟨(some 87), none, .call 22 [(.t 82), (.t 84), (.t 86)]⟩,
  ⟨(some 90), none, .load 1 false (.t 89)⟩,
  ⟨(some 92), none, .load 5 true (.t 91)⟩,
  ⟨(some 93), none, .call 34 [(.t 88), (.t 90), (.t 92)]⟩,
  ⟨(some 94), none, .bin .eql (.t 87) (.t 93)⟩,
  ⟨(some 6), none, .mov (.t 94)⟩]
@[go_sem] def scriptinglaw18_step_r14 : List AI := [
  ⟨(some 96), none, .mov (.t 0)⟩,
  ⟨(some 97), none, .faddr 2 (.t 5)⟩,
  ⟨(some 98), none, .load 1 false (.t 97)⟩,
  ⟨(some 99), none, .call 21 [(.t 96), (.t 98)]⟩,
  ⟨(some 95), none, .mov (.t 99)⟩,
  ⟨(some 100), none, .ext 0 (.t 95)⟩,
  ⟨(some 101), none, .ext 1 (.t 95)⟩,
  ⟨(some 15), none, .box 180015 5 (.c (.agg [(.int .i64 0), (.int .i64 0), (.int .i64 0), (.str []), (.int .i64 0)]))⟩,
  ⟨none, none, .store 5 (.t 15) (.t 100)⟩,
  ⟨(some 16), none, .mov (.t 101)⟩]
@[go_sem] def scriptinglaw18_step_r15 : List AI := [
  ⟨(some 103), none, .mov (.t 1)⟩,
  ⟨(some 104), none, .faddr 2 (.t 5)⟩,
  ⟨(some 105), none, .load 1 false (.t 104)⟩,
  ⟨(some 106), none, .call 35 [(.t 103), (.t 105)]⟩,
  ⟨(some 102), none, .mov (.t 106)⟩,
  ⟨(some 107), none, .ext 0 (.t 102)⟩,
  ⟨(some 108), none, .ext 1 (.t 102)⟩,
  ⟨(some 17), none, .box 180017 5 (.c (.agg [(.int .i64 0), (.int .i64 0), (.int .i64 0), (.str []), (.int .i64 0)]))⟩,
  ⟨none, none, .store 5 (.t 17) (.t 107)⟩,
  ⟨(some 18), none, .mov (.t 108)⟩]
@[go_sem] def scriptinglaw18_step_r16 : List AI := [
  ⟨(some 109), none, .load 5 true (.t 15)⟩,
  ⟨(some 110), none, .load 5 true (.t 17)⟩,
  ⟨(some 111), none, .eqa false (.agg [(0, 1, (.leaf 1)), (1, 2, (.agg [(0, 1, (.leaf 1)), (1, 1, (.leaf 1))])), (3, 1, (.leaf 2)), (4, 1, (.leaf 1))]) (.t 109) (.t 110)⟩,
  ⟨(some 112), none, .mov (.t 111)⟩,
  ⟨(some 113), (some (112, true)), .mov (.t 16)⟩,
  ⟨(some 114), (some (112, true)), .mov (.t 18)⟩,
  ⟨(some 115), (some (112, true)), .eqp 2 false (.t 113) (.t 114)⟩,
  ⟨(some 116), none, .pick (.t 112) (.t 115) (.c (.bool false))⟩,
  ⟨(some 6), none, .mov (.t 116)⟩]
@[go_sem] def scriptinglaw18_step_c : AC := .seq (.ops [scriptinglaw18_step_r0]) (.seq (.seq (.ops [scriptinglaw18_step_r1]) (.block 0 (.seq (.ops [scriptinglaw18_step_r2]) (.cond (.t 21) (.seq (.ops [scriptinglaw18_step_r3]) (.seq (.ops [scriptinglaw18_step_r4]) (.seq (.ops [scriptinglaw18_step_r5]) (.ret)))) (.seq (.ops [scriptinglaw18_step_r6]) (.cond (.t 45) (.seq (.ops [scriptinglaw18_step_r7_0, scriptinglaw18_step_r7_1]) (.ret)) (.seq (.ops [scriptinglaw18_step_r8]) (.cond (.t 56) (.seq (.ops [scriptinglaw18_step_r9]) (.seq (.ops [scriptinglaw18_step_r10]) (.seq (.ops [scriptinglaw18_step_r11]) (.ret)))) (.seq (.ops [scriptinglaw18_step_r12]) (.cond (.t 80) (.seq (.ops [scriptinglaw18_step_r13_0, scriptinglaw18_step_r13_1, scriptinglaw18_step_r13_2, scriptinglaw18_step_r13_3]) (.ret)) (.skip))))))))))) (.seq (.ops [scriptinglaw18_step_r14]) (.seq (.ops [scriptinglaw18_step_r15]) (.seq (.ops [scriptinglaw18_step_r16]) (.ret)))))
theorem scriptinglaw18_step_ok : compF Try.prog 18 = some (117, scriptinglaw18_step_c, [.t 6]) := by kernel_rfl

@[go_sem] def scriptingref18_New_r0 : List AI := [
  ⟨(some 0), none, .mov (.c .nilp)⟩]
@[go_sem] def scriptingref18_New_r1 : List AI := [
  ⟨(some 1), none, .build [.nils, .nils, .nils] []⟩,
  ⟨(some 2), none, .box 190002 3 (.t 1)⟩,
  ⟨(some 0), none, .mov (.t 2)⟩]
@[go_sem] def scriptingref18_New_c : AC := .seq (.ops [scriptingref18_New_r0]) (.seq (.ops [scriptingref18_New_r1]) (.ret))
theorem scriptingref18_New_ok : compF Try.prog 19 = some (3, scriptingref18_New_c, [.t 0]) := by kernel_rfl

@[go_sem] def registry_Registry_Value_r0 : List AI := [
  ⟨(some 4), none, .box 200004 5 (.c (.agg [(.int .i64 0), (.int .i64 0), (.int .i64 0), (.str []), (.int .i64 0)]))⟩,
  ⟨(some 5), none, .mov (.c (.int .i64 0))⟩]
@[go_sem] def registry_Registry_Value_r1 : List AI := [
  ⟨(some 7), none, .mov (.t 0)⟩,
  ⟨(some 8), none, .eqp 0 false (.t 7) (.c .nilp)⟩,
  ⟨(some 6), none, .mov (.t 8)⟩]
@[go_sem] def registry_Registry_Value_r2 : List AI := [
  ⟨(some 9), none, .build [(.int .i64 0), (.int .i64 0), (.int .i64 0), (.str []), (.int .i64 0)] []⟩,
  ⟨none, none, .store 5 (.t 4) (.t 9)⟩,
  ⟨(some 5), none, .mov (.c (.int .i64 1))⟩]
@[go_sem] def registry_Registry_Value_r3 : List AI := [
  ⟨(some 11), none, .mov (.t 1)⟩,
  ⟨(some 12), none, .bin .eql (.t 11) (.c (.int .i64 0))⟩,
  ⟨(some 10), none, .mov (.t 12)⟩]
@[go_sem] def registry_Registry_Value_r4 : List AI := [
  ⟨(some 13), none, .build [(.int .i64 0), (.int .i64 0), (.int .i64 0), (.str []), (.int .i64 0)] []⟩,
  ⟨none, none, .store 5 (.t 4) (.t 13)⟩,
  ⟨(some 5), none, .mov (.c (.int .i64 0))⟩]
@[go_sem] def registry_Registry_Value_r5 : List AI := [
  ⟨(some 15), none, .mov (.t 0)⟩,
  ⟨(some 16), none, .mov (.t 1)⟩,
  ⟨(some 17), none, .call 29 [(.t 15), (.t 16)]⟩,
  ⟨(some 18), none, .un .not (.t 17)⟩,
  ⟨(some 14), none, .mov (.t 18)⟩]
@[go_sem] def registry_Registry_Value_r6 : List AI := [
  ⟨(some 19), none, .build [(.int .i64 0), (.int .i64 0), (.int .i64 0), (.str []), (.int .i64 0)] []⟩,
  ⟨none, none, .store 5 (.t 4) (.t 19)⟩,
  ⟨(some 5), none, .mov (.c (.int .i64 6))⟩]
@[go_sem] def registry_Registry_Value_r7 : List AI := [
  ⟨(some 20), none, .mov (.t 0)⟩,
  ⟨(some 21), none, .nilck (.t 20)⟩,
  ⟨(some 22), none, .faddr 0 (.t 21)⟩,
  ⟨(some 23), none, .load 1 false (.t 22)⟩,
  ⟨(some 24), none, .mov (.t 1)⟩,
  ⟨(some 25), none, .bin .sub (.t 24) (.c (.int .i64 1))⟩,
  ⟨(some 26), none, .iaddr 5 (.t 23) (.t 25)⟩,
  ⟨(some 27), none, .load 5 true (.t 26)⟩,
  ⟨none, none, .store 5 (.t 4) (.t 27)⟩,
  ⟨(some 5), none, .mov (.c (.int .i64 0))⟩]
@[go_sem] def registry_Registry_Value_c : AC := .seq (.ops [registry_Registry_Value_r0]) (.seq (.block 0 (.seq (.ops [registry_Registry_Value_r1]) (.cond (.t 6) (.seq (.ops [registry_Registry_Value_r2]) (.ret)) (.seq (.ops [registry_Registry_Value_r3]) (.cond (.t 10) (.seq (.ops [registry_Registry_Value_r4]) (.ret)) (.seq (.ops [registry_Registry_Value_r5]) (.cond (.t 14) (.seq (.ops [registry_Registry_Value_r6]) (.ret)) (.skip)))))))) (.seq (.ops [registry_Registry_Value_r7]) (.ret)))
theorem registry_Registry_Value_ok : compF Try.prog 20 = some (28, registry_Registry_Value_c, [.c 4 5 true, .t 5]) := by kernel_rfl

@[go_sem] def registry_Registry_Find_r0 : List AI := [
  ⟨(some 4), none, .box 210004 5 (.c (.agg [(.int .i64 0), (.int .i64 0), (.int .i64 0), (.str []), (.int .i64 0)]))⟩,
  ⟨(some 5), none, .mov (.c (.bool false))⟩]
@[go_sem] def registry_Registry_Find_r1 : List AI := [
  ⟨(some 8), none, .mov (.t 0)⟩,
  ⟨(some 9), none, .eqp 0 false (.t 8) (.c .nilp)⟩]
@[go_sem] def registry_Registry_Find_r2 : List AI := [
  ⟨(some 10), none, .build [(.int .i64 0), (.int .i64 0), (.int .i64 0), (.str []), (.int .i64 0)] []⟩,
  ⟨none, none, .store 5 (.t 4) (.t 10)⟩,
  ⟨(some 5), none, .mov (.c (.bool false))⟩]
@[go_sem] def registry_Registry_Find_r3 : List AI := [
  ⟨(some 12), none, .mov (.t 0)⟩,
  ⟨(some 13), none, .nilck (.t 12)⟩,
  ⟨(some 14), none, .faddr 2 (.t 13)⟩,
  ⟨(some 15), none, .load 1 false (.t 14)⟩,
  ⟨(some 16), none, .mov (.t 1)⟩,
  ⟨(some 17), none, .look 1 (.agg [(.int .i64 0), (.int .i64 0), (.int .i64 0), (.str []), (.int .i64 0)]) true (.t 15) (.t 16)⟩,
  ⟨(some 11), none, .mov (.t 17)⟩,
  ⟨(some 18), none, .ext 0 (.t 11)⟩,
  ⟨(some 19), none, .ext 1 (.t 11)⟩,
  ⟨(some 6), none, .box 210006 5 (.c (.agg [(.int .i64 0), (.int .i64 0), (.int .i64 0), (.str []), (.int .i64 0)]))⟩,
  ⟨none, none, .store 5 (.t 6) (.t 18)⟩,
  ⟨(some 7), none, .mov (.t 19)⟩]
@[go_sem] def registry_Registry_Find_r4 : List AI := [
  ⟨(some 20), none, .load 5 true (.t 6)⟩,
  ⟨(some 21), none, .mov (.t 7)⟩,
  ⟨none, none, .store 5 (.t 4) (.t 20)⟩,
  ⟨(some 5), none, .mov (.t 21)⟩]
@[go_sem] def registry_Registry_Find_c : AC := .seq (.ops [registry_Registry_Find_r0]) (.seq (.seq (.ops [registry_Registry_Find_r1]) (.cond (.t 9) (.seq (.ops [registry_Registry_Find_r2]) (.ret)) (.skip))) (.seq (.ops [registry_Registry_Find_r3]) (.seq (.ops [registry_Registry_Find_r4]) (.ret))))
theorem registry_Registry_Find_ok : compF Try.prog 21 = some (22, registry_Registry_Find_c, [.c 4 5 true, .t 5]) := by kernel_rfl

@[go_sem] def registry_Registry_Put_r0 : List AI := [
  ⟨(some 5), none, .box 220005 5 (.t 2)⟩,
  ⟨(some 6), none, .mov (.c (.int .i64 0))⟩]
@[go_sem] def registry_Registry_Put_r1 : List AI := [
  ⟨(some 10), none, .mov (.t 0)⟩,
  ⟨(some 11), none, .eqp 0 false (.t 10) (.c .nilp)⟩,
  ⟨(some 9), none, .mov (.t 11)⟩]
@[go_sem] def registry_Registry_Put_r2 : List AI := [
  ⟨(some 6), none, .mov (.c (.int .i64 1))⟩]
@[go_sem] def registry_Registry_Put_r3 : List AI := [
  ⟨(some 13), none, .mov (.t 1)⟩,
  ⟨(some 14), none, .len 1 (.t 13)⟩,
  ⟨(some 15), none, .bin .gtr (.t 14) (.c (.int .i64 4096))⟩,
  ⟨(some 12), none, .mov (.t 15)⟩]
@[go_sem] def registry_Registry_Put_r4 : List AI := [
  ⟨(some 6), none, .mov (.c (.int .i64 14))⟩]
@[go_sem] def registry_Registry_Put_r5 : List AI := [
  ⟨(some 17), none, .load 5 true (.t 5)⟩,
  ⟨(some 18), none, .call 28 [(.t 17)]⟩,
  ⟨(some 19), none, .un .not (.t 18)⟩,
  ⟨(some 16), none, .mov (.t 19)⟩]
@[go_sem] def registry_Registry_Put_r6 : List AI := [
  ⟨(some 6), none, .mov (.c (.int .i64 2))⟩]
@[go_sem] def registry_Registry_Put_r7 : List AI := [
  ⟨(some 21), none, .faddr 0 (.t 5)⟩,
  ⟨(some 22), none, .load 1 false (.t 21)⟩,
  ⟨(some 23), none, .bin .eql (.t 22) (.c (.int .i64 0))⟩,
  ⟨(some 20), none, .mov (.t 23)⟩]
@[go_sem] def registry_Registry_Put_r8 : List AI := [
  ⟨(some 24), none, .mov (.t 0)⟩,
  ⟨(some 25), none, .nilck (.t 24)⟩,
  ⟨(some 26), none, .faddr 2 (.t 25)⟩,
  ⟨(some 27), none, .load 1 false (.t 26)⟩,
  ⟨(some 28), none, .mov (.t 1)⟩,
  ⟨none, none, .mdel 1 (.t 27) (.t 28)⟩]
@[go_sem] def registry_Registry_Put_r9 : List AI := [
  ⟨(some 6), none, .mov (.c (.int .i64 0))⟩]
@[go_sem] def registry_Registry_Put_r10 : List AI := [
  ⟨(some 30), none, .mov (.t 0)⟩,
  ⟨(some 31), none, .nilck (.t 30)⟩,
  ⟨(some 32), none, .faddr 2 (.t 31)⟩,
  ⟨(some 33), none, .load 1 false (.t 32)⟩,
  ⟨(some 34), none, .mov (.t 1)⟩,
  ⟨(some 35), none, .look 1 (.agg [(.int .i64 0), (.int .i64 0), (.int .i64 0), (.str []), (.int .i64 0)]) true (.t 33) (.t 34)⟩,
  ⟨(some 29), none, .mov (.t 35)⟩,
  ⟨(some 36), none, .ext 0 (.t 29)⟩,
  ⟨(some 37), none, .ext 1 (.t 29)⟩,
  ⟨(some 7), none, .box 220007 5 (.c (.agg [(.int .i64 0), (.int .i64 0), (.int .i64 0), (.str []), (.int .i64 0)]))⟩,
  ⟨none, none, .store 5 (.t 7) (.t 36)⟩,
  ⟨(some 8), none, .mov (.t 37)⟩]
@[go_sem] def registry_Registry_Put_r11 : List AI := [
  ⟨(some 38), none, .mov (.t 8)⟩,
  ⟨(some 39), none, .un .not (.t 38)⟩,
  ⟨(some 40), none, .mov (.t 39)⟩,
  ⟨(some 41), (some (40, true)), .mov (.t 0)⟩,
  ⟨(some 42), (some (40, true)), .nilck (.t 41)⟩,
  ⟨(some 43), (some (40, true)), .faddr 2 (.t 42)⟩,
  ⟨(some 44), (some (40, true)), .load 1 false (.t 43)⟩,
  ⟨(some 45), (some (40, true)), .len 2 (.t 44)⟩,
  ⟨(some 46), (some (40, true)), .bin .geq (.t 45) (.c (.int .i64 1000))⟩,
  ⟨(some 47), none, .pick (.t 40) (.t 46) (.c (.bool false))⟩]
@[go_sem] def registry_Registry_Put_r12 : List AI := [
  ⟨(some 6), none, .mov (.c (.int .i64 17))⟩]
@[go_sem] def registry_Registry_Put_r13 : List AI := [
  ⟨(some 48), none, .mov (.t 0)⟩,
  ⟨(some 49), none, .nilck (.t 48)⟩,
  ⟨(some 50), none, .faddr 2 (.t 49)⟩,
  ⟨(some 51), none, .load 1 false (.t 50)⟩,
  ⟨(some 52), none, .mov (.t 1)⟩,
  ⟨(some 53), none, .load 5 true (.t 5)⟩,
  ⟨none, none, .mput 1 (.t 51) (.t 52) (.t 53)⟩]
@[go_sem] def registry_Registry_Put_r14 : List AI := [
  ⟨(some 6), none, .mov (.c (.int .i64 0))⟩]
@[go_sem] def registry_Registry_Put_c : AC := .seq (.ops [registry_Registry_Put_r0]) (.seq (.block 0 (.seq (.ops [registry_Registry_Put_r1]) (.cond (.t 9) (.seq (.ops [registry_Registry_Put_r2]) (.ret)) (.seq (.ops [registry_Registry_Put_r3]) (.cond (.t 12) (.seq (.ops [registry_Registry_Put_r4]) (.ret)) (.seq (.ops [registry_Registry_Put_r5]) (.cond (.t 16) (.seq (.ops [registry_Registry_Put_r6]) (.ret)) (.seq (.ops [registry_Registry_Put_r7]) (.cond (.t 20) (.seq (.ops [registry_Registry_Put_r8]) (.seq (.ops [registry_Registry_Put_r9]) (.ret))) (.skip)))))))))) (.seq (.seq (.ops [registry_Registry_Put_r10]) (.seq (.ops [registry_Registry_Put_r11]) (.cond (.t 47) (.seq (.ops [registry_Registry_Put_r12]) (.ret)) (.skip)))) (.seq (.ops [registry_Registry_Put_r13]) (.seq (.ops [registry_Registry_Put_r14]) (.ret)))))
theorem registry_Registry_Put_ok : compF Try.prog 22 = some (54, registry_Registry_Put_c, [.t 6]) := by kernel_rfl

@[go_sem] def scriptinglaw18_shown_r0 : List AI := [
  ⟨(some 4), none, .mov (.c (.bool false))⟩]
@[go_sem] def scriptinglaw18_shown_r1 : List AI := [
  ⟨(some 5), none, .mov (.t 0)⟩,
  ⟨(some 6), none, .call 14 [(.t 5)]⟩,
  ⟨(some 7), none, .mov (.t 1)⟩,
  ⟨(some 8), none, .call 42 [(.t 7)]⟩,
  ⟨(some 9), none, .bin .eql (.t 6) (.t 8)⟩,
  ⟨(some 10), none, .mov (.t 9)⟩,
  ⟨(some 11), (some (10, true)), .mov (.t 0)⟩,
  ⟨(some 12), (some (10, true)), .call 26 [(.t 11)]⟩,
  ⟨(some 13), (some (10, true)), .mov (.t 1)⟩,
  ⟨(some 14), (some (10, true)), .call 44 [(.t 13)]⟩,
  ⟨(some 15), (some (10, true)), .call 43 [(.t 12), (.t 14)]⟩,
  ⟨(some 16), none, .pick (.t 10) (.t 15) (.c (.bool false))⟩,
  ⟨(some 4), none, .mov (.t 16)⟩]
@[go_sem] def scriptinglaw18_shown_c : AC := .seq (.ops [scriptinglaw18_shown_r0]) (.seq (.ops [scriptinglaw18_shown_r1]) (.ret))
theorem scriptinglaw18_shown_ok : compF Try.prog 24 = some (17, scriptinglaw18_shown_c, [.t 4]) := by kernel_rfl

@[go_sem] def scriptinglaw18_with_r0 : List AI := [
  ⟨(some 3), none, .box 250003 5 (.t 1)⟩,
  ⟨(some 4), none, .mov (.c .nils)⟩]
@[go_sem] def scriptinglaw18_with_r1 : List AI := [
  ⟨(some 6), none, .faddr 0 (.t 3)⟩,
  ⟨(some 7), none, .load 1 false (.t 6)⟩,
  ⟨(some 8), none, .bin .eql (.t 7) (.c (.int .i64 4))⟩,
  ⟨(some 9), none, .mov (.t 8)⟩,
  ⟨(some 10), (some (9, false)), .faddr 0 (.t 3)⟩,
  ⟨(some 11), (some (9, false)), .load 1 false (.t 10)⟩,
  ⟨(some 12), (some (9, false)), .bin .eql (.t 11) (.c (.int .i64 5))⟩,
  ⟨(some 13), none, .pick (.t 9) (.c (.bool true)) (.t 12)⟩,
  ⟨(some 14), none, .mov (.t 13)⟩,
  ⟨(some 15), (some (14, false)), .faddr 0 (.t 3)⟩,
  ⟨(some 16), (some (14, false)), .load 1 false (.t 15)⟩,
  ⟨(some 17), (some (14, false)), .bin .eql (.t 16) (.c (.int .i64 7))⟩,
  ⟨(some 18), none, .pick (.t 14) (.c (.bool true)) (.t 17)⟩,
  ⟨(some 19), none, .mov (.t 18)⟩,
  ⟨(some 20), (some (19, false)), .faddr 0 (.t 3)⟩,
  ⟨(some 21), (some (19, false)), .load 1 false (.t 20)⟩,
  ⟨(some 22), (some (19, false)), .bin .eql (.t 21) (.c (.int .i64 8))⟩,
  ⟨(some 23), none, .pick (.t 19) (.c (.bool true)) (.t 22)⟩,
  ⟨(some 5), none, .mov (.t 23)⟩]
@[go_sem] def scriptinglaw18_with_r2 : List AI := [
  ⟨(some 24), none, .mov (.t 5)⟩,
  ⟨(some 25), none, .un .not (.t 24)⟩,
  ⟨(some 26), none, .mov (.t 25)⟩,
  ⟨(some 27), (some (26, false)), .mov (.t 0)⟩,
  ⟨(some 28), (some (26, false)), .faddr 4 (.t 3)⟩,
  ⟨(some 29), (some (26, false)), .load 1 false (.t 28)⟩,
  ⟨(some 30), (some (26, false)), .call 27 [(.t 27), (.t 29)]⟩,
  ⟨(some 31), none, .pick (.t 26) (.c (.bool true)) (.t 30)⟩]
@[go_sem] def scriptinglaw18_with_r3 : List AI := [
  ⟨(some 32), none, .mov (.t 0)⟩,
  ⟨(some 4), none, .mov (.t 32)⟩]
@[go_sem] def scriptinglaw18_with_r4_0 : List AI := [
  ⟨(some 34), none, .mov (.t 0)⟩,
  ⟨(some 36), none, .faddr 4 (.t 3)⟩,
  ⟨(some 37), none, .load 1 false (.t 36)⟩,
  ⟨(some 38), none, .mkisl 1 [(.t 37)]⟩,
  ⟨(some 33), none, .mkrow 250033 1 []⟩,
  ⟨(some 35), none, .app 250035 1 (.t 33) (.t 34)⟩,
  ⟨(some 39), none, .app 250039 1 (.t 35) (.t 38)⟩,
  ⟨(some 4), none, .mov (.t 39)⟩]
@[go_sem] def scriptinglaw18_with_r4_1 : List AI := [
  ⟨(some 34), none, .mov (.t 0)⟩,
  ⟨(some 36), none, .faddr 4 (.t 3)⟩,
  ⟨(some 33), none, .mkrow 250033 1 []⟩,
  ⟨(some 37), none, .load 1 false (.t 36)⟩,
  ⟨(some 38), none, .mkisl 1 [(.t 37)]⟩,
  ⟨(some 35), none, .app 250035 1 (.t 33) (.t 34)⟩,
  ⟨(some 39), none, .app 250039 1 (.t 35) (.t 38)⟩,
  ⟨(some 4), none, .mov (.t 39)⟩]
@[go_sem] def scriptinglaw18_with_r4_2 : List AI := [
  ⟨(some 34), none, .mov (.t 0)⟩,
  ⟨(some 36), none, .faddr 4 (.t 3)⟩,
  ⟨(some 33), none, .mkrow 250033 1 []⟩,
  ⟨(some 35), none, .app 250035 1 (.t 33) (.t 34)⟩,
  ⟨(some 37), none, .load 1 false (.t 36)⟩,
  ⟨(some 38), none, .mkisl 1 [(.t 37)]⟩,
  ⟨(some 39), none, .app 250039 1 (.t 35) (.t 38)⟩,
  ⟨(some 4), none, .mov (.t 39)⟩]
@[go_sem] def scriptinglaw18_with_c : AC := .seq (.ops [scriptinglaw18_with_r0]) (.seq (.ops [scriptinglaw18_with_r1]) (.seq (.seq (.ops [scriptinglaw18_with_r2]) (.cond (.t 31) (.seq (.ops [scriptinglaw18_with_r3]) (.ret)) (.skip))) (.seq (.ops [scriptinglaw18_with_r4_0, scriptinglaw18_with_r4_1, scriptinglaw18_with_r4_2]) (.ret))))
theorem scriptinglaw18_with_ok : compF Try.prog 25 = some (40, scriptinglaw18_with_c, [.t 4]) := by kernel_rfl

@[go_sem] def registry_Registry_Roots_r0 : List AI := [
  ⟨(some 2), none, .mov (.c .nils)⟩]
@[go_sem] def registry_Registry_Roots_r1 : List AI := [
  ⟨(some 6), none, .mov (.t 0)⟩,
  ⟨(some 7), none, .eqp 0 false (.t 6) (.c .nilp)⟩]
@[go_sem] def registry_Registry_Roots_r2 : List AI := [
  ⟨(some 2), none, .mov (.c .nils)⟩]
@[go_sem] def registry_Registry_Roots_r3 : List AI := [
  ⟨(some 3), none, .mov (.c .nils)⟩]
@[go_sem] def registry_Registry_Roots_r4 : List AI := [
  ⟨(some 8), none, .mov (.t 0)⟩,
  ⟨(some 9), none, .nilck (.t 8)⟩,
  ⟨(some 10), none, .faddr 2 (.t 9)⟩,
  ⟨(some 11), none, .load 1 false (.t 10)⟩,
  ⟨(some 12), none, .bad⟩]
@[go_sem] def registry_Registry_Roots_r5 : List AI := [
  ⟨(some 13), none, .bad⟩,
  ⟨(some 14), none, .ext 0 (.t 13)⟩]
@[go_sem] def registry_Registry_Roots_r6 : List AI := [
  ⟨(some 15), none, .bad⟩,
  ⟨(some 16), none, .ext 1 (.t 15)⟩,
  ⟨(some 5), none, .box 260005 5 (.c (.agg [(.int .i64 0), (.int .i64 0), (.int .i64 0), (.str []), (.int .i64 0)]))⟩,
  ⟨none, none, .store 5 (.t 5) (.t 16)⟩]
@[go_sem] def registry_Registry_Roots_r7 : List AI := [
  ⟨(some 17), none, .mov (.t 3)⟩,
  ⟨(some 18), none, .load 5 true (.t 5)⟩,
  ⟨(some 19), none, .mkisl 5 [(.t 18)]⟩,
  ⟨(some 20), none, .app 260020 5 (.t 17) (.t 19)⟩,
  ⟨(some 3), none, .mov (.t 20)⟩]
def registry_Registry_Roots_l0 : AC := .seq (.ops [registry_Registry_Roots_r5]) (.seq (.cond (.t 14) (.skip) (.exit 0)) (.block 1 (.seq (.ops [registry_Registry_Roots_r6]) (.ops [registry_Registry_Roots_r7]))))
theorem registry_Registry_Roots_l0_eq : registry_Registry_Roots_l0 = .seq (.ops [registry_Registry_Roots_r5]) (.seq (.cond (.t 14) (.skip) (.exit 0)) (.block 1 (.seq (.ops [registry_Registry_Roots_r6]) (.ops [registry_Registry_Roots_r7])))) := rfl
@[go_sem] def registry_Registry_Roots_r8 : List AI := [
  ⟨(some 21), none, .mov (.t 0)⟩,
  ⟨(some 22), none, .nilck (.t 21)⟩,
  ⟨(some 23), none, .faddr 0 (.t 22)⟩,
  ⟨(some 24), none, .load 1 false (.t 23)⟩,
  ⟨(some 25), none, .mov (.t 3)⟩,
  ⟨(some 26), none, .mkisl 1 [(.t 24), (.t 25)]⟩,
  ⟨(some 27), none, .call 45 [(.t 26)]⟩,
  ⟨(some 2), none, .mov (.t 27)⟩]
@[go_sem] def registry_Registry_Roots_c : AC := .seq (.ops [registry_Registry_Roots_r0]) (.seq (.seq (.ops [registry_Registry_Roots_r1]) (.cond (.t 7) (.seq (.ops [registry_Registry_Roots_r2]) (.ret)) (.skip))) (.seq (.ops [registry_Registry_Roots_r3]) (.seq (.seq (.ops [registry_Registry_Roots_r4]) (.block 0 (.loop registry_Registry_Roots_l0))) (.seq (.ops [registry_Registry_Roots_r8]) (.ret)))))
theorem registry_Registry_Roots_ok : compF Try.prog 26 = some (28, registry_Registry_Roots_c, [.t 2]) := by kernel_rfl

@[go_sem] def scriptinglaw18_has_r0 : List AI := [
  ⟨(some 4), none, .mov (.c (.bool false))⟩]
@[go_sem] def scriptinglaw18_has_r1 : List AI := [
  ⟨(some 5), none, .mov (.c (.int .i64 0))⟩]
@[go_sem] def scriptinglaw18_has_r2 : List AI := [
  ⟨(some 6), none, .mov (.t 5)⟩,
  ⟨(some 7), none, .mov (.t 0)⟩,
  ⟨(some 8), none, .len 0 (.t 7)⟩,
  ⟨(some 9), none, .bin .lss (.t 6) (.t 8)⟩]
@[go_sem] def scriptinglaw18_has_r3 : List AI := [
  ⟨(some 12), none, .mov (.t 0)⟩,
  ⟨(some 13), none, .mov (.t 5)⟩,
  ⟨(some 14), none, .iaddr 1 (.t 12) (.t 13)⟩,
  ⟨(some 15), none, .load 1 false (.t 14)⟩,
  ⟨(some 16), none, .mov (.t 1)⟩,
  ⟨(some 17), none, .bin .eql (.t 15) (.t 16)⟩]
@[go_sem] def scriptinglaw18_has_r4 : List AI := [
  ⟨(some 4), none, .mov (.c (.bool true))⟩]
@[go_sem] def scriptinglaw18_has_r5 : List AI := [
  ⟨(some 10), none, .mov (.t 5)⟩,
  ⟨(some 11), none, .bin .add (.t 10) (.c (.int .i64 1))⟩,
  ⟨(some 5), none, .mov (.t 11)⟩]
def scriptinglaw18_has_l0 : AC := .seq (.seq (.ops [scriptinglaw18_has_r2]) (.cond (.t 9) (.skip) (.exit 0))) (.seq (.block 1 (.seq (.ops [scriptinglaw18_has_r3]) (.cond (.t 17) (.seq (.ops [scriptinglaw18_has_r4]) (.ret)) (.skip)))) (.ops [scriptinglaw18_has_r5]))
theorem scriptinglaw18_has_l0_eq : scriptinglaw18_has_l0 = .seq (.seq (.ops [scriptinglaw18_has_r2]) (.cond (.t 9) (.skip) (.exit 0))) (.seq (.block 1 (.seq (.ops [scriptinglaw18_has_r3]) (.cond (.t 17) (.seq (.ops [scriptinglaw18_has_r4]) (.ret)) (.skip)))) (.ops [scriptinglaw18_has_r5])) := rfl
@[go_sem] def scriptinglaw18_has_r6 : List AI := [
  ⟨(some 4), none, .mov (.c (.bool false))⟩]
@[go_sem] def scriptinglaw18_has_c : AC := .seq (.ops [scriptinglaw18_has_r0]) (.seq (.seq (.ops [scriptinglaw18_has_r1]) (.block 0 (.loop scriptinglaw18_has_l0))) (.seq (.ops [scriptinglaw18_has_r6]) (.ret)))
theorem scriptinglaw18_has_ok : compF Try.prog 27 = some (18, scriptinglaw18_has_c, [.t 4]) := by kernel_rfl

@[go_sem] def value_Valid_r0 : List AI := [
  ⟨(some 1), none, .box 280001 5 (.t 0)⟩,
  ⟨(some 2), none, .mov (.c (.bool false))⟩]
@[go_sem] def value_Valid_r1 : List AI := [
  ⟨(some 5), none, .faddr 0 (.t 1)⟩,
  ⟨(some 6), none, .load 1 false (.t 5)⟩,
  ⟨(some 7), none, .build [(.int .i64 0), (.int .i64 0), (.int .i64 0), (.str []), (.int .i64 0)] [(0, 1, (.t 6))]⟩,
  ⟨(some 3), none, .box 280003 5 (.c (.agg [(.int .i64 0), (.int .i64 0), (.int .i64 0), (.str []), (.int .i64 0)]))⟩,
  ⟨none, none, .store 5 (.t 3) (.t 7)⟩]
@[go_sem] def value_Valid_r2 : List AI := [
  ⟨(some 4), none, .mov (.c (.bool true))⟩]
@[go_sem] def value_Valid_r3 : List AI := [
  ⟨(some 8), none, .faddr 0 (.t 1)⟩,
  ⟨(some 9), none, .load 1 false (.t 8)⟩]
@[go_sem] def value_Valid_r4 : List AI := [
  ⟨(some 11), none, .bin .eql (.t 9) (.c (.int .i64 0))⟩,
  ⟨(some 10), none, .mov (.t 11)⟩]
@[go_sem] def value_Valid_r5 : List AI := [
  ⟨(some 13), none, .bin .eql (.t 9) (.c (.int .i64 1))⟩,
  ⟨(some 12), none, .mov (.t 13)⟩]
@[go_sem] def value_Valid_r6 : List AI := [
  ⟨(some 14), none, .faddr 4 (.t 1)⟩,
  ⟨(some 15), none, .load 1 false (.t 14)⟩,
  ⟨(some 16), none, .faddr 4 (.t 3)⟩,
  ⟨none, none, .store 1 (.t 16) (.t 15)⟩]
@[go_sem] def value_Valid_r7 : List AI := [
  ⟨(some 17), none, .faddr 4 (.t 1)⟩,
  ⟨(some 18), none, .load 1 false (.t 17)⟩,
  ⟨(some 19), none, .bin .eql (.t 18) (.c (.int .i64 0))⟩,
  ⟨(some 20), none, .mov (.t 19)⟩,
  ⟨(some 21), (some (20, false)), .faddr 4 (.t 1)⟩,
  ⟨(some 22), (some (20, false)), .load 1 false (.t 21)⟩,
  ⟨(some 23), (some (20, false)), .bin .eql (.t 22) (.c (.int .i64 1))⟩,
  ⟨(some 24), none, .pick (.t 20) (.c (.bool true)) (.t 23)⟩,
  ⟨(some 4), none, .mov (.t 24)⟩]
@[go_sem] def value_Valid_r8 : List AI := [
  ⟨(some 26), none, .bin .eql (.t 9) (.c (.int .i64 2))⟩,
  ⟨(some 25), none, .mov (.t 26)⟩]
@[go_sem] def value_Valid_r9 : List AI := [
  ⟨(some 27), none, .faddr 1 (.t 1)⟩,
  ⟨(some 28), none, .load 2 true (.t 27)⟩,
  ⟨(some 29), none, .faddr 1 (.t 3)⟩,
  ⟨none, none, .store 2 (.t 29) (.t 28)⟩]
@[go_sem] def value_Valid_r10 : List AI := [
  ⟨(some 30), none, .faddr 1 (.t 1)⟩,
  ⟨(some 31), none, .load 2 true (.t 30)⟩,
  ⟨(some 32), none, .call 46 [(.t 31)]⟩,
  ⟨(some 4), none, .mov (.t 32)⟩]
@[go_sem] def value_Valid_r11 : List AI := [
  ⟨(some 34), none, .bin .eql (.t 9) (.c (.int .i64 3))⟩,
  ⟨(some 33), none, .mov (.t 34)⟩]
@[go_sem] def value_Valid_r12 : List AI := [
  ⟨(some 35), none, .faddr 3 (.t 1)⟩,
  ⟨(some 36), none, .load 1 false (.t 35)⟩,
  ⟨(some 37), none, .faddr 3 (.t 3)⟩,
  ⟨none, none, .store 1 (.t 37) (.t 36)⟩]
@[go_sem] def value_Valid_r13 : List AI := [
  ⟨(some 38), none, .faddr 3 (.t 1)⟩,
  ⟨(some 39), none, .load 1 false (.t 38)⟩,
  ⟨(some 40), none, .len 1 (.t 39)⟩,
  ⟨(some 41), none, .bin .leq (.t 40) (.c (.int .i64 4096))⟩,
  ⟨(some 4), none, .mov (.t 41)⟩]
@[go_sem] def value_Valid_r14 : List AI := [
  ⟨(some 43), none, .bin .eql (.t 9) (.c (.int .i64 4))⟩,
  ⟨(some 42), none, .mov (.t 43)⟩]
@[go_sem] def value_Valid_r15 : List AI := [
  ⟨(some 44), none, .bin .eql (.t 9) (.c (.int .i64 5))⟩,
  ⟨(some 42), none, .mov (.t 44)⟩]
@[go_sem] def value_Valid_r16 : List AI := [
  ⟨(some 45), none, .bin .eql (.t 9) (.c (.int .i64 7))⟩,
  ⟨(some 42), none, .mov (.t 45)⟩]
@[go_sem] def value_Valid_r17 : List AI := [
  ⟨(some 46), none, .bin .eql (.t 9) (.c (.int .i64 8))⟩,
  ⟨(some 42), none, .mov (.t 46)⟩]
@[go_sem] def value_Valid_r18 : List AI := [
  ⟨(some 47), none, .faddr 4 (.t 1)⟩,
  ⟨(some 48), none, .load 1 false (.t 47)⟩,
  ⟨(some 49), none, .faddr 4 (.t 3)⟩,
  ⟨none, none, .store 1 (.t 49) (.t 48)⟩]
@[go_sem] def value_Valid_r19 : List AI := [
  ⟨(some 50), none, .faddr 4 (.t 1)⟩,
  ⟨(some 51), none, .load 1 false (.t 50)⟩,
  ⟨(some 52), none, .bin .geq (.t 51) (.c (.int .i64 1))⟩,
  ⟨(some 4), none, .mov (.t 52)⟩]
@[go_sem] def value_Valid_r20 : List AI := [
  ⟨(some 54), none, .bin .eql (.t 9) (.c (.int .i64 6))⟩,
  ⟨(some 53), none, .mov (.t 54)⟩]
@[go_sem] def value_Valid_r21 : List AI := [
  ⟨(some 55), none, .faddr 3 (.t 1)⟩,
  ⟨(some 56), none, .load 1 false (.t 55)⟩,
  ⟨(some 57), none, .faddr 3 (.t 3)⟩,
  ⟨none, none, .store 1 (.t 57) (.t 56)⟩]
@[go_sem] def value_Valid_r22 : List AI := [
  ⟨(some 58), none, .faddr 3 (.t 1)⟩,
  ⟨(some 59), none, .load 1 false (.t 58)⟩,
  ⟨(some 60), none, .len 1 (.t 59)⟩,
  ⟨(some 61), none, .bin .geq (.t 60) (.c (.int .i64 1))⟩,
  ⟨(some 62), none, .mov (.t 61)⟩,
  ⟨(some 63), (some (62, true)), .faddr 3 (.t 1)⟩,
  ⟨(some 64), (some (62, true)), .load 1 false (.t 63)⟩,
  ⟨(some 65), (some (62, true)), .len 1 (.t 64)⟩,
  ⟨(some 66), (some (62, true)), .bin .leq (.t 65) (.c (.int .i64 4096))⟩,
  ⟨(some 67), none, .pick (.t 62) (.t 66) (.c (.bool false))⟩,
  ⟨(some 4), none, .mov (.t 67)⟩]
@[go_sem] def value_Valid_r23 : List AI := [
  ⟨(some 4), none, .mov (.c (.bool false))⟩]
@[go_sem] def value_Valid_r24 : List AI := [
  ⟨(some 68), none, .mov (.t 4)⟩,
  ⟨(some 69), none, .mov (.t 68)⟩,
  ⟨(some 70), (some (69, true)), .load 5 true (.t 1)⟩,
  ⟨(some 71), (some (69, true)), .load 5 true (.t 3)⟩,
  ⟨(some 72), (some (69, true)), .eqa false (.agg [(0, 1, (.leaf 1)), (1, 2, (.agg [(0, 1, (.leaf 1)), (1, 1, (.leaf 1))])), (3, 1, (.leaf 2)), (4, 1, (.leaf 1))]) (.t 70) (.t 71)⟩,
  ⟨(some 73), none, .pick (.t 69) (.t 72) (.c (.bool false))⟩,
  ⟨(some 2), none, .mov (.t 73)⟩]
@[go_sem] def value_Valid_c : AC := .seq (.ops [value_Valid_r0]) (.seq (.ops [value_Valid_r1]) (.seq (.ops [value_Valid_r2]) (.seq (.seq (.ops [value_Valid_r3]) (.block 0 (.seq (.ops [value_Valid_r4]) (.cond (.t 10) (.skip) (.seq (.ops [value_Valid_r5]) (.cond (.t 12) (.seq (.ops [value_Valid_r6]) (.ops [value_Valid_r7])) (.seq (.ops [value_Valid_r8]) (.cond (.t 25) (.seq (.ops [value_Valid_r9]) (.ops [value_Valid_r10])) (.seq (.ops [value_Valid_r11]) (.cond (.t 33) (.seq (.ops [value_Valid_r12]) (.ops [value_Valid_r13])) (.seq (.seq (.ops [value_Valid_r14]) (.cond (.t 42) (.skip) (.seq (.ops [value_Valid_r15]) (.cond (.t 42) (.skip) (.seq (.ops [value_Valid_r16]) (.cond (.t 42) (.skip) (.ops [value_Valid_r17]))))))) (.cond (.t 42) (.seq (.ops [value_Valid_r18]) (.ops [value_Valid_r19])) (.seq (.ops [value_Valid_r20]) (.cond (.t 53) (.seq (.ops [value_Valid_r21]) (.ops [value_Valid_r22])) (.ops [value_Valid_r23]))))))))))))))) (.seq (.ops [value_Valid_r24]) (.ret)))))
theorem value_Valid_ok : compF Try.prog 28 = some (74, value_Valid_c, [.t 2]) := by kernel_rfl

@[go_sem] def registry_Registry_used_r0 : List AI := [
  ⟨(some 4), none, .mov (.c (.bool false))⟩]
@[go_sem] def registry_Registry_used_r1 : List AI := [
  ⟨(some 5), none, .mov (.t 1)⟩,
  ⟨(some 6), none, .bin .geq (.t 5) (.c (.int .i64 1))⟩,
  ⟨(some 7), none, .mov (.t 6)⟩,
  ⟨(some 8), (some (7, true)), .mov (.t 1)⟩,
  ⟨(some 9), (some (7, true)), .mov (.t 0)⟩,
  ⟨(some 10), (some (7, true)), .nilck (.t 9)⟩,
  ⟨(some 11), (some (7, true)), .faddr 0 (.t 10)⟩,
  ⟨(some 12), (some (7, true)), .load 1 false (.t 11)⟩,
  ⟨(some 13), (some (7, true)), .len 0 (.t 12)⟩,
  ⟨(some 14), (some (7, true)), .bin .leq (.t 8) (.t 13)⟩,
  ⟨(some 15), none, .pick (.t 7) (.t 14) (.c (.bool false))⟩,
  ⟨(some 16), none, .mov (.t 15)⟩,
  ⟨(some 17), (some (16, true)), .mov (.t 0)⟩,
  ⟨(some 18), (some (16, true)), .nilck (.t 17)⟩,
  ⟨(some 19), (some (16, true)), .faddr 0 (.t 18)⟩,
  ⟨(some 20), (some (16, true)), .load 1 false (.t 19)⟩,
  ⟨(some 21), (some (16, true)), .mov (.t 1)⟩,
  ⟨(some 22), (some (16, true)), .bin .sub (.t 21) (.c (.int .i64 1))⟩,
  ⟨(some 23), (some (16, true)), .iaddr 5 (.t 20) (.t 22)⟩,
  ⟨(some 24), (some (16, true)), .faddr 0 (.t 23)⟩,
  ⟨(some 25), (some (16, true)), .load 1 false (.t 24)⟩,
  ⟨(some 26), (some (16, true)), .bin .neq (.t 25) (.c (.int .i64 0))⟩,
  ⟨(some 27), none, .pick (.t 16) (.t 26) (.c (.bool false))⟩,
  ⟨(some 4), none, .mov (.t 27)⟩]
@[go_sem] def registry_Registry_used_c : AC := .seq (.ops [registry_Registry_used_r0]) (.seq (.ops [registry_Registry_used_r1]) (.ret))
theorem registry_Registry_used_ok : compF Try.prog 29 = some (28, registry_Registry_used_c, [.t 4]) := by kernel_rfl

@[go_sem] def scriptingref01_Valid_r0 : List AI := [
  ⟨(some 1), none, .box 300001 2 (.t 0)⟩,
  ⟨(some 2), none, .mov (.c (.bool false))⟩]
@[go_sem] def scriptingref01_Valid_r1_0 : List AI := [
  ⟨(some 3), none, .faddr 1 (.t 1)⟩,
  ⟨(some 4), none, .load 1 false (.t 3)⟩,
  ⟨(some 5), none, .bin .geq (.t 4) (.c (.int .i64 1))⟩,
  ⟨(some 6), none, .mov (.t 5)⟩,
  ⟨(some 7), (some (6, true)), .faddr 1 (.t 1)⟩,
  ⟨(some 8), (some (6, true)), .load 1 false (.t 7)⟩,
  ⟨(some 9), (some (6, true)), .bin .leq (.t 8) (.c (.int .i64 2147483647))⟩,
  ⟨(some 10), none, .pick (.t 6) (.t 9) (.c (.bool false))⟩,
  ⟨(some 11), none, .mov (.t 10)⟩,
  ⟨(some 12), (some (11, true)), .faddr 0 (.t 1)⟩,
  ⟨(some 13), (some (11, true)), .load 1 false (.t 12)⟩,
  ⟨(some 14), (some (11, true)), .bin .leq (.t 13) (.c (.int .i64 2147483647))⟩,
  ⟨(some 15), none, .pick (.t 11) (.t 14) (.c (.bool false))⟩,
  ⟨(some 16), none, .mov (.t 15)⟩,
  ⟨(some 17), (some (16, true)), .faddr 0 (.t 1)⟩,
  ⟨(some 18), (some (16, true)), .load 1 false (.t 17)⟩,
  ⟨(some 19), (some (16, true)), .bin .geq (.t 18) (.c (.int .i64 (-2147483647)))⟩,
  ⟨(some 20), none, .pick (.t 16) (.t 19) (.c (.bool false))⟩,
  ⟨(some 21), none, .mov (.t 20)⟩,
  ⟨(some 22), (some (21, true)), .faddr 0 (.t 1)⟩,
  ⟨(some 23), (some (21, true)), .load 1 false (.t 22)⟩,
  ⟨(some 25), (some (21, true)), .faddr 1 (.t 1)⟩,
  ⟨(some 26), (some (21, true)), .load 1 false (.t 25)⟩,
  ⟨(some 24), (some (21, true)), .call 48 [(.t 23)]⟩,
  ⟨(some 27), (some (21, true)), .call 47 [(.t 24), (.t 26)]⟩,
  ⟨(some 28), (some (21, true)), .bin .eql (.t 27) (.c (.int .i64 1))⟩,
  ⟨(some 29), none, .pick (.t 21) (.t 28) (.c (.bool false))⟩,
  ⟨(some 2), none, .mov (.t 29)⟩]
@[go_sem] def scriptingref01_Valid_r1_1 : List AI := [
  ⟨(some 3), none, .faddr 1 (.t 1)⟩,
  ⟨(some 4), none, .load 1 false (.t 3)⟩,
  ⟨(some 5), none, .bin .geq (.t 4) (.c (.int .i64 1))⟩,
  ⟨(some 6), none, .mov (.t 5)⟩,
  ⟨(some 7), (some (6, true)), .faddr 1 (.t 1)⟩,
  ⟨(some 8), (some (6, true)), .load 1 false (.t 7)⟩,
  ⟨(some 9), (some (6, true)), .bin .leq (.t 8) (.c (.int .i64 2147483647))⟩,
  ⟨(some 10), none, .pick (.t 6) (.t 9) (.c (.bool false))⟩,
  ⟨(some 11), none, .mov (.t 10)⟩,
  ⟨(some 12), (some (11, true)), .faddr 0 (.t 1)⟩,
  ⟨(some 13), (some (11, true)), .load 1 false (.t 12)⟩,
  ⟨(some 14), (some (11, true)), .bin .leq (.t 13) (.c (.int .i64 2147483647))⟩,
  ⟨(some 15), none, .pick (.t 11) (.t 14) (.c (.bool false))⟩,
  ⟨(some 16), none, .mov (.t 15)⟩,
  ⟨(some 17), (some (16, true)), .faddr 0 (.t 1)⟩,
  ⟨(some 18), (some (16, true)), .load 1 false (.t 17)⟩,
  ⟨(some 19), (some (16, true)), .bin .geq (.t 18) (.c (.int .i64 (-2147483647)))⟩,
  ⟨(some 20), none, .pick (.t 16) (.t 19) (.c (.bool false))⟩,
  ⟨(some 21), none, .mov (.t 20)⟩,
  ⟨(some 22), (some (21, true)), .faddr 0 (.t 1)⟩,
  ⟨(some 23), (some (21, true)), .load 1 false (.t 22)⟩,
  ⟨(some 25), (some (21, true)), .faddr 1 (.t 1)⟩,
  ⟨(some 24), (some (21, true)), .call 48 [(.t 23)]⟩,
  ⟨(some 26), (some (21, true)), .load 1 false (.t 25)⟩,
  ⟨(some 27), (some (21, true)), .call 47 [(.t 24), (.t 26)]⟩,
  ⟨(some 28), (some (21, true)), .bin .eql (.t 27) (.c (.int .i64 1))⟩,
  ⟨(some 29), none, .pick (.t 21) (.t 28) (.c (.bool false))⟩,
  ⟨(some 2), none, .mov (.t 29)⟩]
@[go_sem] def scriptingref01_Valid_c : AC := .seq (.ops [scriptingref01_Valid_r0]) (.seq (.ops [scriptingref01_Valid_r1_0, scriptingref01_Valid_r1_1]) (.ret))
theorem scriptingref01_Valid_ok : compF Try.prog 30 = some (30, scriptingref01_Valid_c, [.t 2]) := by kernel_rfl

@[go_sem] def scriptingref18_Registry_Ref_r0 : List AI := [
  ⟨(some 3), none, .box 310003 5 (.t 1)⟩,
  ⟨(some 4), none, .mov (.c (.int .i64 0))⟩,
  ⟨(some 5), none, .mov (.c (.int .i64 0))⟩]
@[go_sem] def scriptingref18_Registry_Ref_r1 : List AI := [
  ⟨(some 8), none, .mov (.t 0)⟩,
  ⟨(some 9), none, .eqp 0 false (.t 8) (.c .nilp)⟩]
@[go_sem] def scriptingref18_Registry_Ref_r2 : List AI := [
  ⟨(some 4), none, .mov (.c (.int .i64 0))⟩,
  ⟨(some 5), none, .mov (.c (.int .i64 1))⟩]
@[go_sem] def scriptingref18_Registry_Ref_r3 : List AI := [
  ⟨(some 10), none, .load 5 true (.t 3)⟩,
  ⟨(some 11), none, .call 17 [(.t 10)]⟩,
  ⟨(some 12), none, .un .not (.t 11)⟩]
@[go_sem] def scriptingref18_Registry_Ref_r4 : List AI := [
  ⟨(some 4), none, .mov (.c (.int .i64 0))⟩,
  ⟨(some 5), none, .mov (.c (.int .i64 2))⟩]
@[go_sem] def scriptingref18_Registry_Ref_r5 : List AI := [
  ⟨(some 13), none, .faddr 0 (.t 3)⟩,
  ⟨(some 14), none, .load 1 false (.t 13)⟩,
  ⟨(some 15), none, .bin .eql (.t 14) (.c (.int .i64 0))⟩]
@[go_sem] def scriptingref18_Registry_Ref_r6 : List AI := [
  ⟨(some 4), none, .mov (.c (.int .i64 0))⟩,
  ⟨(some 5), none, .mov (.c (.int .i64 0))⟩]
@[go_sem] def scriptingref18_Registry_Ref_r7 : List AI := [
  ⟨(some 16), none, .mov (.t 0)⟩,
  ⟨(some 17), none, .call 49 [(.t 16)]⟩,
  ⟨(some 18), none, .bin .geq (.t 17) (.c (.int .i64 1000))⟩]
@[go_sem] def scriptingref18_Registry_Ref_r8 : List AI := [
  ⟨(some 4), none, .mov (.c (.int .i64 0))⟩,
  ⟨(some 5), none, .mov (.c (.int .i64 17))⟩]
@[go_sem] def scriptingref18_Registry_Ref_r9 : List AI := [
  ⟨(some 19), none, .mov (.t 0)⟩,
  ⟨(some 20), none, .nilck (.t 19)⟩,
  ⟨(some 21), none, .faddr 1 (.t 20)⟩,
  ⟨(some 22), none, .load 1 false (.t 21)⟩,
  ⟨(some 23), none, .len 0 (.t 22)⟩,
  ⟨(some 6), none, .mov (.t 23)⟩]
@[go_sem] def scriptingref18_Registry_Ref_r10 : List AI := [
  ⟨(some 24), none, .mov (.t 6)⟩,
  ⟨(some 25), none, .bin .gtr (.t 24) (.c (.int .i64 0))⟩]
@[go_sem] def scriptingref18_Registry_Ref_r11 : List AI := [
  ⟨(some 26), none, .mov (.t 0)⟩,
  ⟨(some 27), none, .nilck (.t 26)⟩,
  ⟨(some 28), none, .faddr 1 (.t 27)⟩,
  ⟨(some 29), none, .load 1 false (.t 28)⟩,
  ⟨(some 30), none, .mov (.t 6)⟩,
  ⟨(some 31), none, .bin .sub (.t 30) (.c (.int .i64 1))⟩,
  ⟨(some 32), none, .iaddr 1 (.t 29) (.t 31)⟩,
  ⟨(some 33), none, .load 1 false (.t 32)⟩,
  ⟨(some 7), none, .mov (.t 33)⟩]
@[go_sem] def scriptingref18_Registry_Ref_r12 : List AI := [
  ⟨(some 34), none, .mov (.t 0)⟩,
  ⟨(some 35), none, .mov (.t 0)⟩,
  ⟨(some 36), none, .nilck (.t 35)⟩,
  ⟨(some 37), none, .faddr 1 (.t 36)⟩,
  ⟨(some 38), none, .load 1 false (.t 37)⟩,
  ⟨(some 39), none, .mov (.t 6)⟩,
  ⟨(some 40), none, .bin .sub (.t 39) (.c (.int .i64 1))⟩,
  ⟨(some 41), none, .slc 1 (.t 38) none (some (.t 40))⟩,
  ⟨(some 42), none, .nilck (.t 34)⟩,
  ⟨(some 43), none, .faddr 1 (.t 42)⟩,
  ⟨none, none, .store 1 (.t 43) (.t 41)⟩]
@[go_sem] def scriptingref18_Registry_Ref_r13 : List AI := [
  ⟨(some 44), none, .mov (.t 0)⟩,
  ⟨(some 45), none, .nilck (.t 44)⟩,
  ⟨(some 46), none, .faddr 0 (.t 45)⟩,
  ⟨(some 47), none, .load 1 false (.t 46)⟩,
  ⟨(some 48), none, .mov (.t 7)⟩,
  ⟨(some 49), none, .bin .sub (.t 48) (.c (.int .i64 1))⟩,
  ⟨(some 50), none, .load 5 true (.t 3)⟩,
  ⟨(some 51), none, .iaddr 5 (.t 47) (.t 49)⟩,
  ⟨none, none, .store 5 (.t 51) (.t 50)⟩]
@[go_sem] def scriptingref18_Registry_Ref_r14 : List AI := [
  ⟨(some 52), none, .mov (.t 7)⟩,
  ⟨(some 4), none, .mov (.t 52)⟩,
  ⟨(some 5), none, .mov (.c (.int .i64 0))⟩]
@[go_sem] def scriptingref18_Registry_Ref_r15 : List AI := [
  ⟨(some 53), none, .mov (.t 0)⟩,
  ⟨(some 54), none, .mov (.t 0)⟩,
  ⟨(some 55), none, .nilck (.t 54)⟩,
  ⟨(some 56), none, .faddr 0 (.t 55)⟩,
  ⟨(some 57), none, .load 1 false (.t 56)⟩,
  ⟨(some 58), none, .load 5 true (.t 3)⟩,
  ⟨(some 59), none, .mkisl 5 [(.t 58)]⟩,
  ⟨(some 60), none, .app 310060 5 (.t 57) (.t 59)⟩,
  ⟨(some 61), none, .nilck (.t 53)⟩,
  ⟨(some 62), none, .faddr 0 (.t 61)⟩,
  ⟨none, none, .store 1 (.t 62) (.t 60)⟩]
@[go_sem] def scriptingref18_Registry_Ref_r16 : List AI := [
  ⟨(some 63), none, .mov (.t 0)⟩,
  ⟨(some 64), none, .nilck (.t 63)⟩,
  ⟨(some 65), none, .faddr 0 (.t 64)⟩,
  ⟨(some 66), none, .load 1 false (.t 65)⟩,
  ⟨(some 67), none, .len 0 (.t 66)⟩,
  ⟨(some 4), none, .mov (.t 67)⟩,
  ⟨(some 5), none, .mov (.c (.int .i64 0))⟩]
@[go_sem] def scriptingref18_Registry_Ref_c : AC := .seq (.ops [scriptingref18_Registry_Ref_r0]) (.seq (.seq (.ops [scriptingref18_Registry_Ref_r1]) (.cond (.t 9) (.seq (.ops [scriptingref18_Registry_Ref_r2]) (.ret)) (.skip))) (.seq (.seq (.ops [scriptingref18_Registry_Ref_r3]) (.cond (.t 12) (.seq (.ops [scriptingref18_Registry_Ref_r4]) (.ret)) (.skip))) (.seq (.seq (.ops [scriptingref18_Registry_Ref_r5]) (.cond (.t 15) (.seq (.ops [scriptingref18_Registry_Ref_r6]) (.ret)) (.skip))) (.seq (.seq (.ops [scriptingref18_Registry_Ref_r7]) (.cond (.t 18) (.seq (.ops [scriptingref18_Registry_Ref_r8]) (.ret)) (.skip))) (.seq (.seq (.ops [scriptingref18_Registry_Ref_r9]) (.seq (.ops [scriptingref18_Registry_Ref_r10]) (.cond (.t 25) (.seq (.ops [scriptingref18_Registry_Ref_r11]) (.seq (.ops [scriptingref18_Registry_Ref_r12]) (.seq (.ops [scriptingref18_Registry_Ref_r13]) (.seq (.ops [scriptingref18_Registry_Ref_r14]) (.ret))))) (.skip)))) (.seq (.ops [scriptingref18_Registry_Ref_r15]) (.seq (.ops [scriptingref18_Registry_Ref_r16]) (.ret))))))))
theorem scriptingref18_Registry_Ref_ok : compF Try.prog 31 = some (68, scriptingref18_Registry_Ref_c, [.t 4, .t 5]) := by kernel_rfl

@[go_sem] def scriptingref18_Registry_Unref_r0 : List AI := [
  ⟨(some 4), none, .mov (.c (.int .i64 0))⟩]
@[go_sem] def scriptingref18_Registry_Unref_r1 : List AI := [
  ⟨(some 5), none, .mov (.t 0)⟩,
  ⟨(some 6), none, .eqp 0 false (.t 5) (.c .nilp)⟩]
@[go_sem] def scriptingref18_Registry_Unref_r2 : List AI := [
  ⟨(some 4), none, .mov (.c (.int .i64 1))⟩]
@[go_sem] def scriptingref18_Registry_Unref_r3 : List AI := [
  ⟨(some 7), none, .mov (.t 1)⟩,
  ⟨(some 8), none, .bin .eql (.t 7) (.c (.int .i64 0))⟩]
@[go_sem] def scriptingref18_Registry_Unref_r4 : List AI := [
  ⟨(some 4), none, .mov (.c (.int .i64 0))⟩]
@[go_sem] def scriptingref18_Registry_Unref_r5 : List AI := [
  ⟨(some 9), none, .mov (.t 0)⟩,
  ⟨(some 10), none, .mov (.t 1)⟩,
  ⟨(some 11), none, .call 50 [(.t 9), (.t 10)]⟩,
  ⟨(some 12), none, .un .not (.t 11)⟩]
@[go_sem] def scriptingref18_Registry_Unref_r6 : List AI := [
  ⟨(some 4), none, .mov (.c (.int .i64 6))⟩]
@[go_sem] def scriptingref18_Registry_Unref_r7 : List AI := [
  ⟨(some 13), none, .mov (.t 0)⟩,
  ⟨(some 14), none, .nilck (.t 13)⟩,
  ⟨(some 15), none, .faddr 0 (.t 14)⟩,
  ⟨(some 16), none, .load 1 false (.t 15)⟩,
  ⟨(some 17), none, .mov (.t 1)⟩,
  ⟨(some 18), none, .bin .sub (.t 17) (.c (.int .i64 1))⟩,
  ⟨(some 19), none, .build [(.int .i64 0), (.int .i64 0), (.int .i64 0), (.str []), (.int .i64 0)] []⟩,
  ⟨(some 20), none, .iaddr 5 (.t 16) (.t 18)⟩,
  ⟨none, none, .store 5 (.t 20) (.t 19)⟩]
@[go_sem] def scriptingref18_Registry_Unref_r8 : List AI := [
  ⟨(some 21), none, .mov (.t 0)⟩,
  ⟨(some 22), none, .mov (.t 0)⟩,
  ⟨(some 23), none, .nilck (.t 22)⟩,
  ⟨(some 24), none, .faddr 1 (.t 23)⟩,
  ⟨(some 25), none, .load 1 false (.t 24)⟩,
  ⟨(some 26), none, .mov (.t 1)⟩,
  ⟨(some 27), none, .mkisl 1 [(.t 26)]⟩,
  ⟨(some 28), none, .app 320028 1 (.t 25) (.t 27)⟩,
  ⟨(some 29), none, .nilck (.t 21)⟩,
  ⟨(some 30), none, .faddr 1 (.t 29)⟩,
  ⟨none, none, .store 1 (.t 30) (.t 28)⟩]
@[go_sem] def scriptingref18_Registry_Unref_r9 : List AI := [
  ⟨(some 4), none, .mov (.c (.int .i64 0))⟩]
@[go_sem] def scriptingref18_Registry_Unref_c : AC := .seq (.ops [scriptingref18_Registry_Unref_r0]) (.seq (.seq (.ops [scriptingref18_Registry_Unref_r1]) (.cond (.t 6) (.seq (.ops [scriptingref18_Registry_Unref_r2]) (.ret)) (.skip))) (.seq (.seq (.ops [scriptingref18_Registry_Unref_r3]) (.cond (.t 8) (.seq (.ops [scriptingref18_Registry_Unref_r4]) (.ret)) (.skip))) (.seq (.seq (.ops [scriptingref18_Registry_Unref_r5]) (.cond (.t 12) (.seq (.ops [scriptingref18_Registry_Unref_r6]) (.ret)) (.skip))) (.seq (.ops [scriptingref18_Registry_Unref_r7]) (.seq (.ops [scriptingref18_Registry_Unref_r8]) (.seq (.ops [scriptingref18_Registry_Unref_r9]) (.ret)))))))
theorem scriptingref18_Registry_Unref_ok : compF Try.prog 32 = some (31, scriptingref18_Registry_Unref_c, [.t 4]) := by kernel_rfl

@[go_sem] def scriptingref18_Registry_Value_r0 : List AI := [
  ⟨(some 4), none, .box 330004 5 (.c (.agg [(.int .i64 0), (.int .i64 0), (.int .i64 0), (.str []), (.int .i64 0)]))⟩,
  ⟨(some 5), none, .mov (.c (.int .i64 0))⟩]
@[go_sem] def scriptingref18_Registry_Value_r1 : List AI := [
  ⟨(some 6), none, .mov (.t 0)⟩,
  ⟨(some 7), none, .eqp 0 false (.t 6) (.c .nilp)⟩]
@[go_sem] def scriptingref18_Registry_Value_r2 : List AI := [
  ⟨(some 8), none, .build [(.int .i64 0), (.int .i64 0), (.int .i64 0), (.str []), (.int .i64 0)] []⟩,
  ⟨none, none, .store 5 (.t 4) (.t 8)⟩,
  ⟨(some 5), none, .mov (.c (.int .i64 1))⟩]
@[go_sem] def scriptingref18_Registry_Value_r3 : List AI := [
  ⟨(some 9), none, .mov (.t 1)⟩,
  ⟨(some 10), none, .bin .eql (.t 9) (.c (.int .i64 0))⟩]
@[go_sem] def scriptingref18_Registry_Value_r4 : List AI := [
  ⟨(some 11), none, .build [(.int .i64 0), (.int .i64 0), (.int .i64 0), (.str []), (.int .i64 0)] []⟩,
  ⟨none, none, .store 5 (.t 4) (.t 11)⟩,
  ⟨(some 5), none, .mov (.c (.int .i64 0))⟩]
@[go_sem] def scriptingref18_Registry_Value_r5 : List AI := [
  ⟨(some 12), none, .mov (.t 0)⟩,
  ⟨(some 13), none, .mov (.t 1)⟩,
  ⟨(some 14), none, .call 50 [(.t 12), (.t 13)]⟩,
  ⟨(some 15), none, .un .not (.t 14)⟩]
@[go_sem] def scriptingref18_Registry_Value_r6 : List AI := [
  ⟨(some 16), none, .build [(.int .i64 0), (.int .i64 0), (.int .i64 0), (.str []), (.int .i64 0)] []⟩,
  ⟨none, none, .store 5 (.t 4) (.t 16)⟩,
  ⟨(some 5), none, .mov (.c (.int .i64 6))⟩]
@[go_sem] def scriptingref18_Registry_Value_r7 : List AI := [
  ⟨(some 17), none, .mov (.t 0)⟩,
  ⟨(some 18), none, .nilck (.t 17)⟩,
  ⟨(some 19), none, .faddr 0 (.t 18)⟩,
  ⟨(some 20), none, .load 1 false (.t 19)⟩,
  ⟨(some 21), none, .mov (.t 1)⟩,
  ⟨(some 22), none, .bin .sub (.t 21) (.c (.int .i64 1))⟩,
  ⟨(some 23), none, .iaddr 5 (.t 20) (.t 22)⟩,
  ⟨(some 24), none, .load 5 true (.t 23)⟩,
  ⟨none, none, .store 5 (.t 4) (.t 24)⟩,
  ⟨(some 5), none, .mov (.c (.int .i64 0))⟩]
@[go_sem] def scriptingref18_Registry_Value_c : AC := .seq (.ops [scriptingref18_Registry_Value_r0]) (.seq (.seq (.ops [scriptingref18_Registry_Value_r1]) (.cond (.t 7) (.seq (.ops [scriptingref18_Registry_Value_r2]) (.ret)) (.skip))) (.seq (.seq (.ops [scriptingref18_Registry_Value_r3]) (.cond (.t 10) (.seq (.ops [scriptingref18_Registry_Value_r4]) (.ret)) (.skip))) (.seq (.seq (.ops [scriptingref18_Registry_Value_r5]) (.cond (.t 15) (.seq (.ops [scriptingref18_Registry_Value_r6]) (.ret)) (.skip))) (.seq (.ops [scriptingref18_Registry_Value_r7]) (.ret)))))
theorem scriptingref18_Registry_Value_ok : compF Try.prog 33 = some (25, scriptingref18_Registry_Value_c, [.c 4 5 true, .t 5]) := by kernel_rfl

@[go_sem] def scriptingref18_Registry_Put_r0 : List AI := [
  ⟨(some 5), none, .box 340005 5 (.t 2)⟩,
  ⟨(some 6), none, .mov (.c (.int .i64 0))⟩]
@[go_sem] def scriptingref18_Registry_Put_r1 : List AI := [
  ⟨(some 9), none, .mov (.t 0)⟩,
  ⟨(some 10), none, .eqp 0 false (.t 9) (.c .nilp)⟩]
@[go_sem] def scriptingref18_Registry_Put_r2 : List AI := [
  ⟨(some 6), none, .mov (.c (.int .i64 1))⟩]
@[go_sem] def scriptingref18_Registry_Put_r3 : List AI := [
  ⟨(some 11), none, .mov (.t 1)⟩,
  ⟨(some 12), none, .len 1 (.t 11)⟩,
  ⟨(some 13), none, .bin .gtr (.t 12) (.c (.int .i64 4096))⟩]
@[go_sem] def scriptingref18_Registry_Put_r4 : List AI := [
  ⟨(some 6), none, .mov (.c (.int .i64 14))⟩]
@[go_sem] def scriptingref18_Registry_Put_r5 : List AI := [
  ⟨(some 14), none, .load 5 true (.t 5)⟩,
  ⟨(some 15), none, .call 17 [(.t 14)]⟩,
  ⟨(some 16), none, .un .not (.t 15)⟩]
@[go_sem] def scriptingref18_Registry_Put_r6 : List AI := [
  ⟨(some 6), none, .mov (.c (.int .i64 2))⟩]
@[go_sem] def scriptingref18_Registry_Put_r7 : List AI := [
  ⟨(some 17), none, .mov (.t 0)⟩,
  ⟨(some 18), none, .mov (.t 1)⟩,
  ⟨(some 19), none, .call 51 [(.t 17), (.t 18)]⟩,
  ⟨(some 7), none, .mov (.t 19)⟩]
@[go_sem] def scriptingref18_Registry_Put_r8 : List AI := [
  ⟨(some 20), none, .faddr 0 (.t 5)⟩,
  ⟨(some 21), none, .load 1 false (.t 20)⟩,
  ⟨(some 22), none, .bin .eql (.t 21) (.c (.int .i64 0))⟩]
@[go_sem] def scriptingref18_Registry_Put_r9 : List AI := [
  ⟨(some 23), none, .mov (.t 7)⟩,
  ⟨(some 24), none, .bin .geq (.t 23) (.c (.int .i64 0))⟩]
@[go_sem] def scriptingref18_Registry_Put_r10 : List AI := [
  ⟨(some 25), none, .mkrow 340025 6 []⟩,
  ⟨(some 26), none, .mov (.t 0)⟩,
  ⟨(some 27), none, .nilck (.t 26)⟩,
  ⟨(some 28), none, .faddr 2 (.t 27)⟩,
  ⟨(some 29), none, .load 1 false (.t 28)⟩,
  ⟨(some 30), none, .mov (.t 7)⟩,
  ⟨(some 31), none, .slc 6 (.t 29) none (some (.t 30))⟩,
  ⟨(some 32), none, .app 340032 6 (.t 25) (.t 31)⟩,
  ⟨(some 8), none, .mov (.t 32)⟩]
@[go_sem] def scriptingref18_Registry_Put_r11 : List AI := [
  ⟨(some 33), none, .mov (.t 0)⟩,
  ⟨(some 34), none, .mov (.t 8)⟩,
  ⟨(some 35), none, .mov (.t 0)⟩,
  ⟨(some 36), none, .nilck (.t 35)⟩,
  ⟨(some 37), none, .faddr 2 (.t 36)⟩,
  ⟨(some 38), none, .load 1 false (.t 37)⟩,
  ⟨(some 39), none, .mov (.t 7)⟩,
  ⟨(some 40), none, .bin .add (.t 39) (.c (.int .i64 1))⟩,
  ⟨(some 41), none, .slc 6 (.t 38) (some (.t 40)) none⟩,
  ⟨(some 42), none, .app 340042 6 (.t 34) (.t 41)⟩,
  ⟨(some 43), none, .nilck (.t 33)⟩,
  ⟨(some 44), none, .faddr 2 (.t 43)⟩,
  ⟨none, none, .store 1 (.t 44) (.t 42)⟩]
@[go_sem] def scriptingref18_Registry_Put_r12 : List AI := [
  ⟨(some 6), none, .mov (.c (.int .i64 0))⟩]
@[go_sem] def scriptingref18_Registry_Put_r13 : List AI := [
  ⟨(some 45), none, .mov (.t 7)⟩,
  ⟨(some 46), none, .bin .geq (.t 45) (.c (.int .i64 0))⟩]
@[go_sem] def scriptingref18_Registry_Put_r14 : List AI := [
  ⟨(some 47), none, .mov (.t 0)⟩,
  ⟨(some 48), none, .nilck (.t 47)⟩,
  ⟨(some 49), none, .faddr 2 (.t 48)⟩,
  ⟨(some 50), none, .load 1 false (.t 49)⟩,
  ⟨(some 51), none, .mov (.t 7)⟩,
  ⟨(some 52), none, .load 5 true (.t 5)⟩,
  ⟨(some 53), none, .iaddr 6 (.t 50) (.t 51)⟩,
  ⟨(some 54), none, .faddr 1 (.t 53)⟩,
  ⟨none, none, .store 5 (.t 54) (.t 52)⟩]
@[go_sem] def scriptingref18_Registry_Put_r15 : List AI := [
  ⟨(some 6), none, .mov (.c (.int .i64 0))⟩]
@[go_sem] def scriptingref18_Registry_Put_r16 : List AI := [
  ⟨(some 55), none, .mov (.t 0)⟩,
  ⟨(some 56), none, .nilck (.t 55)⟩,
  ⟨(some 57), none, .faddr 2 (.t 56)⟩,
  ⟨(some 58), none, .load 1 false (.t 57)⟩,
  ⟨(some 59), none, .len 0 (.t 58)⟩,
  ⟨(some 60), none, .bin .geq (.t 59) (.c (.int .i64 1000))⟩]
@[go_sem] def scriptingref18_Registry_Put_r17 : List AI := [
  ⟨(some 6), none, .mov (.c (.int .i64 17))⟩]
@[go_sem] def scriptingref18_Registry_Put_r18 : List AI := [
  ⟨(some 61), none, .mov (.t 0)⟩,
  ⟨(some 62), none, .mov (.t 0)⟩,
  ⟨(some 63), none, .nilck (.t 62)⟩,
  ⟨(some 64), none, .faddr 2 (.t 63)⟩,
  ⟨(some 65), none, .load 1 false (.t 64)⟩,
  ⟨(some 66), none, .mov (.t 1)⟩,
  ⟨(some 67), none, .load 5 true (.t 5)⟩,
  ⟨(some 68), none, .build [(.str []), (.int .i64 0), (.int .i64 0), (.int .i64 0), (.str []), (.int .i64 0)] [(0, 1, (.t 66)), (1, 5, (.t 67))]⟩,
  ⟨(some 69), none, .mkisl 6 [(.t 68)]⟩,
  ⟨(some 70), none, .app 340070 6 (.t 65) (.t 69)⟩,
  ⟨(some 71), none, .nilck (.t 61)⟩,
  ⟨(some 72), none, .faddr 2 (.t 71)⟩,
  ⟨none, none, .store 1 (.t 72) (.t 70)⟩]
@[go_sem] def scriptingref18_Registry_Put_r19 : List AI := [
  ⟨(some 6), none, .mov (.c (.int .i64 0))⟩]
@[go_sem] def scriptingref18_Registry_Put_c : AC := .seq (.ops [scriptingref18_Registry_Put_r0]) (.seq (.seq (.ops [scriptingref18_Registry_Put_r1]) (.cond (.t 10) (.seq (.ops [scriptingref18_Registry_Put_r2]) (.ret)) (.skip))) (.seq (.seq (.ops [scriptingref18_Registry_Put_r3]) (.cond (.t 13) (.seq (.ops [scriptingref18_Registry_Put_r4]) (.ret)) (.skip))) (.seq (.seq (.ops [scriptingref18_Registry_Put_r5]) (.cond (.t 16) (.seq (.ops [scriptingref18_Registry_Put_r6]) (.ret)) (.skip))) (.seq (.ops [scriptingref18_Registry_Put_r7]) (.seq (.seq (.ops [scriptingref18_Registry_Put_r8]) (.cond (.t 22) (.seq (.seq (.ops [scriptingref18_Registry_Put_r9]) (.cond (.t 24) (.seq (.ops [scriptingref18_Registry_Put_r10]) (.ops [scriptingref18_Registry_Put_r11])) (.skip))) (.seq (.ops [scriptingref18_Registry_Put_r12]) (.ret))) (.skip))) (.seq (.seq (.ops [scriptingref18_Registry_Put_r13]) (.cond (.t 46) (.seq (.ops [scriptingref18_Registry_Put_r14]) (.seq (.ops [scriptingref18_Registry_Put_r15]) (.ret))) (.skip))) (.seq (.seq (.ops [scriptingref18_Registry_Put_r16]) (.cond (.t 60) (.seq (.ops [scriptingref18_Registry_Put_r17]) (.ret)) (.skip))) (.seq (.ops [scriptingref18_Registry_Put_r18]) (.seq (.ops [scriptingref18_Registry_Put_r19]) (.ret))))))))))
theorem scriptingref18_Registry_Put_ok : compF Try.prog 34 = some (73, scriptingref18_Registry_Put_c, [.t 6]) := by kernel_rfl

@[go_sem] def scriptingref18_Registry_Find_r0 : List AI := [
  ⟨(some 4), none, .box 350004 5 (.c (.agg [(.int .i64 0), (.int .i64 0), (.int .i64 0), (.str []), (.int .i64 0)]))⟩,
  ⟨(some 5), none, .mov (.c (.bool false))⟩]
@[go_sem] def scriptingref18_Registry_Find_r1 : List AI := [
  ⟨(some 7), none, .mov (.t 0)⟩,
  ⟨(some 8), none, .eqp 0 false (.t 7) (.c .nilp)⟩]
@[go_sem] def scriptingref18_Registry_Find_r2 : List AI := [
  ⟨(some 9), none, .build [(.int .i64 0), (.int .i64 0), (.int .i64 0), (.str []), (.int .i64 0)] []⟩,
  ⟨none, none, .store 5 (.t 4) (.t 9)⟩,
  ⟨(some 5), none, .mov (.c (.bool false))⟩]
@[go_sem] def scriptingref18_Registry_Find_r3 : List AI := [
  ⟨(some 10), none, .mov (.t 0)⟩,
  ⟨(some 11), none, .mov (.t 1)⟩,
  ⟨(some 12), none, .call 51 [(.t 10), (.t 11)]⟩,
  ⟨(some 6), none, .mov (.t 12)⟩]
@[go_sem] def scriptingref18_Registry_Find_r4 : List AI := [
  ⟨(some 13), none, .mov (.t 6)⟩,
  ⟨(some 14), none, .bin .lss (.t 13) (.c (.int .i64 0))⟩]
@[go_sem] def scriptingref18_Registry_Find_r5 : List AI := [
  ⟨(some 15), none, .build [(.int .i64 0), (.int .i64 0), (.int .i64 0), (.str []), (.int .i64 0)] []⟩,
  ⟨none, none, .store 5 (.t 4) (.t 15)⟩,
  ⟨(some 5), none, .mov (.c (.bool false))⟩]
@[go_sem] def scriptingref18_Registry_Find_r6 : List AI := [
  ⟨(some 16), none, .mov (.t 0)⟩,
  ⟨(some 17), none, .nilck (.t 16)⟩,
  ⟨(some 18), none, .faddr 2 (.t 17)⟩,
  ⟨(some 19), none, .load 1 false (.t 18)⟩,
  ⟨(some 20), none, .mov (.t 6)⟩,
  ⟨(some 21), none, .iaddr 6 (.t 19) (.t 20)⟩,
  ⟨(some 22), none, .faddr 1 (.t 21)⟩,
  ⟨(some 23), none, .load 5 true (.t 22)⟩,
  ⟨none, none, .store 5 (.t 4) (.t 23)⟩,
  ⟨(some 5), none, .mov (.c (.bool true))⟩]
@[go_sem] def scriptingref18_Registry_Find_c : AC := .seq (.ops [scriptingref18_Registry_Find_r0]) (.seq (.seq (.ops [scriptingref18_Registry_Find_r1]) (.cond (.t 8) (.seq (.ops [scriptingref18_Registry_Find_r2]) (.ret)) (.skip))) (.seq (.ops [scriptingref18_Registry_Find_r3]) (.seq (.seq (.ops [scriptingref18_Registry_Find_r4]) (.cond (.t 14) (.seq (.ops [scriptingref18_Registry_Find_r5]) (.ret)) (.skip))) (.seq (.ops [scriptingref18_Registry_Find_r6]) (.ret)))))
theorem scriptingref18_Registry_Find_ok : compF Try.prog 35 = some (24, scriptingref18_Registry_Find_c, [.c 4 5 true, .t 5]) := by kernel_rfl

@[go_sem] def math_bits_Mul_r0 : List AI := [
  ⟨(some 4), none, .mov (.c (.int .u64 0))⟩,
  ⟨(some 5), none, .mov (.c (.int .u64 0))⟩]
@[go_sem] def math_bits_Mul_r1 : List AI := [
  ⟨(some 11), none, .mov (.t 0)⟩,
  ⟨(some 12), none, .conv .u32 (.t 11)⟩,
  ⟨(some 13), none, .mov (.t 1)⟩,
  ⟨(some 14), none, .conv .u32 (.t 13)⟩,
  ⟨(some 15), none, .call 52 [(.t 12), (.t 14)]⟩,
  ⟨(some 10), none, .mov (.t 15)⟩,
  ⟨(some 16), none, .ext 0 (.t 10)⟩,
  ⟨(some 17), none, .ext 1 (.t 10)⟩,
  ⟨(some 6), none, .mov (.t 16)⟩,
  ⟨(some 7), none, .mov (.t 17)⟩]
@[go_sem] def math_bits_Mul_r2 : List AI := [
  ⟨(some 18), none, .mov (.t 6)⟩,
  ⟨(some 19), none, .conv .u64 (.t 18)⟩,
  ⟨(some 20), none, .mov (.t 7)⟩,
  ⟨(some 21), none, .conv .u64 (.t 20)⟩,
  ⟨(some 4), none, .mov (.t 19)⟩,
  ⟨(some 5), none, .mov (.t 21)⟩]
@[go_sem] def math_bits_Mul_r3 : List AI := [
  ⟨(some 23), none, .mov (.t 0)⟩,
  ⟨(some 24), none, .mov (.t 1)⟩,
  ⟨(some 25), none, .call 53 [(.t 23), (.t 24)]⟩,
  ⟨(some 22), none, .mov (.t 25)⟩,
  ⟨(some 26), none, .ext 0 (.t 22)⟩,
  ⟨(some 27), none, .ext 1 (.t 22)⟩,
  ⟨(some 8), none, .mov (.t 26)⟩,
  ⟨(some 9), none, .mov (.t 27)⟩]
@[go_sem] def math_bits_Mul_r4 : List AI := [
  ⟨(some 28), none, .mov (.t 8)⟩,
  ⟨(some 29), none, .mov (.t 9)⟩,
  ⟨(some 4), none, .mov (.t 28)⟩,
  ⟨(some 5), none, .mov (.t 29)⟩]
@[go_sem] def math_bits_Mul_c : AC := .seq (.ops [math_bits_Mul_r0]) (.seq (.cond (.c (.bool false)) (.seq (.ops [math_bits_Mul_r1]) (.seq (.ops [math_bits_Mul_r2]) (.ret))) (.skip)) (.seq (.ops [math_bits_Mul_r3]) (.seq (.ops [math_bits_Mul_r4]) (.ret))))
theorem math_bits_Mul_ok : compF Try.prog 36 = some (30, math_bits_Mul_c, [.t 4, .t 5]) := by kernel_rfl

@[go_sem] def strings_HasPrefix_r0 : List AI := [
  ⟨(some 4), none, .mov (.c (.bool false))⟩]
@[go_sem] def strings_HasPrefix_r1 : List AI := [
  ⟨(some 5), none, .mov (.t 0)⟩,
  ⟨(some 6), none, .mov (.t 1)⟩,
  ⟨(some 7), none, .call 54 [(.t 5), (.t 6)]⟩,
  ⟨(some 4), none, .mov (.t 7)⟩]
@[go_sem] def strings_HasPrefix_c : AC := .seq (.ops [strings_HasPrefix_r0]) (.seq (.ops [strings_HasPrefix_r1]) (.ret))
theorem strings_HasPrefix_ok : compF Try.prog 37 = some (8, strings_HasPrefix_c, [.t 4]) := by kernel_rfl

@[go_sem] def scriptingref18_Registry_Len_r0 : List AI := [
  ⟨(some 2), none, .mov (.c (.int .i64 0))⟩]
@[go_sem] def scriptingref18_Registry_Len_r1 : List AI := [
  ⟨(some 3), none, .mov (.t 0)⟩,
  ⟨(some 4), none, .eqp 0 false (.t 3) (.c .nilp)⟩]
@[go_sem] def scriptingref18_Registry_Len_r2 : List AI := [
  ⟨(some 2), none, .mov (.c (.int .i64 0))⟩]
@[go_sem] def scriptingref18_Registry_Len_r3_0 : List AI := [
  ⟨(some 5), none, .mov (.t 0)⟩,
  ⟨(some 7), none, .mov (.t 0)⟩,
  ⟨(some 8), none, .nilck (.t 7)⟩,
  ⟨(some 9), none, .faddr 2 (.t 8)⟩,
  ⟨(some 10), none, .load 1 false (.t 9)⟩,
  ⟨(some 11), none, .len 0 (.t 10)⟩,
  ⟨(some 6), none, .call 49 [(.t 5)]⟩,
  ⟨(some 12), none, .bin .add (.t 6) (.t 11)⟩,
  ⟨(some 2), none, .mov (.t 12)⟩]
@[go_sem] def scriptingref18_Registry_Len_r3_1 : List AI := [
  ⟨(some 5), none, .mov (.t 0)⟩,
  ⟨(some 7), none, .mov (.t 0)⟩,
  ⟨(some 8), none, .nilck (.t 7)⟩,
  ⟨(some 9), none, .faddr 2 (.t 8)⟩,
  ⟨(some 10), none, .load 1 false (.t 9)⟩,
  ⟨(some 6), none, .call 49 [(.t 5)]⟩,
  ⟨(some 11), none, .len 0 (.t 10)⟩,
  ⟨(some 12), none, .bin .add (.t 6) (.t 11)⟩,
  ⟨(some 2), none, .mov (.t 12)⟩]
@[go_sem] def scriptingref18_Registry_Len_r3_2 : List AI := [
  ⟨(some 5), none, .mov (.t 0)⟩,
  ⟨(some 7), none, .mov (.t 0)⟩,
  ⟨(some 8), none, .nilck (.t 7)⟩,
  ⟨(some 9), none, .faddr 2 (.t 8)⟩,
  ⟨(some 6), none, .call 49 [(.t 5)]⟩,
  ⟨(some 10), none, .load 1 false (.t 9)⟩,
  ⟨(some 11), none, .len 0 (.t 10)⟩,
  ⟨(some 12), none, .bin .add (.t 6) (.t 11)⟩,
  ⟨(some 2), none, .mov (.t 12)⟩]
@[go_sem] def scriptingref18_Registry_Len_c : AC := .seq (.ops [scriptingref18_Registry_Len_r0]) (.seq (.seq (.ops [scriptingref18_Registry_Len_r1]) (.cond (.t 4) (.seq (.ops [scriptingref18_Registry_Len_r2]) (.ret)) (.skip))) (.seq (.ops [scriptingref18_Registry_Len_r3_0, scriptingref18_Registry_Len_r3_1, scriptingref18_Registry_Len_r3_2]) (.ret)))
theorem scriptingref18_Registry_Len_ok : compF Try.prog 42 = some (13, scriptingref18_Registry_Len_c, [.t 2]) := by kernel_rfl

@[go_sem] def scriptinglaw18_ints_r0 : List AI := [
  ⟨(some 4), none, .mov (.c (.bool false))⟩]
@[go_sem] def scriptinglaw18_ints_r1 : List AI := [
  ⟨(some 6), none, .mov (.t 0)⟩,
  ⟨(some 7), none, .len 0 (.t 6)⟩,
  ⟨(some 8), none, .mov (.t 1)⟩,
  ⟨(some 9), none, .len 0 (.t 8)⟩,
  ⟨(some 10), none, .bin .neq (.t 7) (.t 9)⟩]
@[go_sem] def scriptinglaw18_ints_r2 : List AI := [
  ⟨(some 4), none, .mov (.c (.bool false))⟩]
@[go_sem] def scriptinglaw18_ints_r3 : List AI := [
  ⟨(some 5), none, .mov (.c (.int .i64 0))⟩]
@[go_sem] def scriptinglaw18_ints_r4 : List AI := [
  ⟨(some 11), none, .mov (.t 5)⟩,
  ⟨(some 12), none, .mov (.t 0)⟩,
  ⟨(some 13), none, .len 0 (.t 12)⟩,
  ⟨(some 14), none, .bin .lss (.t 11) (.t 13)⟩]
@[go_sem] def scriptinglaw18_ints_r5 : List AI := [
  ⟨(some 17), none, .mov (.t 0)⟩,
  ⟨(some 18), none, .mov (.t 5)⟩,
  ⟨(some 19), none, .iaddr 1 (.t 17) (.t 18)⟩,
  ⟨(some 20), none, .load 1 false (.t 19)⟩,
  ⟨(some 21), none, .mov (.t 1)⟩,
  ⟨(some 22), none, .mov (.t 5)⟩,
  ⟨(some 23), none, .iaddr 1 (.t 21) (.t 22)⟩,
  ⟨(some 24), none, .load 1 false (.t 23)⟩,
  ⟨(some 25), none, .bin .neq (.t 20) (.t 24)⟩]
@[go_sem] def scriptinglaw18_ints_r6 : List AI := [
  ⟨(some 4), none, .mov (.c (.bool false))⟩]
@[go_sem] def scriptinglaw18_ints_r7 : List AI := [
  ⟨(some 15), none, .mov (.t 5)⟩,
  ⟨(some 16), none, .bin .add (.t 15) (.c (.int .i64 1))⟩,
  ⟨(some 5), none, .mov (.t 16)⟩]
def scriptinglaw18_ints_l0 : AC := .seq (.seq (.ops [scriptinglaw18_ints_r4]) (.cond (.t 14) (.skip) (.exit 0))) (.seq (.block 1 (.seq (.ops [scriptinglaw18_ints_r5]) (.cond (.t 25) (.seq (.ops [scriptinglaw18_ints_r6]) (.ret)) (.skip)))) (.ops [scriptinglaw18_ints_r7]))
theorem scriptinglaw18_ints_l0_eq : scriptinglaw18_ints_l0 = .seq (.seq (.ops [scriptinglaw18_ints_r4]) (.cond (.t 14) (.skip) (.exit 0))) (.seq (.block 1 (.seq (.ops [scriptinglaw18_ints_r5]) (.cond (.t 25) (.seq (.ops [scriptinglaw18_ints_r6]) (.ret)) (.skip)))) (.ops [scriptinglaw18_ints_r7])) := rfl
@[go_sem] def scriptinglaw18_ints_r8 : List AI := [
  ⟨(some 4), none, .mov (.c (.bool true))⟩]
@[go_sem] def scriptinglaw18_ints_c : AC := .seq (.ops [scriptinglaw18_ints_r0]) (.seq (.seq (.ops [scriptinglaw18_ints_r1]) (.cond (.t 10) (.seq (.ops [scriptinglaw18_ints_r2]) (.ret)) (.skip))) (.seq (.seq (.ops [scriptinglaw18_ints_r3]) (.block 0 (.loop scriptinglaw18_ints_l0))) (.seq (.ops [scriptinglaw18_ints_r8]) (.ret))))
theorem scriptinglaw18_ints_ok : compF Try.prog 43 = some (26, scriptinglaw18_ints_c, [.t 4]) := by kernel_rfl

@[go_sem] def scriptingref18_Registry_Roots_r0 : List AI := [
  ⟨(some 2), none, .mov (.c .nils)⟩]
@[go_sem] def scriptingref18_Registry_Roots_r1 : List AI := [
  ⟨(some 3), none, .mov (.c .nils)⟩]
@[go_sem] def scriptingref18_Registry_Roots_r2 : List AI := [
  ⟨(some 6), none, .mov (.t 0)⟩,
  ⟨(some 7), none, .eqp 0 false (.t 6) (.c .nilp)⟩]
@[go_sem] def scriptingref18_Registry_Roots_r3 : List AI := [
  ⟨(some 8), none, .mov (.t 3)⟩,
  ⟨(some 2), none, .mov (.t 8)⟩]
@[go_sem] def scriptingref18_Registry_Roots_r4 : List AI := [
  ⟨(some 4), none, .mov (.c (.int .i64 0))⟩]
@[go_sem] def scriptingref18_Registry_Roots_r5 : List AI := [
  ⟨(some 9), none, .mov (.t 4)⟩,
  ⟨(some 10), none, .mov (.t 0)⟩,
  ⟨(some 11), none, .nilck (.t 10)⟩,
  ⟨(some 12), none, .faddr 0 (.t 11)⟩,
  ⟨(some 13), none, .load 1 false (.t 12)⟩,
  ⟨(some 14), none, .len 0 (.t 13)⟩,
  ⟨(some 15), none, .bin .lss (.t 9) (.t 14)⟩]
@[go_sem] def scriptingref18_Registry_Roots_r6 : List AI := [
  ⟨(some 18), none, .mov (.t 3)⟩,
  ⟨(some 19), none, .mov (.t 0)⟩,
  ⟨(some 20), none, .nilck (.t 19)⟩,
  ⟨(some 21), none, .faddr 0 (.t 20)⟩,
  ⟨(some 22), none, .load 1 false (.t 21)⟩,
  ⟨(some 23), none, .mov (.t 4)⟩,
  ⟨(some 24), none, .iaddr 5 (.t 22) (.t 23)⟩,
  ⟨(some 25), none, .load 5 true (.t 24)⟩,
  ⟨(some 26), none, .call 57 [(.t 18), (.t 25)]⟩,
  ⟨(some 3), none, .mov (.t 26)⟩]
@[go_sem] def scriptingref18_Registry_Roots_r7 : List AI := [
  ⟨(some 16), none, .mov (.t 4)⟩,
  ⟨(some 17), none, .bin .add (.t 16) (.c (.int .i64 1))⟩,
  ⟨(some 4), none, .mov (.t 17)⟩]
def scriptingref18_Registry_Roots_l0 : AC := .seq (.seq (.ops [scriptingref18_Registry_Roots_r5]) (.cond (.t 15) (.skip) (.exit 0))) (.seq (.block 1 (.ops [scriptingref18_Registry_Roots_r6])) (.ops [scriptingref18_Registry_Roots_r7]))
theorem scriptingref18_Registry_Roots_l0_eq : scriptingref18_Registry_Roots_l0 = .seq (.seq (.ops [scriptingref18_Registry_Roots_r5]) (.cond (.t 15) (.skip) (.exit 0))) (.seq (.block 1 (.ops [scriptingref18_Registry_Roots_r6])) (.ops [scriptingref18_Registry_Roots_r7])) := rfl
@[go_sem] def scriptingref18_Registry_Roots_r8 : List AI := [
  ⟨(some 5), none, .mov (.c (.int .i64 0))⟩]
@[go_sem] def scriptingref18_Registry_Roots_r9 : List AI := [
  ⟨(some 27), none, .mov (.t 5)⟩,
  ⟨(some 28), none, .mov (.t 0)⟩,
  ⟨(some 29), none, .nilck (.t 28)⟩,
  ⟨(some 30), none, .faddr 2 (.t 29)⟩,
  ⟨(some 31), none, .load 1 false (.t 30)⟩,
  ⟨(some 32), none, .len 0 (.t 31)⟩,
  ⟨(some 33), none, .bin .lss (.t 27) (.t 32)⟩]
@[go_sem] def scriptingref18_Registry_Roots_r10 : List AI := [
  ⟨(some 36), none, .mov (.t 3)⟩,
  ⟨(some 37), none, .mov (.t 0)⟩,
  ⟨(some 38), none, .nilck (.t 37)⟩,
  ⟨(some 39), none, .faddr 2 (.t 38)⟩,
  ⟨(some 40), none, .load 1 false (.t 39)⟩,
  ⟨(some 41), none, .mov (.t 5)⟩,
  ⟨(some 42), none, .iaddr 6 (.t 40) (.t 41)⟩,
  ⟨(some 43), none, .faddr 1 (.t 42)⟩,
  ⟨(some 44), none, .load 5 true (.t 43)⟩,
  ⟨(some 45), none, .call 57 [(.t 36), (.t 44)]⟩,
  ⟨(some 3), none, .mov (.t 45)⟩]
@[go_sem] def scriptingref18_Registry_Roots_r11 : List AI := [
  ⟨(some 34), none, .mov (.t 5)⟩,
  ⟨(some 35), none, .bin .add (.t 34) (.c (.int .i64 1))⟩,
  ⟨(some 5), none, .mov (.t 35)⟩]
def scriptingref18_Registry_Roots_l1 : AC := .seq (.seq (.ops [scriptingref18_Registry_Roots_r9]) (.cond (.t 33) (.skip) (.exit 2))) (.seq (.block 3 (.ops [scriptingref18_Registry_Roots_r10])) (.ops [scriptingref18_Registry_Roots_r11]))
theorem scriptingref18_Registry_Roots_l1_eq : scriptingref18_Registry_Roots_l1 = .seq (.seq (.ops [scriptingref18_Registry_Roots_r9]) (.cond (.t 33) (.skip) (.exit 2))) (.seq (.block 3 (.ops [scriptingref18_Registry_Roots_r10])) (.ops [scriptingref18_Registry_Roots_r11])) := rfl
@[go_sem] def scriptingref18_Registry_Roots_r12 : List AI := [
  ⟨(some 46), none, .mov (.t 3)⟩,
  ⟨(some 2), none, .mov (.t 46)⟩]
@[go_sem] def scriptingref18_Registry_Roots_c : AC := .seq (.ops [scriptingref18_Registry_Roots_r0]) (.seq (.ops [scriptingref18_Registry_Roots_r1]) (.seq (.seq (.ops [scriptingref18_Registry_Roots_r2]) (.cond (.t 7) (.seq (.ops [scriptingref18_Registry_Roots_r3]) (.ret)) (.skip))) (.seq (.seq (.ops [scriptingref18_Registry_Roots_r4]) (.block 0 (.loop scriptingref18_Registry_Roots_l0))) (.seq (.seq (.ops [scriptingref18_Registry_Roots_r8]) (.block 2 (.loop scriptingref18_Registry_Roots_l1))) (.seq (.ops [scriptingref18_Registry_Roots_r12]) (.ret))))))
theorem scriptingref18_Registry_Roots_ok : compF Try.prog 44 = some (47, scriptingref18_Registry_Roots_c, [.t 2]) := by kernel_rfl

@[go_sem] def registry_identities_r0 : List AI := [
  ⟨(some 2), none, .mov (.c .nils)⟩]
@[go_sem] def registry_identities_r1 : List AI := [
  ⟨(some 3), none, .mov (.c .nils)⟩]
@[go_sem] def registry_identities_r2 : List AI := [
  ⟨(some 6), none, .mov (.t 0)⟩,
  ⟨(some 7), none, .call 58 [(.t 6)]⟩,
  ⟨(some 8), none, .len 0 (.t 7)⟩,
  ⟨(some 9), none, .mov (.c (.int .i64 0))⟩]
@[go_sem] def registry_identities_r3 : List AI := [
  ⟨(some 10), none, .bin .lss (.t 9) (.t 8)⟩]
@[go_sem] def registry_identities_r4 : List AI := [
  ⟨(some 11), none, .iaddr 5 (.t 7) (.t 9)⟩,
  ⟨(some 12), none, .load 5 true (.t 11)⟩,
  ⟨(some 5), none, .box 450005 5 (.c (.agg [(.int .i64 0), (.int .i64 0), (.int .i64 0), (.str []), (.int .i64 0)]))⟩,
  ⟨none, none, .store 5 (.t 5) (.t 12)⟩]
@[go_sem] def registry_identities_r5 : List AI := [
  ⟨(some 13), none, .faddr 0 (.t 5)⟩,
  ⟨(some 14), none, .load 1 false (.t 13)⟩]
@[go_sem] def registry_identities_r6 : List AI := [
  ⟨(some 16), none, .bin .eql (.t 14) (.c (.int .i64 4))⟩,
  ⟨(some 15), none, .mov (.t 16)⟩]
@[go_sem] def registry_identities_r7 : List AI := [
  ⟨(some 17), none, .bin .eql (.t 14) (.c (.int .i64 5))⟩,
  ⟨(some 15), none, .mov (.t 17)⟩]
@[go_sem] def registry_identities_r8 : List AI := [
  ⟨(some 18), none, .bin .eql (.t 14) (.c (.int .i64 7))⟩,
  ⟨(some 15), none, .mov (.t 18)⟩]
@[go_sem] def registry_identities_r9 : List AI := [
  ⟨(some 19), none, .bin .eql (.t 14) (.c (.int .i64 8))⟩,
  ⟨(some 15), none, .mov (.t 19)⟩]
@[go_sem] def registry_identities_r10 : List AI := [
  ⟨(some 20), none, .mov (.t 3)⟩,
  ⟨(some 21), none, .faddr 4 (.t 5)⟩,
  ⟨(some 22), none, .load 1 false (.t 21)⟩,
  ⟨(some 23), none, .mkisl 1 [(.t 22)]⟩,
  ⟨(some 24), none, .app 450024 1 (.t 20) (.t 23)⟩,
  ⟨(some 3), none, .mov (.t 24)⟩]
@[go_sem] def registry_identities_r11 : List AI := [
  ⟨(some 25), none, .bin .add (.t 9) (.c (.int .i64 1))⟩,
  ⟨(some 9), none, .mov (.t 25)⟩]
def registry_identities_l0 : AC := .seq (.ops [registry_identities_r3]) (.seq (.cond (.t 10) (.skip) (.exit 0)) (.seq (.block 1 (.seq (.ops [registry_identities_r4]) (.seq (.ops [registry_identities_r5]) (.block 2 (.seq (.seq (.ops [registry_identities_r6]) (.cond (.t 15) (.skip) (.seq (.ops [registry_identities_r7]) (.cond (.t 15) (.skip) (.seq (.ops [registry_identities_r8]) (.cond (.t 15) (.skip) (.ops [registry_identities_r9]))))))) (.cond (.t 15) (.ops [registry_identities_r10]) (.skip))))))) (.ops [registry_identities_r11])))
theorem registry_identities_l0_eq : registry_identities_l0 = .seq (.ops [registry_identities_r3]) (.seq (.cond (.t 10) (.skip) (.exit 0)) (.seq (.block 1 (.seq (.ops [registry_identities_r4]) (.seq (.ops [registry_identities_r5]) (.block 2 (.seq (.seq (.ops [registry_identities_r6]) (.cond (.t 15) (.skip) (.seq (.ops [registry_identities_r7]) (.cond (.t 15) (.skip) (.seq (.ops [registry_identities_r8]) (.cond (.t 15) (.skip) (.ops [registry_identities_r9]))))))) (.cond (.t 15) (.ops [registry_identities_r10]) (.skip))))))) (.ops [registry_identities_r11]))) := rfl
@[go_sem] def registry_identities_r12 : List AI := [
  ⟨(some 26), none, .mov (.t 3)⟩,
  ⟨(some 27), none, .call 59 [(.t 26)]⟩]
@[go_sem] def registry_identities_r13 : List AI := [
  ⟨(some 28), none, .mov (.t 3)⟩,
  ⟨(some 29), none, .call 60 [(.t 28)]⟩,
  ⟨(some 2), none, .mov (.t 29)⟩]
@[go_sem] def registry_identities_c : AC := .seq (.ops [registry_identities_r0]) (.seq (.ops [registry_identities_r1]) (.seq (.seq (.ops [registry_identities_r2]) (.block 0 (.loop registry_identities_l0))) (.seq (.ops [registry_identities_r12]) (.seq (.ops [registry_identities_r13]) (.ret)))))
theorem registry_identities_ok : compF Try.prog 45 = some (30, registry_identities_c, [.t 2]) := by kernel_rfl

@[go_sem] def rational_Valid_r0 : List AI := [
  ⟨(some 1), none, .box 460001 2 (.t 0)⟩,
  ⟨(some 2), none, .mov (.c (.bool false))⟩]
@[go_sem] def rational_Valid_r1 : List AI := [
  ⟨(some 3), none, .faddr 1 (.t 1)⟩,
  ⟨(some 4), none, .load 1 false (.t 3)⟩,
  ⟨(some 5), none, .bin .geq (.t 4) (.c (.int .i64 1))⟩,
  ⟨(some 6), none, .mov (.t 5)⟩,
  ⟨(some 7), (some (6, true)), .faddr 1 (.t 1)⟩,
  ⟨(some 8), (some (6, true)), .load 1 false (.t 7)⟩,
  ⟨(some 9), (some (6, true)), .bin .leq (.t 8) (.c (.int .i64 2147483647))⟩,
  ⟨(some 10), none, .pick (.t 6) (.t 9) (.c (.bool false))⟩,
  ⟨(some 11), none, .mov (.t 10)⟩,
  ⟨(some 12), (some (11, true)), .faddr 0 (.t 1)⟩,
  ⟨(some 13), (some (11, true)), .load 1 false (.t 12)⟩,
  ⟨(some 14), (some (11, true)), .bin .geq (.t 13) (.c (.int .i64 (-2147483647)))⟩,
  ⟨(some 15), none, .pick (.t 11) (.t 14) (.c (.bool false))⟩,
  ⟨(some 16), none, .mov (.t 15)⟩,
  ⟨(some 17), (some (16, true)), .faddr 0 (.t 1)⟩,
  ⟨(some 18), (some (16, true)), .load 1 false (.t 17)⟩,
  ⟨(some 19), (some (16, true)), .bin .leq (.t 18) (.c (.int .i64 2147483647))⟩,
  ⟨(some 20), none, .pick (.t 16) (.t 19) (.c (.bool false))⟩,
  ⟨(some 21), none, .mov (.t 20)⟩,
  ⟨(some 22), (some (21, true)), .faddr 0 (.t 1)⟩,
  ⟨(some 23), (some (21, true)), .load 1 false (.t 22)⟩,
  ⟨(some 24), (some (21, true)), .faddr 0 (.t 1)⟩,
  ⟨(some 25), (some (21, true)), .load 1 false (.t 24)⟩,
  ⟨(some 26), (some (21, true)), .un .neg (.t 25)⟩,
  ⟨(some 27), (some (21, true)), .mm true [(.t 23), (.t 26)]⟩,
  ⟨(some 28), (some (21, true)), .faddr 1 (.t 1)⟩,
  ⟨(some 29), (some (21, true)), .load 1 false (.t 28)⟩,
  ⟨(some 30), (some (21, true)), .call 61 [(.t 27), (.t 29)]⟩,
  ⟨(some 31), (some (21, true)), .bin .eql (.t 30) (.c (.int .i64 1))⟩,
  ⟨(some 32), none, .pick (.t 21) (.t 31) (.c (.bool false))⟩,
  ⟨(some 2), none, .mov (.t 32)⟩]
@[go_sem] def rational_Valid_c : AC := .seq (.ops [rational_Valid_r0]) (.seq (.ops [rational_Valid_r1]) (.ret))
theorem rational_Valid_ok : compF Try.prog 46 = some (33, rational_Valid_c, [.t 2]) := by kernel_rfl

@[go_sem] def scriptingref01_gcd_r0 : List AI := [
  ⟨(some 4), none, .mov (.c (.int .i64 0))⟩]
@[go_sem] def scriptingref01_gcd_r1 : List AI := [
  ⟨(some 5), none, .mov (.t 1)⟩,
  ⟨(some 6), none, .bin .neq (.t 5) (.c (.int .i64 0))⟩]
@[go_sem] def scriptingref01_gcd_r2 : List AI := [
  ⟨(some 7), none, .mov (.t 1)⟩,
  ⟨(some 8), none, .mov (.t 0)⟩,
  ⟨(some 9), none, .mov (.t 1)⟩,
  ⟨(some 10), none, .bin .rem (.t 8) (.t 9)⟩,
  ⟨(some 0), none, .mov (.t 7)⟩,
  ⟨(some 1), none, .mov (.t 10)⟩]
def scriptingref01_gcd_l0 : AC := .seq (.seq (.ops [scriptingref01_gcd_r1]) (.cond (.t 6) (.skip) (.exit 0))) (.block 1 (.ops [scriptingref01_gcd_r2]))
theorem scriptingref01_gcd_l0_eq : scriptingref01_gcd_l0 = .seq (.seq (.ops [scriptingref01_gcd_r1]) (.cond (.t 6) (.skip) (.exit 0))) (.block 1 (.ops [scriptingref01_gcd_r2])) := rfl
@[go_sem] def scriptingref01_gcd_r3 : List AI := [
  ⟨(some 11), none, .mov (.t 0)⟩,
  ⟨(some 4), none, .mov (.t 11)⟩]
@[go_sem] def scriptingref01_gcd_c : AC := .seq (.ops [scriptingref01_gcd_r0]) (.seq (.block 0 (.loop scriptingref01_gcd_l0)) (.seq (.ops [scriptingref01_gcd_r3]) (.ret)))
theorem scriptingref01_gcd_ok : compF Try.prog 47 = some (12, scriptingref01_gcd_c, [.t 4]) := by kernel_rfl

@[go_sem] def scriptingref01_abs_r0 : List AI := [
  ⟨(some 2), none, .mov (.c (.int .i64 0))⟩]
@[go_sem] def scriptingref01_abs_r1 : List AI := [
  ⟨(some 3), none, .mov (.t 0)⟩,
  ⟨(some 4), none, .bin .lss (.t 3) (.c (.int .i64 0))⟩]
@[go_sem] def scriptingref01_abs_r2 : List AI := [
  ⟨(some 5), none, .mov (.t 0)⟩,
  ⟨(some 6), none, .un .neg (.t 5)⟩,
  ⟨(some 2), none, .mov (.t 6)⟩]
@[go_sem] def scriptingref01_abs_r3 : List AI := [
  ⟨(some 7), none, .mov (.t 0)⟩,
  ⟨(some 2), none, .mov (.t 7)⟩]
@[go_sem] def scriptingref01_abs_c : AC := .seq (.ops [scriptingref01_abs_r0]) (.seq (.seq (.ops [scriptingref01_abs_r1]) (.cond (.t 4) (.seq (.ops [scriptingref01_abs_r2]) (.ret)) (.skip))) (.seq (.ops [scriptingref01_abs_r3]) (.ret)))
theorem scriptingref01_abs_ok : compF Try.prog 48 = some (8, scriptingref01_abs_c, [.t 2]) := by kernel_rfl

@[go_sem] def scriptingref18_Registry_used_r0 : List AI := [
  ⟨(some 2), none, .mov (.c (.int .i64 0))⟩]
@[go_sem] def scriptingref18_Registry_used_r1 : List AI := [
  ⟨(some 3), none, .mov (.t 0)⟩,
  ⟨(some 4), none, .nilck (.t 3)⟩,
  ⟨(some 5), none, .faddr 0 (.t 4)⟩,
  ⟨(some 6), none, .load 1 false (.t 5)⟩,
  ⟨(some 7), none, .len 0 (.t 6)⟩,
  ⟨(some 8), none, .mov (.t 0)⟩,
  ⟨(some 9), none, .nilck (.t 8)⟩,
  ⟨(some 10), none, .faddr 1 (.t 9)⟩,
  ⟨(some 11), none, .load 1 false (.t 10)⟩,
  ⟨(some 12), none, .len 0 (.t 11)⟩,
  ⟨(some 13), none, .bin .sub (.t 7) (.t 12)⟩,
  ⟨(some 2), none, .mov (.t 13)⟩]
@[go_sem] def scriptingref18_Registry_used_c : AC := .seq (.ops [scriptingref18_Registry_used_r0]) (.seq (.ops [scriptingref18_Registry_used_r1]) (.ret))
theorem scriptingref18_Registry_used_ok : compF Try.prog 49 = some (14, scriptingref18_Registry_used_c, [.t 2]) := by kernel_rfl

@[go_sem] def scriptingref18_Registry_holds_r0 : List AI := [
  ⟨(some 4), none, .mov (.c (.bool false))⟩]
@[go_sem] def scriptingref18_Registry_holds_r1 : List AI := [
  ⟨(some 5), none, .mov (.t 1)⟩,
  ⟨(some 6), none, .bin .geq (.t 5) (.c (.int .i64 1))⟩,
  ⟨(some 7), none, .mov (.t 6)⟩,
  ⟨(some 8), (some (7, true)), .mov (.t 1)⟩,
  ⟨(some 9), (some (7, true)), .mov (.t 0)⟩,
  ⟨(some 10), (some (7, true)), .nilck (.t 9)⟩,
  ⟨(some 11), (some (7, true)), .faddr 0 (.t 10)⟩,
  ⟨(some 12), (some (7, true)), .load 1 false (.t 11)⟩,
  ⟨(some 13), (some (7, true)), .len 0 (.t 12)⟩,
  ⟨(some 14), (some (7, true)), .bin .leq (.t 8) (.t 13)⟩,
  ⟨(some 15), none, .pick (.t 7) (.t 14) (.c (.bool false))⟩,
  ⟨(some 16), none, .mov (.t 15)⟩,
  ⟨(some 17), (some (16, true)), .mov (.t 0)⟩,
  ⟨(some 18), (some (16, true)), .nilck (.t 17)⟩,
  ⟨(some 19), (some (16, true)), .faddr 0 (.t 18)⟩,
  ⟨(some 20), (some (16, true)), .load 1 false (.t 19)⟩,
  ⟨(some 21), (some (16, true)), .mov (.t 1)⟩,
  ⟨(some 22), (some (16, true)), .bin .sub (.t 21) (.c (.int .i64 1))⟩,
  ⟨(some 23), (some (16, true)), .iaddr 5 (.t 20) (.t 22)⟩,
  ⟨(some 24), (some (16, true)), .faddr 0 (.t 23)⟩,
  ⟨(some 25), (some (16, true)), .load 1 false (.t 24)⟩,
  ⟨(some 26), (some (16, true)), .bin .neq (.t 25) (.c (.int .i64 0))⟩,
  ⟨(some 27), none, .pick (.t 16) (.t 26) (.c (.bool false))⟩,
  ⟨(some 4), none, .mov (.t 27)⟩]
@[go_sem] def scriptingref18_Registry_holds_c : AC := .seq (.ops [scriptingref18_Registry_holds_r0]) (.seq (.ops [scriptingref18_Registry_holds_r1]) (.ret))
theorem scriptingref18_Registry_holds_ok : compF Try.prog 50 = some (28, scriptingref18_Registry_holds_c, [.t 4]) := by kernel_rfl

@[go_sem] def scriptingref18_Registry_place_r0 : List AI := [
  ⟨(some 4), none, .mov (.c (.int .i64 0))⟩]
@[go_sem] def scriptingref18_Registry_place_r1 : List AI := [
  ⟨(some 5), none, .mov (.c (.int .i64 0))⟩]
@[go_sem] def scriptingref18_Registry_place_r2 : List AI := [
  ⟨(some 6), none, .mov (.t 5)⟩,
  ⟨(some 7), none, .mov (.t 0)⟩,
  ⟨(some 8), none, .nilck (.t 7)⟩,
  ⟨(some 9), none, .faddr 2 (.t 8)⟩,
  ⟨(some 10), none, .load 1 false (.t 9)⟩,
  ⟨(some 11), none, .len 0 (.t 10)⟩,
  ⟨(some 12), none, .bin .lss (.t 6) (.t 11)⟩]
@[go_sem] def scriptingref18_Registry_place_r3 : List AI := [
  ⟨(some 15), none, .mov (.t 0)⟩,
  ⟨(some 16), none, .nilck (.t 15)⟩,
  ⟨(some 17), none, .faddr 2 (.t 16)⟩,
  ⟨(some 18), none, .load 1 false (.t 17)⟩,
  ⟨(some 19), none, .mov (.t 5)⟩,
  ⟨(some 20), none, .iaddr 6 (.t 18) (.t 19)⟩,
  ⟨(some 21), none, .faddr 0 (.t 20)⟩,
  ⟨(some 22), none, .load 1 false (.t 21)⟩,
  ⟨(some 23), none, .mov (.t 1)⟩,
  ⟨(some 24), none, .bin .eql (.t 22) (.t 23)⟩]
@[go_sem] def scriptingref18_Registry_place_r4 : List AI := [
  ⟨(some 25), none, .mov (.t 5)⟩,
  ⟨(some 4), none, .mov (.t 25)⟩]
@[go_sem] def scriptingref18_Registry_place_r5 : List AI := [
  ⟨(some 13), none, .mov (.t 5)⟩,
  ⟨(some 14), none, .bin .add (.t 13) (.c (.int .i64 1))⟩,
  ⟨(some 5), none, .mov (.t 14)⟩]
def scriptingref18_Registry_place_l0 : AC := .seq (.seq (.ops [scriptingref18_Registry_place_r2]) (.cond (.t 12) (.skip) (.exit 0))) (.seq (.block 1 (.seq (.ops [scriptingref18_Registry_place_r3]) (.cond (.t 24) (.seq (.ops [scriptingref18_Registry_place_r4]) (.ret)) (.skip)))) (.ops [scriptingref18_Registry_place_r5]))
theorem scriptingref18_Registry_place_l0_eq : scriptingref18_Registry_place_l0 = .seq (.seq (.ops [scriptingref18_Registry_place_r2]) (.cond (.t 12) (.skip) (.exit 0))) (.seq (.block 1 (.seq (.ops [scriptingref18_Registry_place_r3]) (.cond (.t 24) (.seq (.ops [scriptingref18_Registry_place_r4]) (.ret)) (.skip)))) (.ops [scriptingref18_Registry_place_r5])) := rfl
@[go_sem] def scriptingref18_Registry_place_r6 : List AI := [
  ⟨(some 4), none, .mov (.c (.int .i64 (-1)))⟩]
@[go_sem] def scriptingref18_Registry_place_c : AC := .seq (.ops [scriptingref18_Registry_place_r0]) (.seq (.seq (.ops [scriptingref18_Registry_place_r1]) (.block 0 (.loop scriptingref18_Registry_place_l0))) (.seq (.ops [scriptingref18_Registry_place_r6]) (.ret)))
theorem scriptingref18_Registry_place_ok : compF Try.prog 51 = some (26, scriptingref18_Registry_place_c, [.t 4]) := by kernel_rfl

@[go_sem] def math_bits_Mul32_r0 : List AI := [
  ⟨(some 4), none, .mov (.c (.int .u32 0))⟩,
  ⟨(some 5), none, .mov (.c (.int .u32 0))⟩]
@[go_sem] def math_bits_Mul32_r1 : List AI := [
  ⟨(some 7), none, .mov (.t 0)⟩,
  ⟨(some 8), none, .conv .u64 (.t 7)⟩,
  ⟨(some 9), none, .mov (.t 1)⟩,
  ⟨(some 10), none, .conv .u64 (.t 9)⟩,
  ⟨(some 11), none, .bin .mul (.t 8) (.t 10)⟩,
  ⟨(some 6), none, .mov (.t 11)⟩]
@[go_sem] def math_bits_Mul32_r2 : List AI := [
  ⟨(some 12), none, .mov (.t 6)⟩,
  ⟨(some 13), none, .sh false (.t 12) (.c (.int .u64 32))⟩,
  ⟨(some 14), none, .conv .u32 (.t 13)⟩,
  ⟨(some 15), none, .mov (.t 6)⟩,
  ⟨(some 16), none, .conv .u32 (.t 15)⟩,
  ⟨(some 4), none, .mov (.t 14)⟩,
  ⟨(some 5), none, .mov (.t 16)⟩]
@[go_sem] def math_bits_Mul32_c : AC := .seq (.ops [math_bits_Mul32_r0]) (.seq (.ops [math_bits_Mul32_r1]) (.seq (.ops [math_bits_Mul32_r2]) (.ret)))
theorem math_bits_Mul32_ok : compF Try.prog 52 = some (17, math_bits_Mul32_c, [.t 4, .t 5]) := by kernel_rfl

@[go_sem] def math_bits_Mul64_r0 : List AI := [
  ⟨(some 4), none, .mov (.c (.int .u64 0))⟩,
  ⟨(some 5), none, .mov (.c (.int .u64 0))⟩]
@[go_sem] def math_bits_Mul64_r1 : List AI := [
  ⟨(some 14), none, .mov (.t 0)⟩,
  ⟨(some 15), none, .bin .and (.t 14) (.c (.int .u64 4294967295))⟩,
  ⟨(some 6), none, .mov (.t 15)⟩]
@[go_sem] def math_bits_Mul64_r2 : List AI := [
  ⟨(some 16), none, .mov (.t 0)⟩,
  ⟨(some 17), none, .sh false (.t 16) (.c (.int .u64 32))⟩,
  ⟨(some 7), none, .mov (.t 17)⟩]
@[go_sem] def math_bits_Mul64_r3 : List AI := [
  ⟨(some 18), none, .mov (.t 1)⟩,
  ⟨(some 19), none, .bin .and (.t 18) (.c (.int .u64 4294967295))⟩,
  ⟨(some 8), none, .mov (.t 19)⟩]
@[go_sem] def math_bits_Mul64_r4 : List AI := [
  ⟨(some 20), none, .mov (.t 1)⟩,
  ⟨(some 21), none, .sh false (.t 20) (.c (.int .u64 32))⟩,
  ⟨(some 9), none, .mov (.t 21)⟩]
@[go_sem] def math_bits_Mul64_r5 : List AI := [
  ⟨(some 22), none, .mov (.t 6)⟩,
  ⟨(some 23), none, .mov (.t 8)⟩,
  ⟨(some 24), none, .bin .mul (.t 22) (.t 23)⟩,
  ⟨(some 10), none, .mov (.t 24)⟩]
@[go_sem] def math_bits_Mul64_r6 : List AI := [
  ⟨(some 25), none, .mov (.t 7)⟩,
  ⟨(some 26), none, .mov (.t 8)⟩,
  ⟨(some 27), none, .bin .mul (.t 25) (.t 26)⟩,
  ⟨(some 28), none, .mov (.t 10)⟩,
  ⟨(some 29), none, .sh false (.t 28) (.c (.int .u64 32))⟩,
  ⟨(some 30), none, .bin .add (.t 27) (.t 29)⟩,
  ⟨(some 11), none, .mov (.t 30)⟩]
@[go_sem] def math_bits_Mul64_r7 : List AI := [
  ⟨(some 31), none, .mov (.t 11)⟩,
  ⟨(some 32), none, .bin .and (.t 31) (.c (.int .u64 4294967295))⟩,
  ⟨(some 12), none, .mov (.t 32)⟩]
@[go_sem] def math_bits_Mul64_r8 : List AI := [
  ⟨(some 33), none, .mov (.t 11)⟩,
  ⟨(some 34), none, .sh false (.t 33) (.c (.int .u64 32))⟩,
  ⟨(some 13), none, .mov (.t 34)⟩]
@[go_sem] def math_bits_Mul64_r9 : List AI := [
  ⟨(some 35), none, .mov (.t 12)⟩,
  ⟨(some 36), none, .mov (.t 6)⟩,
  ⟨(some 37), none, .mov (.t 9)⟩,
  ⟨(some 38), none, .bin .mul (.t 36) (.t 37)⟩,
  ⟨(some 39), none, .bin .add (.t 35) (.t 38)⟩,
  ⟨(some 12), none, .mov (.t 39)⟩]
@[go_sem] def math_bits_Mul64_r10 : List AI := [
  ⟨(some 40), none, .mov (.t 7)⟩,
  ⟨(some 41), none, .mov (.t 9)⟩,
  ⟨(some 42), none, .bin .mul (.t 40) (.t 41)⟩,
  ⟨(some 43), none, .mov (.t 13)⟩,
  ⟨(some 44), none, .bin .add (.t 42) (.t 43)⟩,
  ⟨(some 45), none, .mov (.t 12)⟩,
  ⟨(some 46), none, .sh false (.t 45) (.c (.int .u64 32))⟩,
  ⟨(some 47), none, .bin .add (.t 44) (.t 46)⟩,
  ⟨(some 4), none, .mov (.t 47)⟩]
@[go_sem] def math_bits_Mul64_r11 : List AI := [
  ⟨(some 48), none, .mov (.t 0)⟩,
  ⟨(some 49), none, .mov (.t 1)⟩,
  ⟨(some 50), none, .bin .mul (.t 48) (.t 49)⟩,
  ⟨(some 5), none, .mov (.t 50)⟩]
@[go_sem] def math_bits_Mul64_c : AC := .seq (.ops [math_bits_Mul64_r0]) (.seq (.ops [math_bits_Mul64_r1]) (.seq (.ops [math_bits_Mul64_r2]) (.seq (.ops [math_bits_Mul64_r3]) (.seq (.ops [math_bits_Mul64_r4]) (.seq (.ops [math_bits_Mul64_r5]) (.seq (.ops [math_bits_Mul64_r6]) (.seq (.ops [math_bits_Mul64_r7]) (.seq (.ops [math_bits_Mul64_r8]) (.seq (.ops [math_bits_Mul64_r9]) (.seq (.ops [math_bits_Mul64_r10]) (.seq (.ops [math_bits_Mul64_r11]) (.ret))))))))))))
theorem math_bits_Mul64_ok : compF Try.prog 53 = some (51, math_bits_Mul64_c, [.t 4, .t 5]) := by kernel_rfl

@[go_sem] def internal_stringslite_HasPrefix_r0 : List AI := [
  ⟨(some 4), none, .mov (.c (.bool false))⟩]
@[go_sem] def internal_stringslite_HasPrefix_r1 : List AI := [
  ⟨(some 5), none, .mov (.t 0)⟩,
  ⟨(some 6), none, .len 1 (.t 5)⟩,
  ⟨(some 7), none, .mov (.t 1)⟩,
  ⟨(some 8), none, .len 1 (.t 7)⟩,
  ⟨(some 9), none, .bin .geq (.t 6) (.t 8)⟩,
  ⟨(some 10), none, .mov (.t 9)⟩,
  ⟨(some 11), (some (10, true)), .mov (.t 0)⟩,
  ⟨(some 12), (some (10, true)), .mov (.t 1)⟩,
  ⟨(some 13), (some (10, true)), .len 1 (.t 12)⟩,
  ⟨(some 14), (some (10, true)), .sls (.t 11) none (some (.t 13))⟩,
  ⟨(some 15), (some (10, true)), .mov (.t 1)⟩,
  ⟨(some 16), (some (10, true)), .bin .eql (.t 14) (.t 15)⟩,
  ⟨(some 17), none, .pick (.t 10) (.t 16) (.c (.bool false))⟩,
  ⟨(some 4), none, .mov (.t 17)⟩]
@[go_sem] def internal_stringslite_HasPrefix_c : AC := .seq (.ops [internal_stringslite_HasPrefix_r0]) (.seq (.ops [internal_stringslite_HasPrefix_r1]) (.ret))
theorem internal_stringslite_HasPrefix_ok : compF Try.prog 54 = some (18, internal_stringslite_HasPrefix_c, [.t 4]) := by kernel_rfl

@[go_sem] def scriptingref18_with_r0 : List AI := [
  ⟨(some 3), none, .box 570003 5 (.t 1)⟩,
  ⟨(some 4), none, .mov (.c .nils)⟩]
@[go_sem] def scriptingref18_with_r1 : List AI := [
  ⟨(some 7), none, .faddr 0 (.t 3)⟩,
  ⟨(some 8), none, .load 1 false (.t 7)⟩,
  ⟨(some 9), none, .bin .neq (.t 8) (.c (.int .i64 4))⟩,
  ⟨(some 10), none, .mov (.t 9)⟩,
  ⟨(some 11), (some (10, true)), .faddr 0 (.t 3)⟩,
  ⟨(some 12), (some (10, true)), .load 1 false (.t 11)⟩,
  ⟨(some 13), (some (10, true)), .bin .neq (.t 12) (.c (.int .i64 5))⟩,
  ⟨(some 14), none, .pick (.t 10) (.t 13) (.c (.bool false))⟩,
  ⟨(some 15), none, .mov (.t 14)⟩,
  ⟨(some 16), (some (15, true)), .faddr 0 (.t 3)⟩,
  ⟨(some 17), (some (15, true)), .load 1 false (.t 16)⟩,
  ⟨(some 18), (some (15, true)), .bin .neq (.t 17) (.c (.int .i64 7))⟩,
  ⟨(some 19), none, .pick (.t 15) (.t 18) (.c (.bool false))⟩,
  ⟨(some 20), none, .mov (.t 19)⟩,
  ⟨(some 21), (some (20, true)), .faddr 0 (.t 3)⟩,
  ⟨(some 22), (some (20, true)), .load 1 false (.t 21)⟩,
  ⟨(some 23), (some (20, true)), .bin .neq (.t 22) (.c (.int .i64 8))⟩,
  ⟨(some 24), none, .pick (.t 20) (.t 23) (.c (.bool false))⟩]
@[go_sem] def scriptingref18_with_r2 : List AI := [
  ⟨(some 25), none, .mov (.t 0)⟩,
  ⟨(some 4), none, .mov (.t 25)⟩]
@[go_sem] def scriptingref18_with_r3 : List AI := [
  ⟨(some 5), none, .mov (.c (.int .i64 0))⟩]
@[go_sem] def scriptingref18_with_r4 : List AI := [
  ⟨(some 26), none, .mov (.t 5)⟩,
  ⟨(some 27), none, .mov (.t 0)⟩,
  ⟨(some 28), none, .len 0 (.t 27)⟩,
  ⟨(some 29), none, .bin .lss (.t 26) (.t 28)⟩,
  ⟨(some 30), none, .mov (.t 29)⟩,
  ⟨(some 31), (some (30, true)), .mov (.t 0)⟩,
  ⟨(some 32), (some (30, true)), .mov (.t 5)⟩,
  ⟨(some 33), (some (30, true)), .iaddr 1 (.t 31) (.t 32)⟩,
  ⟨(some 34), (some (30, true)), .load 1 false (.t 33)⟩,
  ⟨(some 35), (some (30, true)), .faddr 4 (.t 3)⟩,
  ⟨(some 36), (some (30, true)), .load 1 false (.t 35)⟩,
  ⟨(some 37), (some (30, true)), .bin .lss (.t 34) (.t 36)⟩,
  ⟨(some 38), none, .pick (.t 30) (.t 37) (.c (.bool false))⟩]
@[go_sem] def scriptingref18_with_r5 : List AI := [
  ⟨(some 39), none, .mov (.t 5)⟩,
  ⟨(some 40), none, .bin .add (.t 39) (.c (.int .i64 1))⟩,
  ⟨(some 5), none, .mov (.t 40)⟩]
def scriptingref18_with_l0 : AC := .seq (.seq (.ops [scriptingref18_with_r4]) (.cond (.t 38) (.skip) (.exit 0))) (.block 1 (.ops [scriptingref18_with_r5]))
theorem scriptingref18_with_l0_eq : scriptingref18_with_l0 = .seq (.seq (.ops [scriptingref18_with_r4]) (.cond (.t 38) (.skip) (.exit 0))) (.block 1 (.ops [scriptingref18_with_r5])) := rfl
@[go_sem] def scriptingref18_with_r6 : List AI := [
  ⟨(some 41), none, .mov (.t 5)⟩,
  ⟨(some 42), none, .mov (.t 0)⟩,
  ⟨(some 43), none, .len 0 (.t 42)⟩,
  ⟨(some 44), none, .bin .lss (.t 41) (.t 43)⟩,
  ⟨(some 45), none, .mov (.t 44)⟩,
  ⟨(some 46), (some (45, true)), .mov (.t 0)⟩,
  ⟨(some 47), (some (45, true)), .mov (.t 5)⟩,
  ⟨(some 48), (some (45, true)), .iaddr 1 (.t 46) (.t 47)⟩,
  ⟨(some 49), (some (45, true)), .load 1 false (.t 48)⟩,
  ⟨(some 50), (some (45, true)), .faddr 4 (.t 3)⟩,
  ⟨(some 51), (some (45, true)), .load 1 false (.t 50)⟩,
  ⟨(some 52), (some (45, true)), .bin .eql (.t 49) (.t 51)⟩,
  ⟨(some 53), none, .pick (.t 45) (.t 52) (.c (.bool false))⟩]
@[go_sem] def scriptingref18_with_r7 : List AI := [
  ⟨(some 54), none, .mov (.t 0)⟩,
  ⟨(some 4), none, .mov (.t 54)⟩]
@[go_sem] def scriptingref18_with_r8 : List AI := [
  ⟨(some 55), none, .mkrow 570055 1 []⟩,
  ⟨(some 56), none, .mov (.t 0)⟩,
  ⟨(some 57), none, .mov (.t 5)⟩,
  ⟨(some 58), none, .slc 1 (.t 56) none (some (.t 57))⟩,
  ⟨(some 59), none, .app 570059 1 (.t 55) (.t 58)⟩,
  ⟨(some 6), none, .mov (.t 59)⟩]
@[go_sem] def scriptingref18_with_r9 : List AI := [
  ⟨(some 60), none, .mov (.t 6)⟩,
  ⟨(some 61), none, .faddr 4 (.t 3)⟩,
  ⟨(some 62), none, .load 1 false (.t 61)⟩,
  ⟨(some 63), none, .mkisl 1 [(.t 62)]⟩,
  ⟨(some 64), none, .app 570064 1 (.t 60) (.t 63)⟩,
  ⟨(some 6), none, .mov (.t 64)⟩]
@[go_sem] def scriptingref18_with_r10 : List AI := [
  ⟨(some 65), none, .mov (.t 6)⟩,
  ⟨(some 66), none, .mov (.t 0)⟩,
  ⟨(some 67), none, .mov (.t 5)⟩,
  ⟨(some 68), none, .slc 1 (.t 66) (some (.t 67)) none⟩,
  ⟨(some 69), none, .app 570069 1 (.t 65) (.t 68)⟩,
  ⟨(some 4), none, .mov (.t 69)⟩]
@[go_sem] def scriptingref18_with_c : AC := .seq (.ops [scriptingref18_with_r0]) (.seq (.seq (.ops [scriptingref18_with_r1]) (.cond (.t 24) (.seq (.ops [scriptingref18_with_r2]) (.ret)) (.skip))) (.seq (.ops [scriptingref18_with_r3]) (.seq (.block 0 (.loop scriptingref18_with_l0)) (.seq (.seq (.ops [scriptingref18_with_r6]) (.cond (.t 53) (.seq (.ops [scriptingref18_with_r7]) (.ret)) (.skip))) (.seq (.ops [scriptingref18_with_r8]) (.seq (.ops [scriptingref18_with_r9]) (.seq (.ops [scriptingref18_with_r10]) (.ret))))))))
theorem scriptingref18_with_ok : compF Try.prog 57 = some (70, scriptingref18_with_c, [.t 4]) := by kernel_rfl

@[go_sem] def rational_gcd_r0 : List AI := [
  ⟨(some 4), none, .mov (.c (.int .i64 0))⟩]
@[go_sem] def rational_gcd_r1 : List AI := [
  ⟨(some 5), none, .mov (.t 1)⟩,
  ⟨(some 6), none, .bin .neq (.t 5) (.c (.int .i64 0))⟩]
@[go_sem] def rational_gcd_r2 : List AI := [
  ⟨(some 7), none, .mov (.t 1)⟩,
  ⟨(some 8), none, .mov (.t 0)⟩,
  ⟨(some 9), none, .mov (.t 1)⟩,
  ⟨(some 10), none, .bin .rem (.t 8) (.t 9)⟩,
  ⟨(some 0), none, .mov (.t 7)⟩,
  ⟨(some 1), none, .mov (.t 10)⟩]
def rational_gcd_l0 : AC := .seq (.seq (.ops [rational_gcd_r1]) (.cond (.t 6) (.skip) (.exit 0))) (.block 1 (.ops [rational_gcd_r2]))
theorem rational_gcd_l0_eq : rational_gcd_l0 = .seq (.seq (.ops [rational_gcd_r1]) (.cond (.t 6) (.skip) (.exit 0))) (.block 1 (.ops [rational_gcd_r2])) := rfl
@[go_sem] def rational_gcd_r3 : List AI := [
  ⟨(some 11), none, .mov (.t 0)⟩,
  ⟨(some 4), none, .mov (.t 11)⟩]
@[go_sem] def rational_gcd_c : AC := .seq (.ops [rational_gcd_r0]) (.seq (.block 0 (.loop rational_gcd_l0)) (.seq (.ops [rational_gcd_r3]) (.ret)))
theorem rational_gcd_ok : compF Try.prog 61 = some (12, rational_gcd_c, [.t 4]) := by kernel_rfl

@[go_sem] def math_bits_Len_r0 : List AI := [
  ⟨(some 2), none, .mov (.c (.int .i64 0))⟩]
@[go_sem] def math_bits_Len_r1 : List AI := [
  ⟨(some 3), none, .mov (.t 0)⟩,
  ⟨(some 4), none, .conv .u32 (.t 3)⟩,
  ⟨(some 5), none, .call 76 [(.t 4)]⟩,
  ⟨(some 2), none, .mov (.t 5)⟩]
@[go_sem] def math_bits_Len_r2 : List AI := [
  ⟨(some 6), none, .mov (.t 0)⟩,
  ⟨(some 7), none, .call 77 [(.t 6)]⟩,
  ⟨(some 2), none, .mov (.t 7)⟩]
@[go_sem] def math_bits_Len_c : AC := .seq (.ops [math_bits_Len_r0]) (.seq (.cond (.c (.bool false)) (.seq (.ops [math_bits_Len_r1]) (.ret)) (.skip)) (.seq (.ops [math_bits_Len_r2]) (.ret)))
theorem math_bits_Len_ok : compF Try.prog 66 = some (8, math_bits_Len_c, [.t 2]) := by kernel_rfl

@[go_sem] def cmp_Less_int_r0 : List AI := [
  ⟨(some 4), none, .mov (.c (.bool false))⟩]
@[go_sem] def cmp_Less_int_r1 : List AI := [
  ⟨(some 5), none, .mov (.t 0)⟩,
  ⟨(some 6), none, .call 83 [(.t 5)]⟩,
  ⟨(some 7), none, .mov (.t 6)⟩,
  ⟨(some 8), (some (7, true)), .mov (.t 1)⟩,
  ⟨(some 9), (some (7, true)), .call 83 [(.t 8)]⟩,
  ⟨(some 10), (some (7, true)), .un .not (.t 9)⟩,
  ⟨(some 11), none, .pick (.t 7) (.t 10) (.c (.bool false))⟩,
  ⟨(some 12), none, .mov (.t 11)⟩,
  ⟨(some 13), (some (12, false)), .mov (.t 0)⟩,
  ⟨(some 14), (some (12, false)), .mov (.t 1)⟩,
  ⟨(some 15), (some (12, false)), .bin .lss (.t 13) (.t 14)⟩,
  ⟨(some 16), none, .pick (.t 12) (.c (.bool true)) (.t 15)⟩,
  ⟨(some 4), none, .mov (.t 16)⟩]
@[go_sem] def cmp_Less_int_c : AC := .seq (.ops [cmp_Less_int_r0]) (.seq (.ops [cmp_Less_int_r1]) (.ret))
theorem cmp_Less_int_ok : compF Try.prog 73 = some (17, cmp_Less_int_c, [.t 4]) := by kernel_rfl

@[go_sem] def math_bits_Len32_r0 : List AI := [
  ⟨(some 2), none, .mov (.c (.int .i64 0))⟩]
@[go_sem] def math_bits_Len32_r1 : List AI := [
  ⟨(some 3), none, .mov (.t 0)⟩,
  ⟨(some 4), none, .bin .geq (.t 3) (.c (.int .u32 65536))⟩]
@[go_sem] def math_bits_Len32_r2 : List AI := [
  ⟨(some 5), none, .mov (.t 0)⟩,
  ⟨(some 6), none, .sh false (.t 5) (.c (.int .u64 16))⟩,
  ⟨(some 0), none, .mov (.t 6)⟩]
@[go_sem] def math_bits_Len32_r3 : List AI := [
  ⟨(some 2), none, .mov (.c (.int .i64 16))⟩]
@[go_sem] def math_bits_Len32_r4 : List AI := [
  ⟨(some 7), none, .mov (.t 0)⟩,
  ⟨(some 8), none, .bin .geq (.t 7) (.c (.int .u32 256))⟩]
@[go_sem] def math_bits_Len32_r5 : List AI := [
  ⟨(some 9), none, .mov (.t 0)⟩,
  ⟨(some 10), none, .sh false (.t 9) (.c (.int .u64 8))⟩,
  ⟨(some 0), none, .mov (.t 10)⟩]
@[go_sem] def math_bits_Len32_r6 : List AI := [
  ⟨(some 11), none, .mov (.t 2)⟩,
  ⟨(some 12), none, .bin .add (.t 11) (.c (.int .i64 8))⟩,
  ⟨(some 2), none, .mov (.t 12)⟩]
@[go_sem] def math_bits_Len32_r7 : List AI := [
  ⟨(some 13), none, .mov (.t 2)⟩,
  ⟨(some 14), none, .mov (.t 0)⟩,
  ⟨(some 15), none, .conv .u8 (.t 14)⟩,
  ⟨(some 16), none, .idx (.c (.str [0, 1, 2, 2, 3, 3, 3, 3, 4, 4, 4, 4, 4, 4, 4, 4, 5, 5, 5, 5, 5, 5, 5, 5, 5, 5, 5, 5, 5, 5, 5, 5, 6, 6, 6, 6, 6, 6, 6, 6, 6, 6, 6, 6, 6, 6, 6, 6, 6, 6, 6, 6, 6, 6, 6, 6, 6, 6, 6, 6, 6, 6, 6, 6, 7, 7, 7, 7, 7, 7, 7, 7, 7, 7, 7, 7, 7, 7, 7, 7, 7, 7, 7, 7, 7, 7, 7, 7, 7, 7, 7, 7, 7, 7, 7, 7, 7, 7, 7, 7, 7, 7, 7, 7, 7, 7, 7, 7, 7, 7, 7, 7, 7, 7, 7, 7, 7, 7, 7, 7, 7, 7, 7, 7, 7, 7, 7, 7, 8, 8, 8, 8, 8, 8, 8, 8, 8, 8, 8, 8, 8, 8, 8, 8, 8, 8, 8, 8, 8, 8, 8, 8, 8, 8, 8, 8, 8, 8, 8, 8, 8, 8, 8, 8, 8, 8, 8, 8, 8, 8, 8, 8, 8, 8, 8, 8, 8, 8, 8, 8, 8, 8, 8, 8, 8, 8, 8, 8, 8, 8, 8, 8, 8, 8, 8, 8, 8, 8, 8, 8, 8, 8, 8, 8, 8, 8, 8, 8, 8, 8, 8, 8, 8, 8, 8, 8, 8, 8, 8, 8, 8, 8, 8, 8, 8, 8, 8, 8, 8, 8, 8, 8, 8, 8, 8, 8, 8, 8, 8, 8, 8, 8, 8, 8, 8, 8, 8, 8, 8, 8, 8, 8, 8, 8, 8, 8])) (.t 15)⟩,
  ⟨(some 17), none, .conv .i64 (.t 16)⟩,
  ⟨(some 18), none, .bin .add (.t 13) (.t 17)⟩,
  ⟨(some 2), none, .mov (.t 18)⟩]
@[go_sem] def math_bits_Len32_c : AC := .seq (.ops [math_bits_Len32_r0]) (.seq (.seq (.ops [math_bits_Len32_r1]) (.cond (.t 4) (.seq (.ops [math_bits_Len32_r2]) (.ops [math_bits_Len32_r3])) (.skip))) (.seq (.seq (.ops [math_bits_Len32_r4]) (.cond (.t 8) (.seq (.ops [math_bits_Len32_r5]) (.ops [math_bits_Len32_r6])) (.skip))) (.seq (.ops [math_bits_Len32_r7]) (.ret))))
theorem math_bits_Len32_ok : compF Try.prog 76 = some (19, math_bits_Len32_c, [.t 2]) := by kernel_rfl

@[go_sem] def math_bits_Len64_r0 : List AI := [
  ⟨(some 2), none, .mov (.c (.int .i64 0))⟩]
@[go_sem] def math_bits_Len64_r1 : List AI := [
  ⟨(some 3), none, .mov (.t 0)⟩,
  ⟨(some 4), none, .bin .geq (.t 3) (.c (.int .u64 4294967296))⟩]
@[go_sem] def math_bits_Len64_r2 : List AI := [
  ⟨(some 5), none, .mov (.t 0)⟩,
  ⟨(some 6), none, .sh false (.t 5) (.c (.int .u64 32))⟩,
  ⟨(some 0), none, .mov (.t 6)⟩]
@[go_sem] def math_bits_Len64_r3 : List AI := [
  ⟨(some 2), none, .mov (.c (.int .i64 32))⟩]
@[go_sem] def math_bits_Len64_r4 : List AI := [
  ⟨(some 7), none, .mov (.t 0)⟩,
  ⟨(some 8), none, .bin .geq (.t 7) (.c (.int .u64 65536))⟩]
@[go_sem] def math_bits_Len64_r5 : List AI := [
  ⟨(some 9), none, .mov (.t 0)⟩,
  ⟨(some 10), none, .sh false (.t 9) (.c (.int .u64 16))⟩,
  ⟨(some 0), none, .mov (.t 10)⟩]
@[go_sem] def math_bits_Len64_r6 : List AI := [
  ⟨(some 11), none, .mov (.t 2)⟩,
  ⟨(some 12), none, .bin .add (.t 11) (.c (.int .i64 16))⟩,
  ⟨(some 2), none, .mov (.t 12)⟩]
@[go_sem] def math_bits_Len64_r7 : List AI := [
  ⟨(some 13), none, .mov (.t 0)⟩,
  ⟨(some 14), none, .bin .geq (.t 13) (.c (.int .u64 256))⟩]
@[go_sem] def math_bits_Len64_r8 : List AI := [
  ⟨(some 15), none, .mov (.t 0)⟩,
  ⟨(some 16), none, .sh false (.t 15) (.c (.int .u64 8))⟩,
  ⟨(some 0), none, .mov (.t 16)⟩]
@[go_sem] def math_bits_Len64_r9 : List AI := [
  ⟨(some 17), none, .mov (.t 2)⟩,
  ⟨(some 18), none, .bin .add (.t 17) (.c (.int .i64 8))⟩,
  ⟨(some 2), none, .mov (.t 18)⟩]
@[go_sem] def math_bits_Len64_r10 : List AI := [
  ⟨(some 19), none, .mov (.t 2)⟩,
  ⟨(some 20), none, .mov (.t 0)⟩,
  ⟨(some 21), none, .conv .u8 (.t 20)⟩,
  ⟨(some 22), none, .idx (.c (.str [0, 1, 2, 2, 3, 3, 3, 3, 4, 4, 4, 4, 4, 4, 4, 4, 5, 5, 5, 5, 5, 5, 5, 5, 5, 5, 5, 5, 5, 5, 5, 5, 6, 6, 6, 6, 6, 6, 6, 6, 6, 6, 6, 6, 6, 6, 6, 6, 6, 6, 6, 6, 6, 6, 6, 6, 6, 6, 6, 6, 6, 6, 6, 6, 7, 7, 7, 7, 7, 7, 7, 7, 7, 7, 7, 7, 7, 7, 7, 7, 7, 7, 7, 7, 7, 7, 7, 7, 7, 7, 7, 7, 7, 7, 7, 7, 7, 7, 7, 7, 7, 7, 7, 7, 7, 7, 7, 7, 7, 7, 7, 7, 7, 7, 7, 7, 7, 7, 7, 7, 7, 7, 7, 7, 7, 7, 7, 7, 8, 8, 8, 8, 8, 8, 8, 8, 8, 8, 8, 8, 8, 8, 8, 8, 8, 8, 8, 8, 8, 8, 8, 8, 8, 8, 8, 8, 8, 8, 8, 8, 8, 8, 8, 8, 8, 8, 8, 8, 8, 8, 8, 8, 8, 8, 8, 8, 8, 8, 8, 8, 8, 8, 8, 8, 8, 8, 8, 8, 8, 8, 8, 8, 8, 8, 8, 8, 8, 8, 8, 8, 8, 8, 8, 8, 8, 8, 8, 8, 8, 8, 8, 8, 8, 8, 8, 8, 8, 8, 8, 8, 8, 8, 8, 8, 8, 8, 8, 8, 8, 8, 8, 8, 8, 8, 8, 8, 8, 8, 8, 8, 8, 8, 8, 8, 8, 8, 8, 8, 8, 8, 8, 8, 8, 8, 8, 8])) (.t 21)⟩,
  ⟨(some 23), none, .conv .i64 (.t 22)⟩,
  ⟨(some 24), none, .bin .add (.t 19) (.t 23)⟩,
  ⟨(some 2), none, .mov (.t 24)⟩]
@[go_sem] def math_bits_Len64_c : AC := .seq (.ops [math_bits_Len64_r0]) (.seq (.seq (.ops [math_bits_Len64_r1]) (.cond (.t 4) (.seq (.ops [math_bits_Len64_r2]) (.ops [math_bits_Len64_r3])) (.skip))) (.seq (.seq (.ops [math_bits_Len64_r4]) (.cond (.t 8) (.seq (.ops [math_bits_Len64_r5]) (.ops [math_bits_Len64_r6])) (.skip))) (.seq (.seq (.ops [math_bits_Len64_r7]) (.cond (.t 14) (.seq (.ops [math_bits_Len64_r8]) (.ops [math_bits_Len64_r9])) (.skip))) (.seq (.ops [math_bits_Len64_r10]) (.ret)))))
theorem math_bits_Len64_ok : compF Try.prog 77 = some (25, math_bits_Len64_c, [.t 2]) := by kernel_rfl

@[go_sem] def slices_nextPowerOfTwo_r0 : List AI := [
  ⟨(some 2), none, .mov (.c (.int .u64 0))⟩]
@[go_sem] def slices_nextPowerOfTwo_r1 : List AI := [
  ⟨(some 3), none, .mov (.t 0)⟩,
  ⟨(some 4), none, .conv .u64 (.t 3)⟩,
  ⟨(some 5), none, .call 66 [(.t 4)]⟩,
  ⟨(some 6), none, .sh true (.c (.int .u64 1)) (.t 5)⟩,
  ⟨(some 2), none, .mov (.t 6)⟩]
@[go_sem] def slices_nextPowerOfTwo_c : AC := .seq (.ops [slices_nextPowerOfTwo_r0]) (.seq (.ops [slices_nextPowerOfTwo_r1]) (.ret))
theorem slices_nextPowerOfTwo_ok : compF Try.prog 79 = some (7, slices_nextPowerOfTwo_c, [.t 2]) := by kernel_rfl

@[go_sem] def slices_xorshift_Next_r0 : List AI := [
  ⟨(some 2), none, .mov (.c (.int .u64 0))⟩]
@[go_sem] def slices_xorshift_Next_r1 : List AI := [
  ⟨(some 3), none, .mov (.t 0)⟩,
  ⟨(some 4), none, .nilck (.t 3)⟩,
  ⟨(some 5), none, .load 1 false (.t 4)⟩,
  ⟨(some 6), none, .mov (.t 0)⟩,
  ⟨(some 7), none, .nilck (.t 6)⟩,
  ⟨(some 8), none, .load 1 false (.t 7)⟩,
  ⟨(some 9), none, .sh true (.t 8) (.c (.int .u64 13))⟩,
  ⟨(some 10), none, .bin .xor (.t 5) (.t 9)⟩,
  ⟨(some 11), none, .nilck (.t 3)⟩,
  ⟨none, none, .store 1 (.t 11) (.t 10)⟩]
@[go_sem] def slices_xorshift_Next_r2 : List AI := [
  ⟨(some 12), none, .mov (.t 0)⟩,
  ⟨(some 13), none, .nilck (.t 12)⟩,
  ⟨(some 14), none, .load 1 false (.t 13)⟩,
  ⟨(some 15), none, .mov (.t 0)⟩,
  ⟨(some 16), none, .nilck (.t 15)⟩,
  ⟨(some 17), none, .load 1 false (.t 16)⟩,
  ⟨(some 18), none, .sh false (.t 17) (.c (.int .u64 7))⟩,
  ⟨(some 19), none, .bin .xor (.t 14) (.t 18)⟩,
  ⟨(some 20), none, .nilck (.t 12)⟩,
  ⟨none, none, .store 1 (.t 20) (.t 19)⟩]
@[go_sem] def slices_xorshift_Next_r3 : List AI := [
  ⟨(some 21), none, .mov (.t 0)⟩,
  ⟨(some 22), none, .nilck (.t 21)⟩,
  ⟨(some 23), none, .load 1 false (.t 22)⟩,
  ⟨(some 24), none, .mov (.t 0)⟩,
  ⟨(some 25), none, .nilck (.t 24)⟩,
  ⟨(some 26), none, .load 1 false (.t 25)⟩,
  ⟨(some 27), none, .sh true (.t 26) (.c (.int .u64 17))⟩,
  ⟨(some 28), none, .bin .xor (.t 23) (.t 27)⟩,
  ⟨(some 29), none, .nilck (.t 21)⟩,
  ⟨none, none, .store 1 (.t 29) (.t 28)⟩]
@[go_sem] def slices_xorshift_Next_r4 : List AI := [
  ⟨(some 30), none, .mov (.t 0)⟩,
  ⟨(some 31), none, .nilck (.t 30)⟩,
  ⟨(some 32), none, .load 1 false (.t 31)⟩,
  ⟨(some 2), none, .mov (.t 32)⟩]
@[go_sem] def slices_xorshift_Next_c : AC := .seq (.ops [slices_xorshift_Next_r0]) (.seq (.ops [slices_xorshift_Next_r1]) (.seq (.ops [slices_xorshift_Next_r2]) (.seq (.ops [slices_xorshift_Next_r3]) (.seq (.ops [slices_xorshift_Next_r4]) (.ret)))))
theorem slices_xorshift_Next_ok : compF Try.prog 80 = some (33, slices_xorshift_Next_c, [.t 2]) := by kernel_rfl

@[go_sem] def cmp_isNaN_int_r0 : List AI := [
  ⟨(some 2), none, .mov (.c (.bool false))⟩]
@[go_sem] def cmp_isNaN_int_r1 : List AI := [
  ⟨(some 3), none, .mov (.t 0)⟩,
  ⟨(some 4), none, .mov (.t 0)⟩,
  ⟨(some 5), none, .bin .neq (.t 3) (.t 4)⟩,
  ⟨(some 2), none, .mov (.t 5)⟩]
@[go_sem] def cmp_isNaN_int_c : AC := .seq (.ops [cmp_isNaN_int_r0]) (.seq (.ops [cmp_isNaN_int_r1]) (.ret))
theorem cmp_isNaN_int_ok : compF Try.prog 83 = some (6, cmp_isNaN_int_c, [.t 2]) := by kernel_rfl

@[go_sem] def slices_order2Ordered_int_r0 : List AI := [
  ⟨(some 8), none, .mov (.c (.int .i64 0))⟩,
  ⟨(some 9), none, .mov (.c (.int .i64 0))⟩]
@[go_sem] def slices_order2Ordered_int_r1 : List AI := [
  ⟨(some 10), none, .mov (.t 0)⟩,
  ⟨(some 11), none, .mov (.t 2)⟩,
  ⟨(some 12), none, .iaddr 1 (.t 10) (.t 11)⟩,
  ⟨(some 13), none, .load 1 false (.t 12)⟩,
  ⟨(some 14), none, .mov (.t 0)⟩,
  ⟨(some 15), none, .mov (.t 1)⟩,
  ⟨(some 16), none, .iaddr 1 (.t 14) (.t 15)⟩,
  ⟨(some 17), none, .load 1 false (.t 16)⟩,
  ⟨(some 18), none, .call 73 [(.t 13), (.t 17)]⟩]
@[go_sem] def slices_order2Ordered_int_r2 : List AI := [
  ⟨(some 19), none, .mov (.t 3)⟩,
  ⟨(some 20), none, .nilck (.t 19)⟩,
  ⟨(some 21), none, .load 1 false (.t 20)⟩,
  ⟨(some 22), none, .bin .add (.t 21) (.c (.int .i64 1))⟩,
  ⟨(some 23), none, .nilck (.t 19)⟩,
  ⟨none, none, .store 1 (.t 23) (.t 22)⟩]
@[go_sem] def slices_order2Ordered_int_r3 : List AI := [
  ⟨(some 24), none, .mov (.t 2)⟩,
  ⟨(some 25), none, .mov (.t 1)⟩,
  ⟨(some 8), none, .mov (.t 24)⟩,
  ⟨(some 9), none, .mov (.t 25)⟩]
@[go_sem] def slices_order2Ordered_int_r4 : List AI := [
  ⟨(some 26), none, .mov (.t 1)⟩,
  ⟨(some 27), none, .mov (.t 2)⟩,
  ⟨(some 8), none, .mov (.t 26)⟩,
  ⟨(some 9), none, .mov (.t 27)⟩]
@[go_sem] def slices_order2Ordered_int_c : AC := .seq (.ops [slices_order2Ordered_int_r0]) (.seq (.seq (.ops [slices_order2Ordered_int_r1]) (.cond (.t 18) (.seq (.ops [slices_order2Ordered_int_r2]) (.seq (.ops [slices_order2Ordered_int_r3]) (.ret))) (.skip))) (.seq (.ops [slices_order2Ordered_int_r4]) (.ret)))
theorem slices_order2Ordered_int_ok : compF Try.prog 84 = some (28, slices_order2Ordered_int_c, [.t 8, .t 9]) := by kernel_rfl

end Go.Proofs.Ytnjgkcafmlmpcaa
