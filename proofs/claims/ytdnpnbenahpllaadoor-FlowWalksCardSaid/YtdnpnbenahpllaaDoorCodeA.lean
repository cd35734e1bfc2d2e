/-
  The code of the functions that this seat reaches, translated into abstract code (printed by a program, each proved to be the translation). No condition.
-/
import Derived.Test.YtdnpnbenahpllaaDoorExe
import Derived.Test.YtdnpnbenahpllaaDoorChecked
set_option maxRecDepth 1000000
namespace Go.Proofs.YtdnpnbenahpllaaDoor
open Go.Abs

@[go_sem] def scriptinglaw35_FlowLives_r0 : List AI := [
  ⟨(some 1), none, .box 30001 11 (.t 0)⟩,
  ⟨(some 2), none, .mov (.c (.bool false))⟩]
@[go_sem] def scriptinglaw35_FlowLives_r1 : List AI := [
  ⟨(some 6), none, .load 11 true (.t 1)⟩,
  ⟨(some 7), none, .call 6 [(.t 6)]⟩]
@[go_sem] def scriptinglaw35_FlowLives_r2 : List AI := [
  ⟨(some 8), none, .call 7 []⟩,
  ⟨(some 2), none, .mov (.t 8)⟩]
@[go_sem] def scriptinglaw35_FlowLives_r3 : List AI := [
  ⟨(some 9), none, .load 11 true (.t 1)⟩,
  ⟨(some 10), none, .call 8 [(.t 9)]⟩,
  ⟨none, none, .store 11 (.t 1) (.t 10)⟩]
@[go_sem] def scriptinglaw35_FlowLives_r4_0 : List AI := [
  ⟨(some 11), none, .load 11 true (.t 1)⟩,
  ⟨(some 13), none, .load 11 true (.t 1)⟩,
  ⟨(some 12), none, .call 9 [(.t 11)]⟩,
  ⟨(some 14), none, .call 10 [(.t 13)]⟩,
  ⟨(some 3), none, .mov (.t 12)⟩,
  ⟨(some 4), none, .mov (.t 14)⟩]
@[go_sem] def scriptinglaw35_FlowLives_r4_1 : List AI := [
  ⟨(some 11), none, .load 11 true (.t 1)⟩,
  ⟨(some 12), none, .call 9 [(.t 11)]⟩,
  ⟨(some 13), none, .load 11 true (.t 1)⟩,
  ⟨(some 14), none, .call 10 [(.t 13)]⟩,
  ⟨(some 3), none, .mov (.t 12)⟩,
  ⟨(some 4), none, .mov (.t 14)⟩]
@[go_sem] def scriptinglaw35_FlowLives_r5 : List AI := [
  ⟨(some 15), none, .mov (.t 3)⟩,
  ⟨(some 16), none, .len 0 (.t 15)⟩,
  ⟨(some 17), none, .mov (.t 4)⟩,
  ⟨(some 18), none, .len 0 (.t 17)⟩,
  ⟨(some 19), none, .bin .neq (.t 16) (.t 18)⟩]
@[go_sem] def scriptinglaw35_FlowLives_r6 : List AI := [
  ⟨(some 2), none, .mov (.c (.bool false))⟩]
@[go_sem] def scriptinglaw35_FlowLives_r7 : List AI := [
  ⟨(some 20), none, .mov (.t 3)⟩,
  ⟨(some 21), none, .len 0 (.t 20)⟩,
  ⟨(some 22), none, .mov (.c (.int .i64 0))⟩]
@[go_sem] def scriptinglaw35_FlowLives_r8 : List AI := [
  ⟨(some 23), none, .bin .lss (.t 22) (.t 21)⟩]
@[go_sem] def scriptinglaw35_FlowLives_r9 : List AI := [
  ⟨(some 24), none, .mov (.t 22)⟩,
  ⟨(some 5), none, .mov (.t 24)⟩]
@[go_sem] def scriptinglaw35_FlowLives_r10 : List AI := [
  ⟨(some 25), none, .mov (.t 3)⟩,
  ⟨(some 26), none, .mov (.t 5)⟩,
  ⟨(some 27), none, .iaddr 1 (.t 25) (.t 26)⟩,
  ⟨(some 28), none, .load 1 false (.t 27)⟩,
  ⟨(some 29), none, .mov (.t 4)⟩,
  ⟨(some 30), none, .mov (.t 5)⟩,
  ⟨(some 31), none, .iaddr 1 (.t 29) (.t 30)⟩,
  ⟨(some 32), none, .load 1 false (.t 31)⟩,
  ⟨(some 33), none, .call 11 [(.t 28), (.t 32)]⟩,
  ⟨(some 34), none, .un .not (.t 33)⟩]
@[go_sem] def scriptinglaw35_FlowLives_r11 : List AI := [
  ⟨(some 2), none, .mov (.c (.bool false))⟩]
@[go_sem] def scriptinglaw35_FlowLives_r12 : List AI := [
  ⟨(some 35), none, .bin .add (.t 22) (.c (.int .i64 1))⟩,
  ⟨(some 22), none, .mov (.t 35)⟩]
def scriptinglaw35_FlowLives_l0 : AC := .seq (.ops [scriptinglaw35_FlowLives_r8]) (.seq (.cond (.t 23) (.skip) (.exit 0)) (.seq (.block 1 (.seq (.ops [scriptinglaw35_FlowLives_r9]) (.seq (.ops [scriptinglaw35_FlowLives_r10]) (.cond (.t 34) (.seq (.ops [scriptinglaw35_FlowLives_r11]) (.ret)) (.skip))))) (.ops [scriptinglaw35_FlowLives_r12])))
theorem scriptinglaw35_FlowLives_l0_eq : scriptinglaw35_FlowLives_l0 = .seq (.ops [scriptinglaw35_FlowLives_r8]) (.seq (.cond (.t 23) (.skip) (.exit 0)) (.seq (.block 1 (.seq (.ops [scriptinglaw35_FlowLives_r9]) (.seq (.ops [scriptinglaw35_FlowLives_r10]) (.cond (.t 34) (.seq (.ops [scriptinglaw35_FlowLives_r11]) (.ret)) (.skip))))) (.ops [scriptinglaw35_FlowLives_r12]))) := rfl
@[go_sem] def scriptinglaw35_FlowLives_r13 : List AI := [
  ⟨(some 36), none, .call 7 []⟩,
  ⟨(some 2), none, .mov (.t 36)⟩]
@[go_sem] def scriptinglaw35_FlowLives_c : AC := .seq (.ops [scriptinglaw35_FlowLives_r0]) (.seq (.seq (.ops [scriptinglaw35_FlowLives_r1]) (.cond (.t 7) (.seq (.ops [scriptinglaw35_FlowLives_r2]) (.ret)) (.skip))) (.seq (.ops [scriptinglaw35_FlowLives_r3]) (.seq (.ops [scriptinglaw35_FlowLives_r4_0, scriptinglaw35_FlowLives_r4_1]) (.seq (.seq (.ops [scriptinglaw35_FlowLives_r5]) (.cond (.t 19) (.seq (.ops [scriptinglaw35_FlowLives_r6]) (.ret)) (.skip))) (.seq (.seq (.ops [scriptinglaw35_FlowLives_r7]) (.block 0 (.loop scriptinglaw35_FlowLives_l0))) (.seq (.ops [scriptinglaw35_FlowLives_r13]) (.ret)))))))
theorem scriptinglaw35_FlowLives_ok : compF Tryd.prog 3 = some (37, scriptinglaw35_FlowLives_c, [.t 2]) := by kernel_rfl

@[go_sem] def scriptinglaw35_FlowWalks_r0 : List AI := [
  ⟨(some 2), none, .box 40002 11 (.t 0)⟩,
  ⟨(some 4), none, .mov (.c (.bool false))⟩]
@[go_sem] def scriptinglaw35_FlowWalks_r1 : List AI := [
  ⟨(some 17), none, .load 11 true (.t 2)⟩,
  ⟨(some 18), none, .call 6 [(.t 17)]⟩,
  ⟨(some 19), none, .mov (.t 18)⟩,
  ⟨(some 20), (some (19, false)), .faddr 5 (.t 2)⟩,
  ⟨(some 21), (some (19, false)), .load 1 false (.t 20)⟩,
  ⟨(some 22), (some (19, false)), .len 0 (.t 21)⟩,
  ⟨(some 23), (some (19, false)), .bin .eql (.t 22) (.c (.int .i64 0))⟩,
  ⟨(some 24), none, .pick (.t 19) (.c (.bool true)) (.t 23)⟩]
@[go_sem] def scriptinglaw35_FlowWalks_r2 : List AI := [
  ⟨(some 25), none, .call 7 []⟩,
  ⟨(some 4), none, .mov (.t 25)⟩]
@[go_sem] def scriptinglaw35_FlowWalks_r3 : List AI := [
  ⟨(some 26), none, .load 11 true (.t 2)⟩,
  ⟨(some 27), none, .call 8 [(.t 26)]⟩,
  ⟨none, none, .store 11 (.t 2) (.t 27)⟩]
@[go_sem] def scriptinglaw35_FlowWalks_r4_0 : List AI := [
  ⟨(some 28), none, .load 11 true (.t 2)⟩,
  ⟨(some 30), none, .load 11 true (.t 2)⟩,
  ⟨(some 32), none, .load 11 true (.t 2)⟩,
  ⟨(some 29), none, .call 12 [(.t 28)]⟩,
  ⟨(some 31), none, .call 13 [(.t 30)]⟩,
  ⟨(some 33), none, .call 9 [(.t 32)]⟩,
  ⟨(some 5), none, .mov (.t 29)⟩,
  ⟨(some 6), none, .mov (.t 31)⟩,
  ⟨(some 7), none, .mov (.t 33)⟩]
@[go_sem] def scriptinglaw35_FlowWalks_r4_1 : List AI := [
  ⟨(some 28), none, .load 11 true (.t 2)⟩,
  ⟨(some 30), none, .load 11 true (.t 2)⟩,
  ⟨(some 29), none, .call 12 [(.t 28)]⟩,
  ⟨(some 32), none, .load 11 true (.t 2)⟩,
  ⟨(some 31), none, .call 13 [(.t 30)]⟩,
  ⟨(some 33), none, .call 9 [(.t 32)]⟩,
  ⟨(some 5), none, .mov (.t 29)⟩,
  ⟨(some 6), none, .mov (.t 31)⟩,
  ⟨(some 7), none, .mov (.t 33)⟩]
@[go_sem] def scriptinglaw35_FlowWalks_r4_2 : List AI := [
  ⟨(some 28), none, .load 11 true (.t 2)⟩,
  ⟨(some 30), none, .load 11 true (.t 2)⟩,
  ⟨(some 29), none, .call 12 [(.t 28)]⟩,
  ⟨(some 31), none, .call 13 [(.t 30)]⟩,
  ⟨(some 32), none, .load 11 true (.t 2)⟩,
  ⟨(some 33), none, .call 9 [(.t 32)]⟩,
  ⟨(some 5), none, .mov (.t 29)⟩,
  ⟨(some 6), none, .mov (.t 31)⟩,
  ⟨(some 7), none, .mov (.t 33)⟩]
@[go_sem] def scriptinglaw35_FlowWalks_r4_3 : List AI := [
  ⟨(some 28), none, .load 11 true (.t 2)⟩,
  ⟨(some 32), none, .load 11 true (.t 2)⟩,
  ⟨(some 29), none, .call 12 [(.t 28)]⟩,
  ⟨(some 30), none, .load 11 true (.t 2)⟩,
  ⟨(some 31), none, .call 13 [(.t 30)]⟩,
  ⟨(some 33), none, .call 9 [(.t 32)]⟩,
  ⟨(some 5), none, .mov (.t 29)⟩,
  ⟨(some 6), none, .mov (.t 31)⟩,
  ⟨(some 7), none, .mov (.t 33)⟩]
@[go_sem] def scriptinglaw35_FlowWalks_r4_4 : List AI := [
  ⟨(some 28), none, .load 11 true (.t 2)⟩,
  ⟨(some 29), none, .call 12 [(.t 28)]⟩,
  ⟨(some 30), none, .load 11 true (.t 2)⟩,
  ⟨(some 32), none, .load 11 true (.t 2)⟩,
  ⟨(some 31), none, .call 13 [(.t 30)]⟩,
  ⟨(some 33), none, .call 9 [(.t 32)]⟩,
  ⟨(some 5), none, .mov (.t 29)⟩,
  ⟨(some 6), none, .mov (.t 31)⟩,
  ⟨(some 7), none, .mov (.t 33)⟩]
@[go_sem] def scriptinglaw35_FlowWalks_r4_5 : List AI := [
  ⟨(some 28), none, .load 11 true (.t 2)⟩,
  ⟨(some 29), none, .call 12 [(.t 28)]⟩,
  ⟨(some 30), none, .load 11 true (.t 2)⟩,
  ⟨(some 31), none, .call 13 [(.t 30)]⟩,
  ⟨(some 32), none, .load 11 true (.t 2)⟩,
  ⟨(some 33), none, .call 9 [(.t 32)]⟩,
  ⟨(some 5), none, .mov (.t 29)⟩,
  ⟨(some 6), none, .mov (.t 31)⟩,
  ⟨(some 7), none, .mov (.t 33)⟩]
@[go_sem] def scriptinglaw35_FlowWalks_r5 : List AI := [
  ⟨(some 34), none, .mov (.t 5)⟩,
  ⟨(some 35), none, .len 0 (.t 34)⟩,
  ⟨(some 36), none, .faddr 5 (.t 2)⟩,
  ⟨(some 37), none, .load 1 false (.t 36)⟩,
  ⟨(some 38), none, .len 0 (.t 37)⟩,
  ⟨(some 39), none, .bin .neq (.t 35) (.t 38)⟩,
  ⟨(some 40), none, .mov (.t 39)⟩,
  ⟨(some 41), (some (40, false)), .mov (.t 7)⟩,
  ⟨(some 42), (some (40, false)), .len 0 (.t 41)⟩,
  ⟨(some 43), (some (40, false)), .faddr 5 (.t 2)⟩,
  ⟨(some 44), (some (40, false)), .load 1 false (.t 43)⟩,
  ⟨(some 45), (some (40, false)), .len 0 (.t 44)⟩,
  ⟨(some 46), (some (40, false)), .bin .neq (.t 42) (.t 45)⟩,
  ⟨(some 47), none, .pick (.t 40) (.c (.bool true)) (.t 46)⟩]
@[go_sem] def scriptinglaw35_FlowWalks_r6 : List AI := [
  ⟨(some 4), none, .mov (.c (.bool false))⟩]
@[go_sem] def scriptinglaw35_FlowWalks_r7 : List AI := [
  ⟨(some 48), none, .faddr 4 (.t 2)⟩,
  ⟨(some 49), none, .load 1 false (.t 48)⟩,
  ⟨(some 50), none, .mm true [(.t 49), (.c (.int .i64 0))]⟩,
  ⟨(some 51), none, .mksl 40051 [(.bool false)] (.t 50)⟩,
  ⟨(some 8), none, .mov (.t 51)⟩]
@[go_sem] def scriptinglaw35_FlowWalks_r8 : List AI := [
  ⟨(some 9), none, .mov (.c (.int .i64 0))⟩]
@[go_sem] def scriptinglaw35_FlowWalks_r9 : List AI := [
  ⟨(some 10), none, .mov (.c (.int .i64 0))⟩]
@[go_sem] def scriptinglaw35_FlowWalks_r10 : List AI := [
  ⟨(some 52), none, .mov (.t 10)⟩,
  ⟨(some 53), none, .mov (.t 1)⟩,
  ⟨(some 54), none, .len 0 (.t 53)⟩,
  ⟨(some 55), none, .bin .lss (.t 52) (.t 54)⟩,
  ⟨(some 56), none, .mov (.t 55)⟩,
  ⟨(some 57), (some (56, true)), .mov (.t 10)⟩,
  ⟨(some 58), (some (56, true)), .bin .lss (.t 57) (.c (.int .i64 200))⟩,
  ⟨(some 59), none, .pick (.t 56) (.t 58) (.c (.bool false))⟩]
@[go_sem] def scriptinglaw35_FlowWalks_r11 : List AI := [
  ⟨(some 62), none, .mov (.t 5)⟩,
  ⟨(some 63), none, .mov (.t 9)⟩,
  ⟨(some 64), none, .iaddr 1 (.t 62) (.t 63)⟩,
  ⟨(some 65), none, .load 1 false (.t 64)⟩,
  ⟨(some 66), none, .un .not (.t 65)⟩]
@[go_sem] def scriptinglaw35_FlowWalks_r12 : List AI := [
  ⟨(some 4), none, .mov (.c (.bool false))⟩]
@[go_sem] def scriptinglaw35_FlowWalks_r13 : List AI := [
  ⟨(some 68), none, .faddr 5 (.t 2)⟩,
  ⟨(some 69), none, .load 1 false (.t 68)⟩,
  ⟨(some 70), none, .mov (.t 9)⟩,
  ⟨(some 71), none, .iaddr 5 (.t 69) (.t 70)⟩,
  ⟨(some 72), none, .load 5 true (.t 71)⟩,
  ⟨(some 73), none, .call 14 [(.t 72)]⟩,
  ⟨(some 67), none, .mov (.t 73)⟩,
  ⟨(some 74), none, .ext 0 (.t 67)⟩,
  ⟨(some 75), none, .ext 1 (.t 67)⟩,
  ⟨(some 11), none, .mov (.t 74)⟩,
  ⟨(some 12), none, .mov (.t 75)⟩]
@[go_sem] def scriptinglaw35_FlowWalks_r14 : List AI := [
  ⟨(some 76), none, .mov (.t 8)⟩,
  ⟨(some 77), none, .len 0 (.t 76)⟩,
  ⟨(some 78), none, .mov (.c (.int .i64 0))⟩]
@[go_sem] def scriptinglaw35_FlowWalks_r15 : List AI := [
  ⟨(some 79), none, .bin .lss (.t 78) (.t 77)⟩]
@[go_sem] def scriptinglaw35_FlowWalks_r16 : List AI := [
  ⟨(some 80), none, .mov (.t 78)⟩,
  ⟨(some 13), none, .mov (.t 80)⟩]
@[go_sem] def scriptinglaw35_FlowWalks_r17 : List AI := [
  ⟨(some 81), none, .mov (.t 11)⟩,
  ⟨(some 82), none, .mov (.t 13)⟩,
  ⟨(some 83), none, .call 15 [(.t 81), (.t 82)]⟩,
  ⟨(some 84), none, .mov (.t 83)⟩,
  ⟨(some 85), (some (84, false)), .mov (.t 12)⟩,
  ⟨(some 86), (some (84, false)), .bin .geq (.t 85) (.c (.int .i64 0))⟩,
  ⟨(some 87), (some (84, false)), .mov (.t 86)⟩,
  ⟨(some 88), (some (87, true)), .mov (.t 13)⟩,
  ⟨(some 89), (some (87, true)), .mov (.t 12)⟩,
  ⟨(some 90), (some (87, true)), .bin .geq (.t 88) (.t 89)⟩,
  ⟨(some 91), (some (84, false)), .pick (.t 87) (.t 90) (.c (.bool false))⟩,
  ⟨(some 92), none, .pick (.t 84) (.c (.bool true)) (.t 91)⟩,
  ⟨(some 93), none, .mov (.t 92)⟩,
  ⟨(some 94), (some (93, true)), .mov (.t 8)⟩,
  ⟨(some 95), (some (93, true)), .mov (.t 13)⟩,
  ⟨(some 96), (some (93, true)), .iaddr 1 (.t 94) (.t 95)⟩,
  ⟨(some 97), (some (93, true)), .load 1 false (.t 96)⟩,
  ⟨(some 98), (some (93, true)), .un .not (.t 97)⟩,
  ⟨(some 99), none, .pick (.t 93) (.t 98) (.c (.bool false))⟩,
  ⟨(some 100), none, .mov (.t 99)⟩,
  ⟨(some 101), (some (100, true)), .mov (.t 7)⟩,
  ⟨(some 102), (some (100, true)), .iaddr 1 (.t 101) (.c (.int .i64 0))⟩,
  ⟨(some 103), (some (100, true)), .load 1 false (.t 102)⟩,
  ⟨(some 104), (some (100, true)), .mov (.t 13)⟩,
  ⟨(some 105), (some (100, true)), .call 15 [(.t 103), (.t 104)]⟩,
  ⟨(some 106), (some (100, true)), .un .not (.t 105)⟩,
  ⟨(some 107), none, .pick (.t 100) (.t 106) (.c (.bool false))⟩]
@[go_sem] def scriptinglaw35_FlowWalks_r18 : List AI := [
  ⟨(some 4), none, .mov (.c (.bool false))⟩]
@[go_sem] def scriptinglaw35_FlowWalks_r19 : List AI := [
  ⟨(some 108), none, .bin .add (.t 78) (.c (.int .i64 1))⟩,
  ⟨(some 78), none, .mov (.t 108)⟩]
def scriptinglaw35_FlowWalks_l1 : AC := .seq (.ops [scriptinglaw35_FlowWalks_r15]) (.seq (.cond (.t 79) (.skip) (.exit 2)) (.seq (.block 3 (.seq (.ops [scriptinglaw35_FlowWalks_r16]) (.seq (.ops [scriptinglaw35_FlowWalks_r17]) (.cond (.t 107) (.seq (.ops [scriptinglaw35_FlowWalks_r18]) (.ret)) (.skip))))) (.ops [scriptinglaw35_FlowWalks_r19])))
theorem scriptinglaw35_FlowWalks_l1_eq : scriptinglaw35_FlowWalks_l1 = .seq (.ops [scriptinglaw35_FlowWalks_r15]) (.seq (.cond (.t 79) (.skip) (.exit 2)) (.seq (.block 3 (.seq (.ops [scriptinglaw35_FlowWalks_r16]) (.seq (.ops [scriptinglaw35_FlowWalks_r17]) (.cond (.t 107) (.seq (.ops [scriptinglaw35_FlowWalks_r18]) (.ret)) (.skip))))) (.ops [scriptinglaw35_FlowWalks_r19]))) := rfl
@[go_sem] def scriptinglaw35_FlowWalks_r20 : List AI := [
  ⟨(some 109), none, .load 11 true (.t 2)⟩,
  ⟨(some 110), none, .mov (.t 9)⟩,
  ⟨(some 111), none, .call 16 [(.t 109), (.t 110)]⟩,
  ⟨(some 14), none, .mov (.t 111)⟩]
@[go_sem] def scriptinglaw35_FlowWalks_r21 : List AI := [
  ⟨(some 112), none, .mov (.t 14)⟩,
  ⟨(some 113), none, .len 0 (.t 112)⟩,
  ⟨(some 114), none, .bin .eql (.t 113) (.c (.int .i64 0))⟩]
@[go_sem] def scriptinglaw35_FlowWalks_r22 : List AI := [
  ⟨(some 115), none, .mov (.t 14)⟩,
  ⟨(some 116), none, .mov (.t 1)⟩,
  ⟨(some 117), none, .mov (.t 10)⟩,
  ⟨(some 118), none, .iaddr 1 (.t 116) (.t 117)⟩,
  ⟨(some 119), none, .load 1 false (.t 118)⟩,
  ⟨(some 120), none, .conv .i64 (.t 119)⟩,
  ⟨(some 121), none, .mov (.t 14)⟩,
  ⟨(some 122), none, .len 0 (.t 121)⟩,
  ⟨(some 123), none, .bin .rem (.t 120) (.t 122)⟩,
  ⟨(some 124), none, .iaddr 1 (.t 115) (.t 123)⟩,
  ⟨(some 125), none, .load 1 false (.t 124)⟩,
  ⟨(some 15), none, .mov (.t 125)⟩]
@[go_sem] def scriptinglaw35_FlowWalks_r23 : List AI := [
  ⟨(some 126), none, .mov (.t 15)⟩,
  ⟨(some 127), none, .mov (.t 9)⟩,
  ⟨(some 128), none, .bin .leq (.t 126) (.t 127)⟩,
  ⟨(some 129), none, .mov (.t 128)⟩,
  ⟨(some 130), (some (129, true)), .mov (.t 6)⟩,
  ⟨(some 131), (some (129, true)), .mov (.t 15)⟩,
  ⟨(some 132), (some (129, true)), .call 15 [(.t 130), (.t 131)]⟩,
  ⟨(some 133), (some (129, true)), .un .not (.t 132)⟩,
  ⟨(some 134), none, .pick (.t 129) (.t 133) (.c (.bool false))⟩]
@[go_sem] def scriptinglaw35_FlowWalks_r24 : List AI := [
  ⟨(some 4), none, .mov (.c (.bool false))⟩]
@[go_sem] def scriptinglaw35_FlowWalks_r25 : List AI := [
  ⟨(some 135), none, .mov (.t 8)⟩,
  ⟨(some 136), none, .len 0 (.t 135)⟩,
  ⟨(some 137), none, .mov (.c (.int .i64 0))⟩]
@[go_sem] def scriptinglaw35_FlowWalks_r26 : List AI := [
  ⟨(some 138), none, .bin .lss (.t 137) (.t 136)⟩]
@[go_sem] def scriptinglaw35_FlowWalks_r27 : List AI := [
  ⟨(some 139), none, .mov (.t 137)⟩,
  ⟨(some 16), none, .mov (.t 139)⟩]
@[go_sem] def scriptinglaw35_FlowWalks_r28 : List AI := [
  ⟨(some 140), none, .mov (.t 8)⟩,
  ⟨(some 141), none, .mov (.t 16)⟩,
  ⟨(some 142), none, .mov (.t 8)⟩,
  ⟨(some 143), none, .mov (.t 16)⟩,
  ⟨(some 144), none, .iaddr 1 (.t 142) (.t 143)⟩,
  ⟨(some 145), none, .load 1 false (.t 144)⟩,
  ⟨(some 146), none, .mov (.t 145)⟩,
  ⟨(some 147), (some (146, false)), .load 11 true (.t 2)⟩,
  ⟨(some 148), (some (146, false)), .mov (.t 9)⟩,
  ⟨(some 149), (some (146, false)), .mov (.t 15)⟩,
  ⟨(some 150), (some (146, false)), .mov (.t 16)⟩,
  ⟨(some 151), (some (146, false)), .call 17 [(.t 147), (.t 148), (.t 149), (.t 150)]⟩,
  ⟨(some 152), none, .pick (.t 146) (.c (.bool true)) (.t 151)⟩,
  ⟨(some 153), none, .iaddr 1 (.t 140) (.t 141)⟩,
  ⟨none, none, .store 1 (.t 153) (.t 152)⟩]
@[go_sem] def scriptinglaw35_FlowWalks_r29 : List AI := [
  ⟨(some 154), none, .bin .add (.t 137) (.c (.int .i64 1))⟩,
  ⟨(some 137), none, .mov (.t 154)⟩]
def scriptinglaw35_FlowWalks_l2 : AC := .seq (.ops [scriptinglaw35_FlowWalks_r26]) (.seq (.cond (.t 138) (.skip) (.exit 4)) (.seq (.block 5 (.seq (.ops [scriptinglaw35_FlowWalks_r27]) (.ops [scriptinglaw35_FlowWalks_r28]))) (.ops [scriptinglaw35_FlowWalks_r29])))
theorem scriptinglaw35_FlowWalks_l2_eq : scriptinglaw35_FlowWalks_l2 = .seq (.ops [scriptinglaw35_FlowWalks_r26]) (.seq (.cond (.t 138) (.skip) (.exit 4)) (.seq (.block 5 (.seq (.ops [scriptinglaw35_FlowWalks_r27]) (.ops [scriptinglaw35_FlowWalks_r28]))) (.ops [scriptinglaw35_FlowWalks_r29]))) := rfl
@[go_sem] def scriptinglaw35_FlowWalks_r30 : List AI := [
  ⟨(some 155), none, .mov (.t 15)⟩,
  ⟨(some 9), none, .mov (.t 155)⟩]
@[go_sem] def scriptinglaw35_FlowWalks_r31 : List AI := [
  ⟨(some 60), none, .mov (.t 10)⟩,
  ⟨(some 61), none, .bin .add (.t 60) (.c (.int .i64 1))⟩,
  ⟨(some 10), none, .mov (.t 61)⟩]
def scriptinglaw35_FlowWalks_l0 : AC := .seq (.seq (.ops [scriptinglaw35_FlowWalks_r10]) (.cond (.t 59) (.skip) (.exit 0))) (.seq (.block 1 (.seq (.seq (.ops [scriptinglaw35_FlowWalks_r11]) (.cond (.t 66) (.seq (.ops [scriptinglaw35_FlowWalks_r12]) (.ret)) (.skip))) (.seq (.ops [scriptinglaw35_FlowWalks_r13]) (.seq (.seq (.ops [scriptinglaw35_FlowWalks_r14]) (.block 2 (.loop scriptinglaw35_FlowWalks_l1))) (.seq (.ops [scriptinglaw35_FlowWalks_r20]) (.seq (.seq (.ops [scriptinglaw35_FlowWalks_r21]) (.cond (.t 114) (.exit 0) (.skip))) (.seq (.ops [scriptinglaw35_FlowWalks_r22]) (.seq (.seq (.ops [scriptinglaw35_FlowWalks_r23]) (.cond (.t 134) (.seq (.ops [scriptinglaw35_FlowWalks_r24]) (.ret)) (.skip))) (.seq (.seq (.ops [scriptinglaw35_FlowWalks_r25]) (.block 4 (.loop scriptinglaw35_FlowWalks_l2))) (.ops [scriptinglaw35_FlowWalks_r30])))))))))) (.ops [scriptinglaw35_FlowWalks_r31]))
theorem scriptinglaw35_FlowWalks_l0_eq : scriptinglaw35_FlowWalks_l0 = .seq (.seq (.ops [scriptinglaw35_FlowWalks_r10]) (.cond (.t 59) (.skip) (.exit 0))) (.seq (.block 1 (.seq (.seq (.ops [scriptinglaw35_FlowWalks_r11]) (.cond (.t 66) (.seq (.ops [scriptinglaw35_FlowWalks_r12]) (.ret)) (.skip))) (.seq (.ops [scriptinglaw35_FlowWalks_r13]) (.seq (.seq (.ops [scriptinglaw35_FlowWalks_r14]) (.block 2 (.loop scriptinglaw35_FlowWalks_l1))) (.seq (.ops [scriptinglaw35_FlowWalks_r20]) (.seq (.seq (.ops [scriptinglaw35_FlowWalks_r21]) (.cond (.t 114) (.exit 0) (.skip))) (.seq (.ops [scriptinglaw35_FlowWalks_r22]) (.seq (.seq (.ops [scriptinglaw35_FlowWalks_r23]) (.cond (.t 134) (.seq (.ops [scriptinglaw35_FlowWalks_r24]) (.ret)) (.skip))) (.seq (.seq (.ops [scriptinglaw35_FlowWalks_r25]) (.block 4 (.loop scriptinglaw35_FlowWalks_l2))) (.ops [scriptinglaw35_FlowWalks_r30])))))))))) (.ops [scriptinglaw35_FlowWalks_r31])) := rfl
@[go_sem] def scriptinglaw35_FlowWalks_r32 : List AI := [
  ⟨(some 156), none, .call 7 []⟩,
  ⟨(some 4), none, .mov (.t 156)⟩]
@[go_sem] def scriptinglaw35_FlowWalks_c : AC := .seq (.ops [scriptinglaw35_FlowWalks_r0]) (.seq (.seq (.ops [scriptinglaw35_FlowWalks_r1]) (.cond (.t 24) (.seq (.ops [scriptinglaw35_FlowWalks_r2]) (.ret)) (.skip))) (.seq (.ops [scriptinglaw35_FlowWalks_r3]) (.seq (.ops [scriptinglaw35_FlowWalks_r4_0, scriptinglaw35_FlowWalks_r4_1, scriptinglaw35_FlowWalks_r4_2, scriptinglaw35_FlowWalks_r4_3, scriptinglaw35_FlowWalks_r4_4, scriptinglaw35_FlowWalks_r4_5]) (.seq (.seq (.ops [scriptinglaw35_FlowWalks_r5]) (.cond (.t 47) (.seq (.ops [scriptinglaw35_FlowWalks_r6]) (.ret)) (.skip))) (.seq (.ops [scriptinglaw35_FlowWalks_r7]) (.seq (.ops [scriptinglaw35_FlowWalks_r8]) (.seq (.seq (.ops [scriptinglaw35_FlowWalks_r9]) (.block 0 (.loop scriptinglaw35_FlowWalks_l0))) (.seq (.ops [scriptinglaw35_FlowWalks_r32]) (.ret)))))))))
theorem scriptinglaw35_FlowWalks_ok : compF Tryd.prog 4 = some (157, scriptinglaw35_FlowWalks_c, [.t 4]) := by kernel_rfl

@[go_sem] def scriptinglaw35_FlowSolves_r0 : List AI := [
  ⟨(some 1), none, .box 50001 11 (.t 0)⟩,
  ⟨(some 2), none, .mov (.c (.bool false))⟩]
@[go_sem] def scriptinglaw35_FlowSolves_r1 : List AI := [
  ⟨(some 13), none, .load 11 true (.t 1)⟩,
  ⟨(some 14), none, .call 6 [(.t 13)]⟩]
@[go_sem] def scriptinglaw35_FlowSolves_r2 : List AI := [
  ⟨(some 15), none, .call 7 []⟩,
  ⟨(some 2), none, .mov (.t 15)⟩]
@[go_sem] def scriptinglaw35_FlowSolves_r3 : List AI := [
  ⟨(some 16), none, .load 11 true (.t 1)⟩,
  ⟨(some 17), none, .call 8 [(.t 16)]⟩,
  ⟨none, none, .store 11 (.t 1) (.t 17)⟩]
@[go_sem] def scriptinglaw35_FlowSolves_r4 : List AI := [
  ⟨(some 18), none, .load 11 true (.t 1)⟩,
  ⟨(some 19), none, .call 9 [(.t 18)]⟩,
  ⟨(some 3), none, .mov (.t 19)⟩]
@[go_sem] def scriptinglaw35_FlowSolves_r5 : List AI := [
  ⟨(some 20), none, .mov (.t 3)⟩,
  ⟨(some 21), none, .len 0 (.t 20)⟩,
  ⟨(some 22), none, .faddr 5 (.t 1)⟩,
  ⟨(some 23), none, .load 1 false (.t 22)⟩,
  ⟨(some 24), none, .len 0 (.t 23)⟩,
  ⟨(some 25), none, .bin .neq (.t 21) (.t 24)⟩]
@[go_sem] def scriptinglaw35_FlowSolves_r6 : List AI := [
  ⟨(some 2), none, .mov (.c (.bool false))⟩]
@[go_sem] def scriptinglaw35_FlowSolves_r7 : List AI := [
  ⟨(some 26), none, .mov (.t 3)⟩,
  ⟨(some 27), none, .len 0 (.t 26)⟩,
  ⟨(some 28), none, .mov (.c (.int .i64 0))⟩]
@[go_sem] def scriptinglaw35_FlowSolves_r8 : List AI := [
  ⟨(some 29), none, .bin .lss (.t 28) (.t 27)⟩]
@[go_sem] def scriptinglaw35_FlowSolves_r9 : List AI := [
  ⟨(some 30), none, .mov (.t 28)⟩,
  ⟨(some 4), none, .mov (.t 30)⟩]
@[go_sem] def scriptinglaw35_FlowSolves_r10 : List AI := [
  ⟨(some 32), none, .faddr 5 (.t 1)⟩,
  ⟨(some 33), none, .load 1 false (.t 32)⟩,
  ⟨(some 34), none, .mov (.t 4)⟩,
  ⟨(some 35), none, .iaddr 5 (.t 33) (.t 34)⟩,
  ⟨(some 36), none, .load 5 true (.t 35)⟩,
  ⟨(some 37), none, .call 14 [(.t 36)]⟩,
  ⟨(some 31), none, .mov (.t 37)⟩,
  ⟨(some 38), none, .ext 0 (.t 31)⟩,
  ⟨(some 39), none, .ext 1 (.t 31)⟩,
  ⟨(some 5), none, .mov (.t 38)⟩,
  ⟨(some 6), none, .mov (.t 39)⟩]
@[go_sem] def scriptinglaw35_FlowSolves_r11 : List AI := [
  ⟨(some 40), none, .load 11 true (.t 1)⟩,
  ⟨(some 41), none, .mov (.t 4)⟩,
  ⟨(some 42), none, .call 16 [(.t 40), (.t 41)]⟩,
  ⟨(some 7), none, .mov (.t 42)⟩]
@[go_sem] def scriptinglaw35_FlowSolves_r12 : List AI := [
  ⟨(some 8), none, .mov (.c (.int .i64 0))⟩]
@[go_sem] def scriptinglaw35_FlowSolves_r13 : List AI := [
  ⟨(some 43), none, .mov (.t 8)⟩,
  ⟨(some 44), none, .faddr 4 (.t 1)⟩,
  ⟨(some 45), none, .load 1 false (.t 44)⟩,
  ⟨(some 46), none, .bin .lss (.t 43) (.t 45)⟩]
@[go_sem] def scriptinglaw35_FlowSolves_r14 : List AI := [
  ⟨(some 49), none, .mov (.t 5)⟩,
  ⟨(some 50), none, .mov (.t 8)⟩,
  ⟨(some 51), none, .call 15 [(.t 49), (.t 50)]⟩,
  ⟨(some 52), none, .mov (.t 51)⟩,
  ⟨(some 53), (some (52, false)), .mov (.t 6)⟩,
  ⟨(some 54), (some (52, false)), .bin .geq (.t 53) (.c (.int .i64 0))⟩,
  ⟨(some 55), (some (52, false)), .mov (.t 54)⟩,
  ⟨(some 56), (some (55, true)), .mov (.t 8)⟩,
  ⟨(some 57), (some (55, true)), .mov (.t 6)⟩,
  ⟨(some 58), (some (55, true)), .bin .geq (.t 56) (.t 57)⟩,
  ⟨(some 59), (some (52, false)), .pick (.t 55) (.t 58) (.c (.bool false))⟩,
  ⟨(some 60), none, .pick (.t 52) (.c (.bool true)) (.t 59)⟩,
  ⟨(some 61), none, .mov (.t 60)⟩,
  ⟨(some 62), (some (61, false)), .load 11 true (.t 1)⟩,
  ⟨(some 63), (some (61, false)), .faddr 5 (.t 1)⟩,
  ⟨(some 64), (some (61, false)), .load 1 false (.t 63)⟩,
  ⟨(some 65), (some (61, false)), .mov (.t 4)⟩,
  ⟨(some 66), (some (61, false)), .iaddr 5 (.t 64) (.t 65)⟩,
  ⟨(some 67), (some (61, false)), .load 5 true (.t 66)⟩,
  ⟨(some 68), (some (61, false)), .mov (.t 8)⟩,
  ⟨(some 69), (some (61, false)), .call 18 [(.t 62), (.t 67), (.t 68)]⟩,
  ⟨(some 70), none, .pick (.t 61) (.c (.bool true)) (.t 69)⟩,
  ⟨(some 9), none, .mov (.t 70)⟩]
@[go_sem] def scriptinglaw35_FlowSolves_r15 : List AI := [
  ⟨(some 10), none, .mov (.c (.bool false))⟩]
@[go_sem] def scriptinglaw35_FlowSolves_r16 : List AI := [
  ⟨(some 71), none, .mov (.t 7)⟩,
  ⟨(some 72), none, .len 0 (.t 71)⟩,
  ⟨(some 73), none, .mov (.c (.int .i64 0))⟩]
@[go_sem] def scriptinglaw35_FlowSolves_r17 : List AI := [
  ⟨(some 74), none, .bin .lss (.t 73) (.t 72)⟩]
@[go_sem] def scriptinglaw35_FlowSolves_r18 : List AI := [
  ⟨(some 75), none, .mov (.t 73)⟩,
  ⟨(some 11), none, .mov (.t 75)⟩]
@[go_sem] def scriptinglaw35_FlowSolves_r19 : List AI := [
  ⟨(some 76), none, .mov (.t 10)⟩,
  ⟨(some 77), none, .mov (.t 76)⟩,
  ⟨(some 78), (some (77, false)), .mov (.t 3)⟩,
  ⟨(some 79), (some (77, false)), .mov (.t 7)⟩,
  ⟨(some 80), (some (77, false)), .mov (.t 11)⟩,
  ⟨(some 81), (some (77, false)), .iaddr 1 (.t 79) (.t 80)⟩,
  ⟨(some 82), (some (77, false)), .load 1 false (.t 81)⟩,
  ⟨(some 83), (some (77, false)), .iaddr 1 (.t 78) (.t 82)⟩,
  ⟨(some 84), (some (77, false)), .load 1 false (.t 83)⟩,
  ⟨(some 85), (some (77, false)), .mov (.t 8)⟩,
  ⟨(some 86), (some (77, false)), .call 15 [(.t 84), (.t 85)]⟩,
  ⟨(some 87), (some (77, false)), .mov (.t 86)⟩,
  ⟨(some 88), (some (87, true)), .load 11 true (.t 1)⟩,
  ⟨(some 89), (some (87, true)), .mov (.t 4)⟩,
  ⟨(some 90), (some (87, true)), .mov (.t 7)⟩,
  ⟨(some 91), (some (87, true)), .mov (.t 11)⟩,
  ⟨(some 92), (some (87, true)), .iaddr 1 (.t 90) (.t 91)⟩,
  ⟨(some 93), (some (87, true)), .load 1 false (.t 92)⟩,
  ⟨(some 94), (some (87, true)), .mov (.t 8)⟩,
  ⟨(some 95), (some (87, true)), .call 17 [(.t 88), (.t 89), (.t 93), (.t 94)]⟩,
  ⟨(some 96), (some (87, true)), .un .not (.t 95)⟩,
  ⟨(some 97), (some (77, false)), .pick (.t 87) (.t 96) (.c (.bool false))⟩,
  ⟨(some 98), none, .pick (.t 77) (.c (.bool true)) (.t 97)⟩,
  ⟨(some 10), none, .mov (.t 98)⟩]
@[go_sem] def scriptinglaw35_FlowSolves_r20 : List AI := [
  ⟨(some 99), none, .bin .add (.t 73) (.c (.int .i64 1))⟩,
  ⟨(some 73), none, .mov (.t 99)⟩]
def scriptinglaw35_FlowSolves_l2 : AC := .seq (.ops [scriptinglaw35_FlowSolves_r17]) (.seq (.cond (.t 74) (.skip) (.exit 4)) (.seq (.block 5 (.seq (.ops [scriptinglaw35_FlowSolves_r18]) (.ops [scriptinglaw35_FlowSolves_r19]))) (.ops [scriptinglaw35_FlowSolves_r20])))
theorem scriptinglaw35_FlowSolves_l2_eq : scriptinglaw35_FlowSolves_l2 = .seq (.ops [scriptinglaw35_FlowSolves_r17]) (.seq (.cond (.t 74) (.skip) (.exit 4)) (.seq (.block 5 (.seq (.ops [scriptinglaw35_FlowSolves_r18]) (.ops [scriptinglaw35_FlowSolves_r19]))) (.ops [scriptinglaw35_FlowSolves_r20]))) := rfl
@[go_sem] def scriptinglaw35_FlowSolves_r21 : List AI := [
  ⟨(some 100), none, .mov (.t 3)⟩,
  ⟨(some 101), none, .mov (.t 4)⟩,
  ⟨(some 102), none, .iaddr 1 (.t 100) (.t 101)⟩,
  ⟨(some 103), none, .load 1 false (.t 102)⟩,
  ⟨(some 104), none, .mov (.t 8)⟩,
  ⟨(some 105), none, .call 15 [(.t 103), (.t 104)]⟩,
  ⟨(some 106), none, .mov (.t 9)⟩,
  ⟨(some 107), none, .mov (.t 106)⟩,
  ⟨(some 108), (some (107, false)), .mov (.t 10)⟩,
  ⟨(some 109), none, .pick (.t 107) (.c (.bool true)) (.t 108)⟩,
  ⟨(some 110), none, .eqp 2 true (.t 105) (.t 109)⟩]
@[go_sem] def scriptinglaw35_FlowSolves_r22 : List AI := [
  ⟨(some 2), none, .mov (.c (.bool false))⟩]
@[go_sem] def scriptinglaw35_FlowSolves_r23 : List AI := [
  ⟨(some 47), none, .mov (.t 8)⟩,
  ⟨(some 48), none, .bin .add (.t 47) (.c (.int .i64 1))⟩,
  ⟨(some 8), none, .mov (.t 48)⟩]
def scriptinglaw35_FlowSolves_l1 : AC := .seq (.seq (.ops [scriptinglaw35_FlowSolves_r13]) (.cond (.t 46) (.skip) (.exit 2))) (.seq (.block 3 (.seq (.ops [scriptinglaw35_FlowSolves_r14]) (.seq (.ops [scriptinglaw35_FlowSolves_r15]) (.seq (.seq (.ops [scriptinglaw35_FlowSolves_r16]) (.block 4 (.loop scriptinglaw35_FlowSolves_l2))) (.seq (.ops [scriptinglaw35_FlowSolves_r21]) (.cond (.t 110) (.seq (.ops [scriptinglaw35_FlowSolves_r22]) (.ret)) (.skip))))))) (.ops [scriptinglaw35_FlowSolves_r23]))
theorem scriptinglaw35_FlowSolves_l1_eq : scriptinglaw35_FlowSolves_l1 = .seq (.seq (.ops [scriptinglaw35_FlowSolves_r13]) (.cond (.t 46) (.skip) (.exit 2))) (.seq (.block 3 (.seq (.ops [scriptinglaw35_FlowSolves_r14]) (.seq (.ops [scriptinglaw35_FlowSolves_r15]) (.seq (.seq (.ops [scriptinglaw35_FlowSolves_r16]) (.block 4 (.loop scriptinglaw35_FlowSolves_l2))) (.seq (.ops [scriptinglaw35_FlowSolves_r21]) (.cond (.t 110) (.seq (.ops [scriptinglaw35_FlowSolves_r22]) (.ret)) (.skip))))))) (.ops [scriptinglaw35_FlowSolves_r23])) := rfl
@[go_sem] def scriptinglaw35_FlowSolves_r24 : List AI := [
  ⟨(some 111), none, .mov (.t 3)⟩,
  ⟨(some 112), none, .mov (.t 4)⟩,
  ⟨(some 113), none, .iaddr 1 (.t 111) (.t 112)⟩,
  ⟨(some 114), none, .load 1 false (.t 113)⟩,
  ⟨(some 115), none, .len 0 (.t 114)⟩,
  ⟨(some 116), none, .mov (.c (.int .i64 0))⟩]
@[go_sem] def scriptinglaw35_FlowSolves_r25 : List AI := [
  ⟨(some 117), none, .bin .lss (.t 116) (.t 115)⟩]
@[go_sem] def scriptinglaw35_FlowSolves_r26 : List AI := [
  ⟨(some 118), none, .mov (.t 116)⟩,
  ⟨(some 12), none, .mov (.t 118)⟩]
@[go_sem] def scriptinglaw35_FlowSolves_r27 : List AI := [
  ⟨(some 119), none, .mov (.t 3)⟩,
  ⟨(some 120), none, .mov (.t 4)⟩,
  ⟨(some 121), none, .iaddr 1 (.t 119) (.t 120)⟩,
  ⟨(some 122), none, .load 1 false (.t 121)⟩,
  ⟨(some 123), none, .mov (.t 12)⟩,
  ⟨(some 124), none, .iaddr 1 (.t 122) (.t 123)⟩,
  ⟨(some 125), none, .load 1 false (.t 124)⟩,
  ⟨(some 126), none, .bin .lss (.t 125) (.c (.int .i64 0))⟩,
  ⟨(some 127), none, .mov (.t 126)⟩,
  ⟨(some 128), (some (127, false)), .mov (.t 3)⟩,
  ⟨(some 129), (some (127, false)), .mov (.t 4)⟩,
  ⟨(some 130), (some (127, false)), .iaddr 1 (.t 128) (.t 129)⟩,
  ⟨(some 131), (some (127, false)), .load 1 false (.t 130)⟩,
  ⟨(some 132), (some (127, false)), .mov (.t 12)⟩,
  ⟨(some 133), (some (127, false)), .iaddr 1 (.t 131) (.t 132)⟩,
  ⟨(some 134), (some (127, false)), .load 1 false (.t 133)⟩,
  ⟨(some 135), (some (127, false)), .faddr 4 (.t 1)⟩,
  ⟨(some 136), (some (127, false)), .load 1 false (.t 135)⟩,
  ⟨(some 137), (some (127, false)), .bin .geq (.t 134) (.t 136)⟩,
  ⟨(some 138), none, .pick (.t 127) (.c (.bool true)) (.t 137)⟩]
@[go_sem] def scriptinglaw35_FlowSolves_r28 : List AI := [
  ⟨(some 2), none, .mov (.c (.bool false))⟩]
@[go_sem] def scriptinglaw35_FlowSolves_r29 : List AI := [
  ⟨(some 139), none, .bin .add (.t 116) (.c (.int .i64 1))⟩,
  ⟨(some 116), none, .mov (.t 139)⟩]
def scriptinglaw35_FlowSolves_l3 : AC := .seq (.ops [scriptinglaw35_FlowSolves_r25]) (.seq (.cond (.t 117) (.skip) (.exit 6)) (.seq (.block 7 (.seq (.ops [scriptinglaw35_FlowSolves_r26]) (.seq (.ops [scriptinglaw35_FlowSolves_r27]) (.cond (.t 138) (.seq (.ops [scriptinglaw35_FlowSolves_r28]) (.ret)) (.skip))))) (.ops [scriptinglaw35_FlowSolves_r29])))
theorem scriptinglaw35_FlowSolves_l3_eq : scriptinglaw35_FlowSolves_l3 = .seq (.ops [scriptinglaw35_FlowSolves_r25]) (.seq (.cond (.t 117) (.skip) (.exit 6)) (.seq (.block 7 (.seq (.ops [scriptinglaw35_FlowSolves_r26]) (.seq (.ops [scriptinglaw35_FlowSolves_r27]) (.cond (.t 138) (.seq (.ops [scriptinglaw35_FlowSolves_r28]) (.ret)) (.skip))))) (.ops [scriptinglaw35_FlowSolves_r29]))) := rfl
@[go_sem] def scriptinglaw35_FlowSolves_r30 : List AI := [
  ⟨(some 140), none, .bin .add (.t 28) (.c (.int .i64 1))⟩,
  ⟨(some 28), none, .mov (.t 140)⟩]
def scriptinglaw35_FlowSolves_l0 : AC := .seq (.ops [scriptinglaw35_FlowSolves_r8]) (.seq (.cond (.t 29) (.skip) (.exit 0)) (.seq (.block 1 (.seq (.ops [scriptinglaw35_FlowSolves_r9]) (.seq (.ops [scriptinglaw35_FlowSolves_r10]) (.seq (.ops [scriptinglaw35_FlowSolves_r11]) (.seq (.seq (.ops [scriptinglaw35_FlowSolves_r12]) (.block 2 (.loop scriptinglaw35_FlowSolves_l1))) (.seq (.ops [scriptinglaw35_FlowSolves_r24]) (.block 6 (.loop scriptinglaw35_FlowSolves_l3)))))))) (.ops [scriptinglaw35_FlowSolves_r30])))
theorem scriptinglaw35_FlowSolves_l0_eq : scriptinglaw35_FlowSolves_l0 = .seq (.ops [scriptinglaw35_FlowSolves_r8]) (.seq (.cond (.t 29) (.skip) (.exit 0)) (.seq (.block 1 (.seq (.ops [scriptinglaw35_FlowSolves_r9]) (.seq (.ops [scriptinglaw35_FlowSolves_r10]) (.seq (.ops [scriptinglaw35_FlowSolves_r11]) (.seq (.seq (.ops [scriptinglaw35_FlowSolves_r12]) (.block 2 (.loop scriptinglaw35_FlowSolves_l1))) (.seq (.ops [scriptinglaw35_FlowSolves_r24]) (.block 6 (.loop scriptinglaw35_FlowSolves_l3)))))))) (.ops [scriptinglaw35_FlowSolves_r30]))) := rfl
@[go_sem] def scriptinglaw35_FlowSolves_r31 : List AI := [
  ⟨(some 141), none, .call 7 []⟩,
  ⟨(some 2), none, .mov (.t 141)⟩]
@[go_sem] def scriptinglaw35_FlowSolves_c : AC := .seq (.ops [scriptinglaw35_FlowSolves_r0]) (.seq (.seq (.ops [scriptinglaw35_FlowSolves_r1]) (.cond (.t 14) (.seq (.ops [scriptinglaw35_FlowSolves_r2]) (.ret)) (.skip))) (.seq (.ops [scriptinglaw35_FlowSolves_r3]) (.seq (.ops [scriptinglaw35_FlowSolves_r4]) (.seq (.seq (.ops [scriptinglaw35_FlowSolves_r5]) (.cond (.t 25) (.seq (.ops [scriptinglaw35_FlowSolves_r6]) (.ret)) (.skip))) (.seq (.seq (.ops [scriptinglaw35_FlowSolves_r7]) (.block 0 (.loop scriptinglaw35_FlowSolves_l0))) (.seq (.ops [scriptinglaw35_FlowSolves_r31]) (.ret)))))))
theorem scriptinglaw35_FlowSolves_ok : compF Tryd.prog 5 = some (142, scriptinglaw35_FlowSolves_c, [.t 2]) := by kernel_rfl

@[go_sem] def scriptinglaw35_large_r0 : List AI := [
  ⟨(some 1), none, .box 60001 11 (.t 0)⟩,
  ⟨(some 2), none, .mov (.c (.bool false))⟩]
@[go_sem] def scriptinglaw35_large_r1 : List AI := [
  ⟨(some 4), none, .faddr 8 (.t 1)⟩,
  ⟨(some 5), none, .load 1 false (.t 4)⟩,
  ⟨(some 6), none, .len 0 (.t 5)⟩,
  ⟨(some 7), none, .bin .gtr (.t 6) (.c (.int .i64 20))⟩]
@[go_sem] def scriptinglaw35_large_r2 : List AI := [
  ⟨(some 2), none, .mov (.c (.bool true))⟩]
@[go_sem] def scriptinglaw35_large_r3 : List AI := [
  ⟨(some 8), none, .faddr 8 (.t 1)⟩,
  ⟨(some 9), none, .load 1 false (.t 8)⟩,
  ⟨(some 10), none, .len 0 (.t 9)⟩,
  ⟨(some 11), none, .mov (.c (.int .i64 0))⟩]
@[go_sem] def scriptinglaw35_large_r4 : List AI := [
  ⟨(some 12), none, .bin .lss (.t 11) (.t 10)⟩]
@[go_sem] def scriptinglaw35_large_r5 : List AI := [
  ⟨(some 13), none, .mov (.t 11)⟩,
  ⟨(some 3), none, .mov (.t 13)⟩]
@[go_sem] def scriptinglaw35_large_r6 : List AI := [
  ⟨(some 14), none, .faddr 8 (.t 1)⟩,
  ⟨(some 15), none, .load 1 false (.t 14)⟩,
  ⟨(some 16), none, .mov (.t 3)⟩,
  ⟨(some 17), none, .iaddr 11 (.t 15) (.t 16)⟩,
  ⟨(some 18), none, .faddr 9 (.t 17)⟩,
  ⟨(some 19), none, .load 1 false (.t 18)⟩,
  ⟨(some 20), none, .len 0 (.t 19)⟩,
  ⟨(some 21), none, .bin .gtr (.t 20) (.c (.int .i64 60))⟩]
@[go_sem] def scriptinglaw35_large_r7 : List AI := [
  ⟨(some 2), none, .mov (.c (.bool true))⟩]
@[go_sem] def scriptinglaw35_large_r8 : List AI := [
  ⟨(some 22), none, .bin .add (.t 11) (.c (.int .i64 1))⟩,
  ⟨(some 11), none, .mov (.t 22)⟩]
def scriptinglaw35_large_l0 : AC := .seq (.ops [scriptinglaw35_large_r4]) (.seq (.cond (.t 12) (.skip) (.exit 0)) (.seq (.block 1 (.seq (.ops [scriptinglaw35_large_r5]) (.seq (.ops [scriptinglaw35_large_r6]) (.cond (.t 21) (.seq (.ops [scriptinglaw35_large_r7]) (.ret)) (.skip))))) (.ops [scriptinglaw35_large_r8])))
theorem scriptinglaw35_large_l0_eq : scriptinglaw35_large_l0 = .seq (.ops [scriptinglaw35_large_r4]) (.seq (.cond (.t 12) (.skip) (.exit 0)) (.seq (.block 1 (.seq (.ops [scriptinglaw35_large_r5]) (.seq (.ops [scriptinglaw35_large_r6]) (.cond (.t 21) (.seq (.ops [scriptinglaw35_large_r7]) (.ret)) (.skip))))) (.ops [scriptinglaw35_large_r8]))) := rfl
@[go_sem] def scriptinglaw35_large_r9 : List AI := [
  ⟨(some 23), none, .faddr 5 (.t 1)⟩,
  ⟨(some 24), none, .load 1 false (.t 23)⟩,
  ⟨(some 25), none, .len 0 (.t 24)⟩,
  ⟨(some 26), none, .bin .gtr (.t 25) (.c (.int .i64 80))⟩,
  ⟨(some 2), none, .mov (.t 26)⟩]
@[go_sem] def scriptinglaw35_large_c : AC := .seq (.ops [scriptinglaw35_large_r0]) (.seq (.seq (.ops [scriptinglaw35_large_r1]) (.cond (.t 7) (.seq (.ops [scriptinglaw35_large_r2]) (.ret)) (.skip))) (.seq (.seq (.ops [scriptinglaw35_large_r3]) (.block 0 (.loop scriptinglaw35_large_l0))) (.seq (.ops [scriptinglaw35_large_r9]) (.ret))))
theorem scriptinglaw35_large_ok : compF Tryd.prog 6 = some (27, scriptinglaw35_large_c, [.t 2]) := by kernel_rfl

@[go_sem] def scriptinglaw35_awake_r0 : List AI := [
  ⟨(some 0), none, .mov (.c (.bool false))⟩]
@[go_sem] def scriptinglaw35_awake_r1 : List AI := [
  ⟨(some 6), none, .build [(.int .i64 0), (.int .i64 0), (.int .i64 0), (.int .i64 0), (.int .i64 0)] [(0, 1, (.c (.int .i64 15))), (2, 1, (.c (.int .i64 2))), (3, 1, (.c (.int .i64 1)))]⟩,
  ⟨(some 7), none, .build [(.int .i64 0), (.int .i64 0), (.int .i64 0), (.int .i64 0), (.int .i64 0)] [(0, 1, (.c (.int .i64 3)))]⟩,
  ⟨(some 8), none, .build [(.int .i64 0), (.int .i64 0), (.int .i64 0), (.int .i64 0), (.int .i64 0)] [(0, 1, (.c (.int .i64 18))), (2, 1, (.c (.int .i64 1)))]⟩,
  ⟨(some 9), none, .mkrow 70009 5 [(.t 6), (.t 7), (.t 8)]⟩,
  ⟨(some 10), none, .build [(.str []), (.int .i64 0), (.int .i64 0), (.bool false), (.int .i64 0), .nils, .nils, .nils, .nils, .nils, .nils] [(4, 1, (.c (.int .i64 1))), (5, 1, (.t 9))]⟩,
  ⟨(some 1), none, .box 70001 11 (.c (.agg [(.str []), (.int .i64 0), (.int .i64 0), (.bool false), (.int .i64 0), .nils, .nils, .nils, .nils, .nils, .nils]))⟩,
  ⟨none, none, .store 11 (.t 1) (.t 10)⟩]
@[go_sem] def scriptinglaw35_awake_r2 : List AI := [
  ⟨(some 11), none, .load 11 true (.t 1)⟩,
  ⟨(some 12), none, .call 19 [(.t 11)]⟩,
  ⟨(some 2), none, .mov (.t 12)⟩]
@[go_sem] def scriptinglaw35_awake_r3 : List AI := [
  ⟨(some 13), none, .build [(.int .i64 0), (.int .i64 0), (.int .i64 0), (.int .i64 0), (.int .i64 0)] [(0, 1, (.c (.int .i64 1))), (1, 1, (.c (.int .i64 1)))]⟩,
  ⟨(some 14), none, .build [(.int .i64 0), (.int .i64 0), (.int .i64 0), (.int .i64 0), (.int .i64 0)] [(0, 1, (.c (.int .i64 18))), (1, 1, (.c (.int .i64 1))), (2, 1, (.c (.int .i64 1)))]⟩,
  ⟨(some 15), none, .mkrow 70015 5 [(.t 13), (.t 14)]⟩,
  ⟨(some 16), none, .build [(.str []), (.int .i64 0), (.int .i64 0), (.bool false), (.int .i64 0), .nils, .nils, .nils, .nils, .nils, .nils] [(4, 1, (.c (.int .i64 2))), (5, 1, (.t 15))]⟩,
  ⟨(some 3), none, .box 70003 11 (.c (.agg [(.str []), (.int .i64 0), (.int .i64 0), (.bool false), (.int .i64 0), .nils, .nils, .nils, .nils, .nils, .nils]))⟩,
  ⟨none, none, .store 11 (.t 3) (.t 16)⟩]
@[go_sem] def scriptinglaw35_awake_r4 : List AI := [
  ⟨(some 17), none, .load 11 true (.t 3)⟩,
  ⟨(some 18), none, .call 9 [(.t 17)]⟩,
  ⟨(some 4), none, .mov (.t 18)⟩]
@[go_sem] def scriptinglaw35_awake_r5 : List AI := [
  ⟨(some 19), none, .build [(.int .i64 0), (.int .i64 0), (.int .i64 0), (.int .i64 0), (.int .i64 0)] [(0, 1, (.c (.int .i64 14)))]⟩,
  ⟨(some 20), none, .mkrow 70020 5 [(.t 19)]⟩,
  ⟨(some 21), none, .build [(.str []), (.int .i64 0), (.int .i64 0), (.bool false), (.int .i64 0), .nils, .nils, .nils, .nils, .nils, .nils] [(5, 1, (.t 20))]⟩,
  ⟨(some 5), none, .box 70005 11 (.c (.agg [(.str []), (.int .i64 0), (.int .i64 0), (.bool false), (.int .i64 0), .nils, .nils, .nils, .nils, .nils, .nils]))⟩,
  ⟨none, none, .store 11 (.t 5) (.t 21)⟩]
@[go_sem] def scriptinglaw35_awake_r6 : List AI := [
  ⟨(some 22), none, .mov (.t 2)⟩,
  ⟨(some 23), none, .len 0 (.t 22)⟩,
  ⟨(some 24), none, .bin .neq (.t 23) (.c (.int .i64 3))⟩,
  ⟨(some 25), none, .mov (.t 24)⟩,
  ⟨(some 26), (some (25, false)), .mov (.t 2)⟩,
  ⟨(some 27), (some (25, false)), .iaddr 3 (.t 26) (.c (.int .i64 0))⟩,
  ⟨(some 28), (some (25, false)), .faddr 2 (.t 27)⟩,
  ⟨(some 29), (some (25, false)), .load 1 false (.t 28)⟩,
  ⟨(some 30), (some (25, false)), .mkisl 1 [(.c (.int .i64 1)), (.c (.int .i64 2))]⟩,
  ⟨(some 31), (some (25, false)), .call 11 [(.t 29), (.t 30)]⟩,
  ⟨(some 32), (some (25, false)), .un .not (.t 31)⟩,
  ⟨(some 33), none, .pick (.t 25) (.c (.bool true)) (.t 32)⟩,
  ⟨(some 34), none, .mov (.t 33)⟩,
  ⟨(some 35), (some (34, false)), .mov (.t 2)⟩,
  ⟨(some 36), (some (34, false)), .iaddr 3 (.t 35) (.c (.int .i64 1))⟩,
  ⟨(some 37), (some (34, false)), .faddr 2 (.t 36)⟩,
  ⟨(some 38), (some (34, false)), .load 1 false (.t 37)⟩,
  ⟨(some 39), (some (34, false)), .mkisl 1 [(.c (.int .i64 2))]⟩,
  ⟨(some 40), (some (34, false)), .call 11 [(.t 38), (.t 39)]⟩,
  ⟨(some 41), (some (34, false)), .un .not (.t 40)⟩,
  ⟨(some 42), none, .pick (.t 34) (.c (.bool true)) (.t 41)⟩,
  ⟨(some 43), none, .mov (.t 42)⟩,
  ⟨(some 44), (some (43, false)), .mov (.t 2)⟩,
  ⟨(some 45), (some (43, false)), .iaddr 3 (.t 44) (.c (.int .i64 2))⟩,
  ⟨(some 46), (some (43, false)), .faddr 2 (.t 45)⟩,
  ⟨(some 47), (some (43, false)), .load 1 false (.t 46)⟩,
  ⟨(some 48), (some (43, false)), .len 0 (.t 47)⟩,
  ⟨(some 49), (some (43, false)), .bin .neq (.t 48) (.c (.int .i64 0))⟩,
  ⟨(some 50), none, .pick (.t 43) (.c (.bool true)) (.t 49)⟩,
  ⟨(some 51), none, .mov (.t 50)⟩,
  ⟨(some 52), (some (51, false)), .mov (.t 2)⟩,
  ⟨(some 53), (some (51, false)), .iaddr 3 (.t 52) (.c (.int .i64 2))⟩,
  ⟨(some 54), (some (51, false)), .faddr 0 (.t 53)⟩,
  ⟨(some 55), (some (51, false)), .load 1 false (.t 54)⟩,
  ⟨(some 56), (some (51, false)), .bin .neq (.t 55) (.c (.int .i64 2))⟩,
  ⟨(some 57), none, .pick (.t 51) (.c (.bool true)) (.t 56)⟩,
  ⟨(some 58), none, .mov (.t 57)⟩,
  ⟨(some 59), (some (58, false)), .mov (.t 2)⟩,
  ⟨(some 60), (some (58, false)), .iaddr 3 (.t 59) (.c (.int .i64 2))⟩,
  ⟨(some 61), (some (58, false)), .faddr 1 (.t 60)⟩,
  ⟨(some 62), (some (58, false)), .load 1 false (.t 61)⟩,
  ⟨(some 63), (some (58, false)), .bin .neq (.t 62) (.c (.int .i64 3))⟩,
  ⟨(some 64), none, .pick (.t 58) (.c (.bool true)) (.t 63)⟩]
@[go_sem] def scriptinglaw35_awake_r7 : List AI := [
  ⟨(some 0), none, .mov (.c (.bool false))⟩]
@[go_sem] def scriptinglaw35_awake_r8 : List AI := [
  ⟨(some 65), none, .mov (.t 4)⟩,
  ⟨(some 66), none, .len 0 (.t 65)⟩,
  ⟨(some 67), none, .bin .eql (.t 66) (.c (.int .i64 2))⟩,
  ⟨(some 68), none, .mov (.t 67)⟩,
  ⟨(some 69), (some (68, true)), .mov (.t 4)⟩,
  ⟨(some 70), (some (68, true)), .iaddr 1 (.t 69) (.c (.int .i64 0))⟩,
  ⟨(some 71), (some (68, true)), .load 1 false (.t 70)⟩,
  ⟨(some 72), (some (68, true)), .mkisl 1 [(.c (.int .i64 0))]⟩,
  ⟨(some 73), (some (68, true)), .call 11 [(.t 71), (.t 72)]⟩,
  ⟨(some 74), none, .pick (.t 68) (.t 73) (.c (.bool false))⟩,
  ⟨(some 75), none, .mov (.t 74)⟩,
  ⟨(some 76), (some (75, true)), .mov (.t 4)⟩,
  ⟨(some 77), (some (75, true)), .iaddr 1 (.t 76) (.c (.int .i64 1))⟩,
  ⟨(some 78), (some (75, true)), .load 1 false (.t 77)⟩,
  ⟨(some 79), (some (75, true)), .mkisl 1 [(.c (.int .i64 1))]⟩,
  ⟨(some 80), (some (75, true)), .call 11 [(.t 78), (.t 79)]⟩,
  ⟨(some 81), none, .pick (.t 75) (.t 80) (.c (.bool false))⟩,
  ⟨(some 82), none, .mov (.t 81)⟩,
  ⟨(some 83), (some (82, true)), .load 11 true (.t 5)⟩,
  ⟨(some 84), (some (82, true)), .call 16 [(.t 83), (.c (.int .i64 0))]⟩,
  ⟨(some 85), (some (82, true)), .mkisl 1 [(.c (.int .i64 0))]⟩,
  ⟨(some 86), (some (82, true)), .call 11 [(.t 84), (.t 85)]⟩,
  ⟨(some 87), none, .pick (.t 82) (.t 86) (.c (.bool false))⟩,
  ⟨(some 88), none, .mov (.t 87)⟩,
  ⟨(some 89), (some (88, true)), .load 11 true (.t 5)⟩,
  ⟨(some 90), (some (88, true)), .call 13 [(.t 89)]⟩,
  ⟨(some 91), (some (88, true)), .mkisl 1 [(.c (.int .i64 0))]⟩,
  ⟨(some 92), (some (88, true)), .call 11 [(.t 90), (.t 91)]⟩,
  ⟨(some 93), none, .pick (.t 88) (.t 92) (.c (.bool false))⟩,
  ⟨(some 94), none, .mov (.t 93)⟩,
  ⟨(some 95), (some (94, true)), .load 11 true (.t 5)⟩,
  ⟨(some 96), (some (94, true)), .call 12 [(.t 95)]⟩,
  ⟨(some 97), (some (94, true)), .len 0 (.t 96)⟩,
  ⟨(some 98), (some (94, true)), .bin .eql (.t 97) (.c (.int .i64 1))⟩,
  ⟨(some 99), none, .pick (.t 94) (.t 98) (.c (.bool false))⟩,
  ⟨(some 100), none, .mov (.t 99)⟩,
  ⟨(some 101), (some (100, true)), .load 11 true (.t 5)⟩,
  ⟨(some 102), (some (100, true)), .call 12 [(.t 101)]⟩,
  ⟨(some 103), (some (100, true)), .iaddr 1 (.t 102) (.c (.int .i64 0))⟩,
  ⟨(some 104), (some (100, true)), .load 1 false (.t 103)⟩,
  ⟨(some 105), none, .pick (.t 100) (.t 104) (.c (.bool false))⟩,
  ⟨(some 0), none, .mov (.t 105)⟩]
@[go_sem] def scriptinglaw35_awake_c : AC := .seq (.ops [scriptinglaw35_awake_r0]) (.seq (.ops [scriptinglaw35_awake_r1]) (.seq (.ops [scriptinglaw35_awake_r2]) (.seq (.ops [scriptinglaw35_awake_r3]) (.seq (.ops [scriptinglaw35_awake_r4]) (.seq (.ops [scriptinglaw35_awake_r5]) (.seq (.seq (.ops [scriptinglaw35_awake_r6]) (.cond (.t 64) (.seq (.ops [scriptinglaw35_awake_r7]) (.ret)) (.skip))) (.seq (.ops [scriptinglaw35_awake_r8]) (.ret))))))))
theorem scriptinglaw35_awake_ok : compF Tryd.prog 7 = some (106, scriptinglaw35_awake_c, [.t 0]) := by kernel_rfl

@[go_sem] def scriptinglaw35_few_r0 : List AI := [
  ⟨(some 1), none, .box 80001 11 (.t 0)⟩,
  ⟨(some 2), none, .box 80002 11 (.c (.agg [(.str []), (.int .i64 0), (.int .i64 0), (.bool false), (.int .i64 0), .nils, .nils, .nils, .nils, .nils, .nils]))⟩]
@[go_sem] def scriptinglaw35_few_r1 : List AI := [
  ⟨(some 3), none, .faddr 4 (.t 1)⟩,
  ⟨(some 4), none, .load 1 false (.t 3)⟩,
  ⟨(some 5), none, .bin .gtr (.t 4) (.c (.int .i64 60))⟩]
@[go_sem] def scriptinglaw35_few_r2 : List AI := [
  ⟨(some 6), none, .faddr 4 (.t 1)⟩,
  ⟨none, none, .store 1 (.t 6) (.c (.int .i64 60))⟩]
@[go_sem] def scriptinglaw35_few_r3 : List AI := [
  ⟨(some 7), none, .load 11 true (.t 1)⟩,
  ⟨none, none, .store 11 (.t 2) (.t 7)⟩]
@[go_sem] def scriptinglaw35_few_c : AC := .seq (.ops [scriptinglaw35_few_r0]) (.seq (.seq (.ops [scriptinglaw35_few_r1]) (.cond (.t 5) (.ops [scriptinglaw35_few_r2]) (.skip))) (.seq (.ops [scriptinglaw35_few_r3]) (.ret)))
theorem scriptinglaw35_few_ok : compF Tryd.prog 8 = some (8, scriptinglaw35_few_c, [.c 2 11 true]) := by kernel_rfl

@[go_sem] def flow_Live_r0 : List AI := [
  ⟨(some 1), none, .box 90001 11 (.t 0)⟩,
  ⟨(some 2), none, .mov (.c .nils)⟩]
@[go_sem] def flow_Live_r1 : List AI := [
  ⟨(some 23), none, .load 11 true (.t 1)⟩,
  ⟨(some 24), none, .call 20 [(.t 23)]⟩,
  ⟨(some 3), none, .mov (.t 24)⟩]
@[go_sem] def flow_Live_r2 : List AI := [
  ⟨(some 25), none, .faddr 5 (.t 1)⟩,
  ⟨(some 26), none, .load 1 false (.t 25)⟩,
  ⟨(some 27), none, .len 0 (.t 26)⟩,
  ⟨(some 28), none, .mksl 90028 [.nils] (.t 27)⟩,
  ⟨(some 4), none, .mov (.t 28)⟩]
@[go_sem] def flow_Live_r3 : List AI := [
  ⟨(some 29), none, .faddr 5 (.t 1)⟩,
  ⟨(some 30), none, .load 1 false (.t 29)⟩,
  ⟨(some 31), none, .len 0 (.t 30)⟩,
  ⟨(some 32), none, .mksl 90032 [.nilp] (.t 31)⟩,
  ⟨(some 5), none, .mov (.t 32)⟩]
@[go_sem] def flow_Live_r4 : List AI := [
  ⟨(some 33), none, .faddr 5 (.t 1)⟩,
  ⟨(some 34), none, .load 1 false (.t 33)⟩,
  ⟨(some 35), none, .len 0 (.t 34)⟩,
  ⟨(some 36), none, .mksl 90036 [.nils] (.t 35)⟩,
  ⟨(some 6), none, .mov (.t 36)⟩]
@[go_sem] def flow_Live_r5 : List AI := [
  ⟨(some 37), none, .faddr 5 (.t 1)⟩,
  ⟨(some 38), none, .load 1 false (.t 37)⟩,
  ⟨(some 39), none, .len 0 (.t 38)⟩,
  ⟨(some 40), none, .mov (.c (.int .i64 0))⟩]
@[go_sem] def flow_Live_r6 : List AI := [
  ⟨(some 41), none, .bin .lss (.t 40) (.t 39)⟩]
@[go_sem] def flow_Live_r7 : List AI := [
  ⟨(some 42), none, .mov (.t 40)⟩,
  ⟨(some 43), none, .iaddr 5 (.t 38) (.t 40)⟩,
  ⟨(some 44), none, .load 5 true (.t 43)⟩,
  ⟨(some 8), none, .box 90008 5 (.c (.agg [(.int .i64 0), (.int .i64 0), (.int .i64 0), (.int .i64 0), (.int .i64 0)]))⟩,
  ⟨(some 7), none, .mov (.t 42)⟩,
  ⟨none, none, .store 5 (.t 8) (.t 44)⟩]
@[go_sem] def flow_Live_r8 : List AI := [
  ⟨(some 45), none, .mov (.t 4)⟩,
  ⟨(some 46), none, .mov (.t 7)⟩,
  ⟨(some 47), none, .mov (.t 3)⟩,
  ⟨(some 48), none, .mksl 90048 [(.bool false)] (.t 47)⟩,
  ⟨(some 49), none, .iaddr 1 (.t 45) (.t 46)⟩,
  ⟨none, none, .store 1 (.t 49) (.t 48)⟩]
@[go_sem] def flow_Live_r9 : List AI := [
  ⟨(some 50), none, .mov (.t 5)⟩,
  ⟨(some 51), none, .mov (.t 7)⟩,
  ⟨(some 52), none, .load 11 true (.t 1)⟩,
  ⟨(some 53), none, .load 5 true (.t 8)⟩,
  ⟨(some 54), none, .call 21 [(.t 52), (.t 53)]⟩,
  ⟨(some 55), none, .iaddr 1 (.t 50) (.t 51)⟩,
  ⟨none, none, .store 1 (.t 55) (.t 54)⟩]
@[go_sem] def flow_Live_r10 : List AI := [
  ⟨(some 56), none, .load 11 true (.t 1)⟩,
  ⟨(some 57), none, .mov (.t 7)⟩,
  ⟨(some 58), none, .call 16 [(.t 56), (.t 57)]⟩,
  ⟨(some 59), none, .len 0 (.t 58)⟩,
  ⟨(some 60), none, .mov (.c (.int .i64 0))⟩]
@[go_sem] def flow_Live_r11 : List AI := [
  ⟨(some 61), none, .bin .lss (.t 60) (.t 59)⟩]
@[go_sem] def flow_Live_r12 : List AI := [
  ⟨(some 62), none, .iaddr 1 (.t 58) (.t 60)⟩,
  ⟨(some 63), none, .load 1 false (.t 62)⟩,
  ⟨(some 10), none, .mov (.t 63)⟩]
@[go_sem] def flow_Live_r13_0 : List AI := [
  ⟨(some 64), none, .mov (.t 6)⟩,
  ⟨(some 65), none, .mov (.t 7)⟩,
  ⟨(some 66), none, .mov (.t 6)⟩,
  ⟨(some 67), none, .mov (.t 7)⟩,
  ⟨(some 68), none, .iaddr 1 (.t 66) (.t 67)⟩,
  ⟨(some 69), none, .load 1 false (.t 68)⟩,
  ⟨(some 70), none, .load 11 true (.t 1)⟩,
  ⟨(some 71), none, .mov (.t 7)⟩,
  ⟨(some 72), none, .mov (.t 10)⟩,
  ⟨(some 73), none, .call 22 [(.t 70), (.t 71), (.t 72)]⟩,
  ⟨(some 74), none, .mkisl 1 [(.t 73)]⟩,
  ⟨(some 75), none, .app 90075 1 (.t 69) (.t 74)⟩,
  ⟨(some 76), none, .iaddr 1 (.t 64) (.t 65)⟩,
  ⟨none, none, .store 1 (.t 76) (.t 75)⟩]
@[go_sem] def flow_Live_r13_1 : List AI := [
  ⟨(some 64), none, .mov (.t 6)⟩,
  ⟨(some 65), none, .mov (.t 7)⟩,
  ⟨(some 66), none, .mov (.t 6)⟩,
  ⟨(some 67), none, .mov (.t 7)⟩,
  ⟨(some 68), none, .iaddr 1 (.t 66) (.t 67)⟩,
  ⟨(some 70), none, .load 11 true (.t 1)⟩,
  ⟨(some 71), none, .mov (.t 7)⟩,
  ⟨(some 72), none, .mov (.t 10)⟩,
  ⟨(some 73), none, .call 22 [(.t 70), (.t 71), (.t 72)]⟩,
  ⟨(some 69), none, .load 1 false (.t 68)⟩,
  ⟨(some 74), none, .mkisl 1 [(.t 73)]⟩,
  ⟨(some 75), none, .app 90075 1 (.t 69) (.t 74)⟩,
  ⟨(some 76), none, .iaddr 1 (.t 64) (.t 65)⟩,
  ⟨none, none, .store 1 (.t 76) (.t 75)⟩]
@[go_sem] def flow_Live_r13_2 : List AI := [
  ⟨(some 64), none, .mov (.t 6)⟩,
  ⟨(some 65), none, .mov (.t 7)⟩,
  ⟨(some 66), none, .mov (.t 6)⟩,
  ⟨(some 67), none, .mov (.t 7)⟩,
  ⟨(some 70), none, .load 11 true (.t 1)⟩,
  ⟨(some 71), none, .mov (.t 7)⟩,
  ⟨(some 72), none, .mov (.t 10)⟩,
  ⟨(some 73), none, .call 22 [(.t 70), (.t 71), (.t 72)]⟩,
  ⟨(some 68), none, .iaddr 1 (.t 66) (.t 67)⟩,
  ⟨(some 69), none, .load 1 false (.t 68)⟩,
  ⟨(some 74), none, .mkisl 1 [(.t 73)]⟩,
  ⟨(some 75), none, .app 90075 1 (.t 69) (.t 74)⟩,
  ⟨(some 76), none, .iaddr 1 (.t 64) (.t 65)⟩,
  ⟨none, none, .store 1 (.t 76) (.t 75)⟩]
@[go_sem] def flow_Live_r14 : List AI := [
  ⟨(some 77), none, .bin .add (.t 60) (.c (.int .i64 1))⟩,
  ⟨(some 60), none, .mov (.t 77)⟩]
def flow_Live_l1 : AC := .seq (.ops [flow_Live_r11]) (.seq (.cond (.t 61) (.skip) (.exit 2)) (.seq (.block 3 (.seq (.ops [flow_Live_r12]) (.ops [flow_Live_r13_0, flow_Live_r13_1, flow_Live_r13_2]))) (.ops [flow_Live_r14])))
theorem flow_Live_l1_eq : flow_Live_l1 = .seq (.ops [flow_Live_r11]) (.seq (.cond (.t 61) (.skip) (.exit 2)) (.seq (.block 3 (.seq (.ops [flow_Live_r12]) (.ops [flow_Live_r13_0, flow_Live_r13_1, flow_Live_r13_2]))) (.ops [flow_Live_r14]))) := rfl
@[go_sem] def flow_Live_r15 : List AI := [
  ⟨(some 78), none, .bin .add (.t 40) (.c (.int .i64 1))⟩,
  ⟨(some 40), none, .mov (.t 78)⟩]
def flow_Live_l0 : AC := .seq (.ops [flow_Live_r6]) (.seq (.cond (.t 41) (.skip) (.exit 0)) (.seq (.block 1 (.seq (.ops [flow_Live_r7]) (.seq (.ops [flow_Live_r8]) (.seq (.ops [flow_Live_r9]) (.seq (.ops [flow_Live_r10]) (.block 2 (.loop flow_Live_l1))))))) (.ops [flow_Live_r15])))
theorem flow_Live_l0_eq : flow_Live_l0 = .seq (.ops [flow_Live_r6]) (.seq (.cond (.t 41) (.skip) (.exit 0)) (.seq (.block 1 (.seq (.ops [flow_Live_r7]) (.seq (.ops [flow_Live_r8]) (.seq (.ops [flow_Live_r9]) (.seq (.ops [flow_Live_r10]) (.block 2 (.loop flow_Live_l1))))))) (.ops [flow_Live_r15]))) := rfl
@[go_sem] def flow_Live_r16 : List AI := [
  ⟨(some 11), none, .mov (.c (.bool true))⟩]
@[go_sem] def flow_Live_r17 : List AI := [
  ⟨(some 79), none, .mov (.t 11)⟩]
@[go_sem] def flow_Live_r18 : List AI := [
  ⟨(some 11), none, .mov (.c (.bool false))⟩]
@[go_sem] def flow_Live_r19 : List AI := [
  ⟨(some 80), none, .faddr 5 (.t 1)⟩,
  ⟨(some 81), none, .load 1 false (.t 80)⟩,
  ⟨(some 82), none, .len 0 (.t 81)⟩,
  ⟨(some 83), none, .bin .sub (.t 82) (.c (.int .i64 1))⟩,
  ⟨(some 12), none, .mov (.t 83)⟩]
@[go_sem] def flow_Live_r20 : List AI := [
  ⟨(some 84), none, .mov (.t 12)⟩,
  ⟨(some 85), none, .bin .geq (.t 84) (.c (.int .i64 0))⟩]
@[go_sem] def flow_Live_r21 : List AI := [
  ⟨(some 88), none, .mov (.t 5)⟩,
  ⟨(some 89), none, .mov (.t 12)⟩,
  ⟨(some 90), none, .iaddr 1 (.t 88) (.t 89)⟩,
  ⟨(some 91), none, .load 1 false (.t 90)⟩,
  ⟨(some 92), none, .mov (.t 6)⟩,
  ⟨(some 93), none, .mov (.t 12)⟩,
  ⟨(some 94), none, .iaddr 1 (.t 92) (.t 93)⟩,
  ⟨(some 95), none, .load 1 false (.t 94)⟩,
  ⟨(some 13), none, .mov (.t 91)⟩,
  ⟨(some 14), none, .mov (.t 95)⟩]
@[go_sem] def flow_Live_r22 : List AI := [
  ⟨(some 96), none, .load 11 true (.t 1)⟩,
  ⟨(some 97), none, .mov (.t 12)⟩,
  ⟨(some 98), none, .call 16 [(.t 96), (.t 97)]⟩,
  ⟨(some 15), none, .mov (.t 98)⟩]
@[go_sem] def flow_Live_r23 : List AI := [
  ⟨(some 99), none, .mov (.t 3)⟩,
  ⟨(some 100), none, .mov (.c (.int .i64 0))⟩]
@[go_sem] def flow_Live_r24 : List AI := [
  ⟨(some 101), none, .bin .lss (.t 100) (.t 99)⟩]
@[go_sem] def flow_Live_r25 : List AI := [
  ⟨(some 102), none, .mov (.t 100)⟩,
  ⟨(some 16), none, .mov (.t 102)⟩]
@[go_sem] def flow_Live_r26 : List AI := [
  ⟨(some 103), none, .mov (.t 13)⟩,
  ⟨(some 104), none, .mov (.t 16)⟩,
  ⟨(some 105), none, .nilck (.t 103)⟩,
  ⟨(some 106), none, .iaddrA 4096 1 (.t 105) (.t 104)⟩,
  ⟨(some 107), none, .load 1 false (.t 106)⟩,
  ⟨(some 17), none, .mov (.t 107)⟩]
@[go_sem] def flow_Live_r27 : List AI := [
  ⟨(some 108), none, .mov (.t 15)⟩,
  ⟨(some 109), none, .len 0 (.t 108)⟩,
  ⟨(some 110), none, .mov (.c (.int .i64 0))⟩]
@[go_sem] def flow_Live_r28 : List AI := [
  ⟨(some 111), none, .bin .lss (.t 110) (.t 109)⟩]
@[go_sem] def flow_Live_r29 : List AI := [
  ⟨(some 112), none, .mov (.t 110)⟩,
  ⟨(some 113), none, .iaddr 1 (.t 108) (.t 110)⟩,
  ⟨(some 114), none, .load 1 false (.t 113)⟩,
  ⟨(some 18), none, .mov (.t 112)⟩,
  ⟨(some 19), none, .mov (.t 114)⟩]
@[go_sem] def flow_Live_r30 : List AI := [
  ⟨(some 115), none, .mov (.t 17)⟩,
  ⟨(some 116), none, .mov (.t 115)⟩,
  ⟨(some 117), (some (116, false)), .mov (.t 14)⟩,
  ⟨(some 118), (some (116, false)), .mov (.t 18)⟩,
  ⟨(some 119), (some (116, false)), .iaddr 1 (.t 117) (.t 118)⟩,
  ⟨(some 120), (some (116, false)), .load 1 false (.t 119)⟩,
  ⟨(some 121), (some (116, false)), .mov (.t 16)⟩,
  ⟨(some 122), (some (116, false)), .nilck (.t 120)⟩,
  ⟨(some 123), (some (116, false)), .iaddrA 4096 1 (.t 122) (.t 121)⟩,
  ⟨(some 124), (some (116, false)), .load 1 false (.t 123)⟩,
  ⟨(some 125), (some (116, false)), .un .not (.t 124)⟩,
  ⟨(some 126), (some (116, false)), .mov (.t 125)⟩,
  ⟨(some 127), (some (126, true)), .mov (.t 4)⟩,
  ⟨(some 128), (some (126, true)), .mov (.t 19)⟩,
  ⟨(some 129), (some (126, true)), .iaddr 1 (.t 127) (.t 128)⟩,
  ⟨(some 130), (some (126, true)), .load 1 false (.t 129)⟩,
  ⟨(some 131), (some (126, true)), .mov (.t 16)⟩,
  ⟨(some 132), (some (126, true)), .iaddr 1 (.t 130) (.t 131)⟩,
  ⟨(some 133), (some (126, true)), .load 1 false (.t 132)⟩,
  ⟨(some 134), (some (116, false)), .pick (.t 126) (.t 133) (.c (.bool false))⟩,
  ⟨(some 135), none, .pick (.t 116) (.c (.bool true)) (.t 134)⟩,
  ⟨(some 17), none, .mov (.t 135)⟩]
@[go_sem] def flow_Live_r31 : List AI := [
  ⟨(some 136), none, .bin .add (.t 110) (.c (.int .i64 1))⟩,
  ⟨(some 110), none, .mov (.t 136)⟩]
def flow_Live_l5 : AC := .seq (.ops [flow_Live_r28]) (.seq (.cond (.t 111) (.skip) (.exit 10)) (.seq (.block 11 (.seq (.ops [flow_Live_r29]) (.ops [flow_Live_r30]))) (.ops [flow_Live_r31])))
theorem flow_Live_l5_eq : flow_Live_l5 = .seq (.ops [flow_Live_r28]) (.seq (.cond (.t 111) (.skip) (.exit 10)) (.seq (.block 11 (.seq (.ops [flow_Live_r29]) (.ops [flow_Live_r30]))) (.ops [flow_Live_r31]))) := rfl
@[go_sem] def flow_Live_r32 : List AI := [
  ⟨(some 137), none, .mov (.t 17)⟩,
  ⟨(some 138), none, .mov (.t 137)⟩,
  ⟨(some 139), (some (138, true)), .mov (.t 4)⟩,
  ⟨(some 140), (some (138, true)), .mov (.t 12)⟩,
  ⟨(some 141), (some (138, true)), .iaddr 1 (.t 139) (.t 140)⟩,
  ⟨(some 142), (some (138, true)), .load 1 false (.t 141)⟩,
  ⟨(some 143), (some (138, true)), .mov (.t 16)⟩,
  ⟨(some 144), (some (138, true)), .iaddr 1 (.t 142) (.t 143)⟩,
  ⟨(some 145), (some (138, true)), .load 1 false (.t 144)⟩,
  ⟨(some 146), (some (138, true)), .un .not (.t 145)⟩,
  ⟨(some 147), none, .pick (.t 138) (.t 146) (.c (.bool false))⟩]
@[go_sem] def flow_Live_r33 : List AI := [
  ⟨(some 148), none, .mov (.t 4)⟩,
  ⟨(some 149), none, .mov (.t 12)⟩,
  ⟨(some 150), none, .iaddr 1 (.t 148) (.t 149)⟩,
  ⟨(some 151), none, .load 1 false (.t 150)⟩,
  ⟨(some 152), none, .mov (.t 16)⟩,
  ⟨(some 153), none, .iaddr 1 (.t 151) (.t 152)⟩,
  ⟨none, none, .store 1 (.t 153) (.c (.bool true))⟩]
@[go_sem] def flow_Live_r34 : List AI := [
  ⟨(some 11), none, .mov (.c (.bool true))⟩]
@[go_sem] def flow_Live_r35 : List AI := [
  ⟨(some 154), none, .bin .add (.t 100) (.c (.int .i64 1))⟩,
  ⟨(some 100), none, .mov (.t 154)⟩]
def flow_Live_l4 : AC := .seq (.ops [flow_Live_r24]) (.seq (.cond (.t 101) (.skip) (.exit 8)) (.seq (.block 9 (.seq (.ops [flow_Live_r25]) (.seq (.ops [flow_Live_r26]) (.seq (.seq (.ops [flow_Live_r27]) (.block 10 (.loop flow_Live_l5))) (.seq (.ops [flow_Live_r32]) (.cond (.t 147) (.seq (.ops [flow_Live_r33]) (.ops [flow_Live_r34])) (.skip))))))) (.ops [flow_Live_r35])))
theorem flow_Live_l4_eq : flow_Live_l4 = .seq (.ops [flow_Live_r24]) (.seq (.cond (.t 101) (.skip) (.exit 8)) (.seq (.block 9 (.seq (.ops [flow_Live_r25]) (.seq (.ops [flow_Live_r26]) (.seq (.seq (.ops [flow_Live_r27]) (.block 10 (.loop flow_Live_l5))) (.seq (.ops [flow_Live_r32]) (.cond (.t 147) (.seq (.ops [flow_Live_r33]) (.ops [flow_Live_r34])) (.skip))))))) (.ops [flow_Live_r35]))) := rfl
@[go_sem] def flow_Live_r36 : List AI := [
  ⟨(some 86), none, .mov (.t 12)⟩,
  ⟨(some 87), none, .bin .sub (.t 86) (.c (.int .i64 1))⟩,
  ⟨(some 12), none, .mov (.t 87)⟩]
def flow_Live_l3 : AC := .seq (.seq (.ops [flow_Live_r20]) (.cond (.t 85) (.skip) (.exit 6))) (.seq (.block 7 (.seq (.ops [flow_Live_r21]) (.seq (.ops [flow_Live_r22]) (.seq (.ops [flow_Live_r23]) (.block 8 (.loop flow_Live_l4)))))) (.ops [flow_Live_r36]))
theorem flow_Live_l3_eq : flow_Live_l3 = .seq (.seq (.ops [flow_Live_r20]) (.cond (.t 85) (.skip) (.exit 6))) (.seq (.block 7 (.seq (.ops [flow_Live_r21]) (.seq (.ops [flow_Live_r22]) (.seq (.ops [flow_Live_r23]) (.block 8 (.loop flow_Live_l4)))))) (.ops [flow_Live_r36])) := rfl
def flow_Live_l2 : AC := .seq (.seq (.ops [flow_Live_r17]) (.cond (.t 79) (.skip) (.exit 4))) (.block 5 (.seq (.ops [flow_Live_r18]) (.seq (.ops [flow_Live_r19]) (.block 6 (.loop flow_Live_l3)))))
theorem flow_Live_l2_eq : flow_Live_l2 = .seq (.seq (.ops [flow_Live_r17]) (.cond (.t 79) (.skip) (.exit 4))) (.block 5 (.seq (.ops [flow_Live_r18]) (.seq (.ops [flow_Live_r19]) (.block 6 (.loop flow_Live_l3))))) := rfl
@[go_sem] def flow_Live_r37 : List AI := [
  ⟨(some 155), none, .faddr 5 (.t 1)⟩,
  ⟨(some 156), none, .load 1 false (.t 155)⟩,
  ⟨(some 157), none, .len 0 (.t 156)⟩,
  ⟨(some 158), none, .mksl 90158 [.nils] (.t 157)⟩,
  ⟨(some 20), none, .mov (.t 158)⟩]
@[go_sem] def flow_Live_r38 : List AI := [
  ⟨(some 159), none, .mov (.t 20)⟩,
  ⟨(some 160), none, .len 0 (.t 159)⟩,
  ⟨(some 161), none, .mov (.c (.int .i64 0))⟩]
@[go_sem] def flow_Live_r39 : List AI := [
  ⟨(some 162), none, .bin .lss (.t 161) (.t 160)⟩]
@[go_sem] def flow_Live_r40 : List AI := [
  ⟨(some 163), none, .mov (.t 161)⟩,
  ⟨(some 21), none, .mov (.t 163)⟩]
@[go_sem] def flow_Live_r41 : List AI := [
  ⟨(some 164), none, .mov (.t 3)⟩,
  ⟨(some 165), none, .mov (.c (.int .i64 0))⟩]
@[go_sem] def flow_Live_r42 : List AI := [
  ⟨(some 166), none, .bin .lss (.t 165) (.t 164)⟩]
@[go_sem] def flow_Live_r43 : List AI := [
  ⟨(some 167), none, .mov (.t 165)⟩,
  ⟨(some 22), none, .mov (.t 167)⟩]
@[go_sem] def flow_Live_r44 : List AI := [
  ⟨(some 168), none, .mov (.t 4)⟩,
  ⟨(some 169), none, .mov (.t 21)⟩,
  ⟨(some 170), none, .iaddr 1 (.t 168) (.t 169)⟩,
  ⟨(some 171), none, .load 1 false (.t 170)⟩,
  ⟨(some 172), none, .mov (.t 22)⟩,
  ⟨(some 173), none, .iaddr 1 (.t 171) (.t 172)⟩,
  ⟨(some 174), none, .load 1 false (.t 173)⟩]
@[go_sem] def flow_Live_r45 : List AI := [
  ⟨(some 175), none, .mov (.t 20)⟩,
  ⟨(some 176), none, .mov (.t 21)⟩,
  ⟨(some 177), none, .mov (.t 20)⟩,
  ⟨(some 178), none, .mov (.t 21)⟩,
  ⟨(some 179), none, .iaddr 1 (.t 177) (.t 178)⟩,
  ⟨(some 180), none, .load 1 false (.t 179)⟩,
  ⟨(some 181), none, .mov (.t 22)⟩,
  ⟨(some 182), none, .mkisl 1 [(.t 181)]⟩,
  ⟨(some 183), none, .app 90183 1 (.t 180) (.t 182)⟩,
  ⟨(some 184), none, .iaddr 1 (.t 175) (.t 176)⟩,
  ⟨none, none, .store 1 (.t 184) (.t 183)⟩]
@[go_sem] def flow_Live_r46 : List AI := [
  ⟨(some 185), none, .bin .add (.t 165) (.c (.int .i64 1))⟩,
  ⟨(some 165), none, .mov (.t 185)⟩]
def flow_Live_l7 : AC := .seq (.ops [flow_Live_r42]) (.seq (.cond (.t 166) (.skip) (.exit 14)) (.seq (.block 15 (.seq (.ops [flow_Live_r43]) (.seq (.ops [flow_Live_r44]) (.cond (.t 174) (.ops [flow_Live_r45]) (.skip))))) (.ops [flow_Live_r46])))
theorem flow_Live_l7_eq : flow_Live_l7 = .seq (.ops [flow_Live_r42]) (.seq (.cond (.t 166) (.skip) (.exit 14)) (.seq (.block 15 (.seq (.ops [flow_Live_r43]) (.seq (.ops [flow_Live_r44]) (.cond (.t 174) (.ops [flow_Live_r45]) (.skip))))) (.ops [flow_Live_r46]))) := rfl
@[go_sem] def flow_Live_r47 : List AI := [
  ⟨(some 186), none, .bin .add (.t 161) (.c (.int .i64 1))⟩,
  ⟨(some 161), none, .mov (.t 186)⟩]
def flow_Live_l6 : AC := .seq (.ops [flow_Live_r39]) (.seq (.cond (.t 162) (.skip) (.exit 12)) (.seq (.block 13 (.seq (.ops [flow_Live_r40]) (.seq (.ops [flow_Live_r41]) (.block 14 (.loop flow_Live_l7))))) (.ops [flow_Live_r47])))
theorem flow_Live_l6_eq : flow_Live_l6 = .seq (.ops [flow_Live_r39]) (.seq (.cond (.t 162) (.skip) (.exit 12)) (.seq (.block 13 (.seq (.ops [flow_Live_r40]) (.seq (.ops [flow_Live_r41]) (.block 14 (.loop flow_Live_l7))))) (.ops [flow_Live_r47]))) := rfl
@[go_sem] def flow_Live_r48 : List AI := [
  ⟨(some 187), none, .mov (.t 20)⟩,
  ⟨(some 2), none, .mov (.t 187)⟩]
@[go_sem] def flow_Live_c : AC := .seq (.ops [flow_Live_r0]) (.seq (.ops [flow_Live_r1]) (.seq (.ops [flow_Live_r2]) (.seq (.ops [flow_Live_r3]) (.seq (.ops [flow_Live_r4]) (.seq (.seq (.ops [flow_Live_r5]) (.block 0 (.loop flow_Live_l0))) (.seq (.seq (.ops [flow_Live_r16]) (.block 4 (.loop flow_Live_l2))) (.seq (.ops [flow_Live_r37]) (.seq (.seq (.ops [flow_Live_r38]) (.block 12 (.loop flow_Live_l6))) (.seq (.ops [flow_Live_r48]) (.ret))))))))))
theorem flow_Live_ok : compF Tryd.prog 9 = some (188, flow_Live_c, [.t 2]) := by kernel_rfl

@[go_sem] def scriptingref35_Live_r0 : List AI := [
  ⟨(some 1), none, .box 100001 11 (.t 0)⟩,
  ⟨(some 2), none, .mov (.c .nils)⟩]
@[go_sem] def scriptingref35_Live_r1 : List AI := [
  ⟨(some 21), none, .load 11 true (.t 1)⟩,
  ⟨(some 22), none, .call 23 [(.t 21)]⟩,
  ⟨(some 3), none, .mov (.t 22)⟩]
@[go_sem] def scriptingref35_Live_r2 : List AI := [
  ⟨(some 23), none, .mkrow 100023 1 []⟩,
  ⟨(some 24), none, .mkrow 100024 1 []⟩,
  ⟨(some 25), none, .mkrow 100025 1 []⟩,
  ⟨(some 4), none, .mov (.t 23)⟩,
  ⟨(some 5), none, .mov (.t 24)⟩,
  ⟨(some 6), none, .mov (.t 25)⟩]
@[go_sem] def scriptingref35_Live_r3 : List AI := [
  ⟨(some 7), none, .mov (.c (.int .i64 0))⟩]
@[go_sem] def scriptingref35_Live_r4 : List AI := [
  ⟨(some 26), none, .mov (.t 7)⟩,
  ⟨(some 27), none, .faddr 5 (.t 1)⟩,
  ⟨(some 28), none, .load 1 false (.t 27)⟩,
  ⟨(some 29), none, .len 0 (.t 28)⟩,
  ⟨(some 30), none, .bin .lss (.t 26) (.t 29)⟩]
@[go_sem] def scriptingref35_Live_r5 : List AI := [
  ⟨(some 33), none, .mov (.t 4)⟩,
  ⟨(some 34), none, .load 11 true (.t 1)⟩,
  ⟨(some 35), none, .mov (.t 7)⟩,
  ⟨(some 36), none, .mov (.t 3)⟩,
  ⟨(some 37), none, .call 24 [(.t 34), (.t 35), (.t 36)]⟩,
  ⟨(some 38), none, .mkisl 1 [(.t 37)]⟩,
  ⟨(some 39), none, .app 100039 1 (.t 33) (.t 38)⟩,
  ⟨(some 4), none, .mov (.t 39)⟩]
@[go_sem] def scriptingref35_Live_r6 : List AI := [
  ⟨(some 40), none, .load 11 true (.t 1)⟩,
  ⟨(some 41), none, .mov (.t 7)⟩,
  ⟨(some 42), none, .call 25 [(.t 40), (.t 41)]⟩,
  ⟨(some 8), none, .mov (.t 42)⟩]
@[go_sem] def scriptingref35_Live_r7 : List AI := [
  ⟨(some 43), none, .mkrow 100043 1 []⟩,
  ⟨(some 9), none, .mov (.t 43)⟩]
@[go_sem] def scriptingref35_Live_r8 : List AI := [
  ⟨(some 10), none, .mov (.c (.int .i64 0))⟩]
@[go_sem] def scriptingref35_Live_r9 : List AI := [
  ⟨(some 44), none, .mov (.t 10)⟩,
  ⟨(some 45), none, .mov (.t 8)⟩,
  ⟨(some 46), none, .len 0 (.t 45)⟩,
  ⟨(some 47), none, .bin .lss (.t 44) (.t 46)⟩]
@[go_sem] def scriptingref35_Live_r10 : List AI := [
  ⟨(some 50), none, .mov (.t 9)⟩,
  ⟨(some 51), none, .load 11 true (.t 1)⟩,
  ⟨(some 52), none, .mov (.t 7)⟩,
  ⟨(some 53), none, .mov (.t 8)⟩,
  ⟨(some 54), none, .mov (.t 10)⟩,
  ⟨(some 55), none, .iaddr 1 (.t 53) (.t 54)⟩,
  ⟨(some 56), none, .load 1 false (.t 55)⟩,
  ⟨(some 57), none, .mov (.t 3)⟩,
  ⟨(some 58), none, .call 26 [(.t 51), (.t 52), (.t 56), (.t 57)]⟩,
  ⟨(some 59), none, .mkisl 1 [(.t 58)]⟩,
  ⟨(some 60), none, .app 100060 1 (.t 50) (.t 59)⟩,
  ⟨(some 9), none, .mov (.t 60)⟩]
@[go_sem] def scriptingref35_Live_r11 : List AI := [
  ⟨(some 48), none, .mov (.t 10)⟩,
  ⟨(some 49), none, .bin .add (.t 48) (.c (.int .i64 1))⟩,
  ⟨(some 10), none, .mov (.t 49)⟩]
def scriptingref35_Live_l1 : AC := .seq (.seq (.ops [scriptingref35_Live_r9]) (.cond (.t 47) (.skip) (.exit 2))) (.seq (.block 3 (.ops [scriptingref35_Live_r10])) (.ops [scriptingref35_Live_r11]))
theorem scriptingref35_Live_l1_eq : scriptingref35_Live_l1 = .seq (.seq (.ops [scriptingref35_Live_r9]) (.cond (.t 47) (.skip) (.exit 2))) (.seq (.block 3 (.ops [scriptingref35_Live_r10])) (.ops [scriptingref35_Live_r11])) := rfl
@[go_sem] def scriptingref35_Live_r12 : List AI := [
  ⟨(some 61), none, .mov (.t 5)⟩,
  ⟨(some 62), none, .mov (.t 9)⟩,
  ⟨(some 63), none, .mkisl 1 [(.t 62)]⟩,
  ⟨(some 64), none, .app 100064 1 (.t 61) (.t 63)⟩,
  ⟨(some 5), none, .mov (.t 64)⟩]
@[go_sem] def scriptingref35_Live_r13 : List AI := [
  ⟨(some 65), none, .mov (.t 6)⟩,
  ⟨(some 66), none, .mov (.t 3)⟩,
  ⟨(some 67), none, .mksl 100067 [(.bool false)] (.t 66)⟩,
  ⟨(some 68), none, .mkisl 1 [(.t 67)]⟩,
  ⟨(some 69), none, .app 100069 1 (.t 65) (.t 68)⟩,
  ⟨(some 6), none, .mov (.t 69)⟩]
@[go_sem] def scriptingref35_Live_r14 : List AI := [
  ⟨(some 31), none, .mov (.t 7)⟩,
  ⟨(some 32), none, .bin .add (.t 31) (.c (.int .i64 1))⟩,
  ⟨(some 7), none, .mov (.t 32)⟩]
def scriptingref35_Live_l0 : AC := .seq (.seq (.ops [scriptingref35_Live_r4]) (.cond (.t 30) (.skip) (.exit 0))) (.seq (.block 1 (.seq (.ops [scriptingref35_Live_r5]) (.seq (.ops [scriptingref35_Live_r6]) (.seq (.ops [scriptingref35_Live_r7]) (.seq (.seq (.ops [scriptingref35_Live_r8]) (.block 2 (.loop scriptingref35_Live_l1))) (.seq (.ops [scriptingref35_Live_r12]) (.ops [scriptingref35_Live_r13]))))))) (.ops [scriptingref35_Live_r14]))
theorem scriptingref35_Live_l0_eq : scriptingref35_Live_l0 = .seq (.seq (.ops [scriptingref35_Live_r4]) (.cond (.t 30) (.skip) (.exit 0))) (.seq (.block 1 (.seq (.ops [scriptingref35_Live_r5]) (.seq (.ops [scriptingref35_Live_r6]) (.seq (.ops [scriptingref35_Live_r7]) (.seq (.seq (.ops [scriptingref35_Live_r8]) (.block 2 (.loop scriptingref35_Live_l1))) (.seq (.ops [scriptingref35_Live_r12]) (.ops [scriptingref35_Live_r13]))))))) (.ops [scriptingref35_Live_r14])) := rfl
@[go_sem] def scriptingref35_Live_r15 : List AI := [
  ⟨(some 11), none, .mov (.c (.bool true))⟩]
@[go_sem] def scriptingref35_Live_r16 : List AI := [
  ⟨(some 70), none, .mov (.t 11)⟩]
@[go_sem] def scriptingref35_Live_r17 : List AI := [
  ⟨(some 11), none, .mov (.c (.bool false))⟩]
@[go_sem] def scriptingref35_Live_r18 : List AI := [
  ⟨(some 71), none, .faddr 5 (.t 1)⟩,
  ⟨(some 72), none, .load 1 false (.t 71)⟩,
  ⟨(some 73), none, .len 0 (.t 72)⟩,
  ⟨(some 74), none, .bin .sub (.t 73) (.c (.int .i64 1))⟩,
  ⟨(some 12), none, .mov (.t 74)⟩]
@[go_sem] def scriptingref35_Live_r19 : List AI := [
  ⟨(some 75), none, .mov (.t 12)⟩,
  ⟨(some 76), none, .bin .geq (.t 75) (.c (.int .i64 0))⟩]
@[go_sem] def scriptingref35_Live_r20 : List AI := [
  ⟨(some 79), none, .load 11 true (.t 1)⟩,
  ⟨(some 80), none, .mov (.t 12)⟩,
  ⟨(some 81), none, .call 25 [(.t 79), (.t 80)]⟩,
  ⟨(some 13), none, .mov (.t 81)⟩]
@[go_sem] def scriptingref35_Live_r21 : List AI := [
  ⟨(some 14), none, .mov (.c (.int .i64 0))⟩]
@[go_sem] def scriptingref35_Live_r22 : List AI := [
  ⟨(some 82), none, .mov (.t 14)⟩,
  ⟨(some 83), none, .mov (.t 3)⟩,
  ⟨(some 84), none, .bin .lss (.t 82) (.t 83)⟩]
@[go_sem] def scriptingref35_Live_r23 : List AI := [
  ⟨(some 87), none, .mov (.t 4)⟩,
  ⟨(some 88), none, .mov (.t 12)⟩,
  ⟨(some 89), none, .iaddr 1 (.t 87) (.t 88)⟩,
  ⟨(some 90), none, .load 1 false (.t 89)⟩,
  ⟨(some 91), none, .mov (.t 14)⟩,
  ⟨(some 92), none, .iaddr 1 (.t 90) (.t 91)⟩,
  ⟨(some 93), none, .load 1 false (.t 92)⟩,
  ⟨(some 15), none, .mov (.t 93)⟩]
@[go_sem] def scriptingref35_Live_r24 : List AI := [
  ⟨(some 16), none, .mov (.c (.int .i64 0))⟩]
@[go_sem] def scriptingref35_Live_r25 : List AI := [
  ⟨(some 94), none, .mov (.t 16)⟩,
  ⟨(some 95), none, .mov (.t 13)⟩,
  ⟨(some 96), none, .len 0 (.t 95)⟩,
  ⟨(some 97), none, .bin .lss (.t 94) (.t 96)⟩,
  ⟨(some 98), none, .mov (.t 97)⟩,
  ⟨(some 99), (some (98, true)), .mov (.t 15)⟩,
  ⟨(some 100), (some (98, true)), .un .not (.t 99)⟩,
  ⟨(some 101), none, .pick (.t 98) (.t 100) (.c (.bool false))⟩]
@[go_sem] def scriptingref35_Live_r26 : List AI := [
  ⟨(some 104), none, .mov (.t 6)⟩,
  ⟨(some 105), none, .mov (.t 13)⟩,
  ⟨(some 106), none, .mov (.t 16)⟩,
  ⟨(some 107), none, .iaddr 1 (.t 105) (.t 106)⟩,
  ⟨(some 108), none, .load 1 false (.t 107)⟩,
  ⟨(some 109), none, .iaddr 1 (.t 104) (.t 108)⟩,
  ⟨(some 110), none, .load 1 false (.t 109)⟩,
  ⟨(some 111), none, .mov (.t 14)⟩,
  ⟨(some 112), none, .iaddr 1 (.t 110) (.t 111)⟩,
  ⟨(some 113), none, .load 1 false (.t 112)⟩,
  ⟨(some 114), none, .mov (.t 113)⟩,
  ⟨(some 115), (some (114, true)), .mov (.t 5)⟩,
  ⟨(some 116), (some (114, true)), .mov (.t 12)⟩,
  ⟨(some 117), (some (114, true)), .iaddr 1 (.t 115) (.t 116)⟩,
  ⟨(some 118), (some (114, true)), .load 1 false (.t 117)⟩,
  ⟨(some 119), (some (114, true)), .mov (.t 16)⟩,
  ⟨(some 120), (some (114, true)), .iaddr 1 (.t 118) (.t 119)⟩,
  ⟨(some 121), (some (114, true)), .load 1 false (.t 120)⟩,
  ⟨(some 122), (some (114, true)), .mov (.t 14)⟩,
  ⟨(some 123), (some (114, true)), .iaddr 1 (.t 121) (.t 122)⟩,
  ⟨(some 124), (some (114, true)), .load 1 false (.t 123)⟩,
  ⟨(some 125), (some (114, true)), .un .not (.t 124)⟩,
  ⟨(some 126), none, .pick (.t 114) (.t 125) (.c (.bool false))⟩,
  ⟨(some 15), none, .mov (.t 126)⟩]
@[go_sem] def scriptingref35_Live_r27 : List AI := [
  ⟨(some 102), none, .mov (.t 16)⟩,
  ⟨(some 103), none, .bin .add (.t 102) (.c (.int .i64 1))⟩,
  ⟨(some 16), none, .mov (.t 103)⟩]
def scriptingref35_Live_l5 : AC := .seq (.seq (.ops [scriptingref35_Live_r25]) (.cond (.t 101) (.skip) (.exit 10))) (.seq (.block 11 (.ops [scriptingref35_Live_r26])) (.ops [scriptingref35_Live_r27]))
theorem scriptingref35_Live_l5_eq : scriptingref35_Live_l5 = .seq (.seq (.ops [scriptingref35_Live_r25]) (.cond (.t 101) (.skip) (.exit 10))) (.seq (.block 11 (.ops [scriptingref35_Live_r26])) (.ops [scriptingref35_Live_r27])) := rfl
@[go_sem] def scriptingref35_Live_r28 : List AI := [
  ⟨(some 127), none, .mov (.t 15)⟩,
  ⟨(some 128), none, .mov (.t 127)⟩,
  ⟨(some 129), (some (128, true)), .mov (.t 6)⟩,
  ⟨(some 130), (some (128, true)), .mov (.t 12)⟩,
  ⟨(some 131), (some (128, true)), .iaddr 1 (.t 129) (.t 130)⟩,
  ⟨(some 132), (some (128, true)), .load 1 false (.t 131)⟩,
  ⟨(some 133), (some (128, true)), .mov (.t 14)⟩,
  ⟨(some 134), (some (128, true)), .iaddr 1 (.t 132) (.t 133)⟩,
  ⟨(some 135), (some (128, true)), .load 1 false (.t 134)⟩,
  ⟨(some 136), (some (128, true)), .un .not (.t 135)⟩,
  ⟨(some 137), none, .pick (.t 128) (.t 136) (.c (.bool false))⟩]
@[go_sem] def scriptingref35_Live_r29 : List AI := [
  ⟨(some 138), none, .mov (.t 6)⟩,
  ⟨(some 139), none, .mov (.t 12)⟩,
  ⟨(some 140), none, .iaddr 1 (.t 138) (.t 139)⟩,
  ⟨(some 141), none, .load 1 false (.t 140)⟩,
  ⟨(some 142), none, .mov (.t 14)⟩,
  ⟨(some 143), none, .iaddr 1 (.t 141) (.t 142)⟩,
  ⟨none, none, .store 1 (.t 143) (.c (.bool true))⟩]
@[go_sem] def scriptingref35_Live_r30 : List AI := [
  ⟨(some 11), none, .mov (.c (.bool true))⟩]
@[go_sem] def scriptingref35_Live_r31 : List AI := [
  ⟨(some 85), none, .mov (.t 14)⟩,
  ⟨(some 86), none, .bin .add (.t 85) (.c (.int .i64 1))⟩,
  ⟨(some 14), none, .mov (.t 86)⟩]
def scriptingref35_Live_l4 : AC := .seq (.seq (.ops [scriptingref35_Live_r22]) (.cond (.t 84) (.skip) (.exit 8))) (.seq (.block 9 (.seq (.ops [scriptingref35_Live_r23]) (.seq (.seq (.ops [scriptingref35_Live_r24]) (.block 10 (.loop scriptingref35_Live_l5))) (.seq (.ops [scriptingref35_Live_r28]) (.cond (.t 137) (.seq (.ops [scriptingref35_Live_r29]) (.ops [scriptingref35_Live_r30])) (.skip)))))) (.ops [scriptingref35_Live_r31]))
theorem scriptingref35_Live_l4_eq : scriptingref35_Live_l4 = .seq (.seq (.ops [scriptingref35_Live_r22]) (.cond (.t 84) (.skip) (.exit 8))) (.seq (.block 9 (.seq (.ops [scriptingref35_Live_r23]) (.seq (.seq (.ops [scriptingref35_Live_r24]) (.block 10 (.loop scriptingref35_Live_l5))) (.seq (.ops [scriptingref35_Live_r28]) (.cond (.t 137) (.seq (.ops [scriptingref35_Live_r29]) (.ops [scriptingref35_Live_r30])) (.skip)))))) (.ops [scriptingref35_Live_r31])) := rfl
@[go_sem] def scriptingref35_Live_r32 : List AI := [
  ⟨(some 77), none, .mov (.t 12)⟩,
  ⟨(some 78), none, .bin .sub (.t 77) (.c (.int .i64 1))⟩,
  ⟨(some 12), none, .mov (.t 78)⟩]
def scriptingref35_Live_l3 : AC := .seq (.seq (.ops [scriptingref35_Live_r19]) (.cond (.t 76) (.skip) (.exit 6))) (.seq (.block 7 (.seq (.ops [scriptingref35_Live_r20]) (.seq (.ops [scriptingref35_Live_r21]) (.block 8 (.loop scriptingref35_Live_l4))))) (.ops [scriptingref35_Live_r32]))
theorem scriptingref35_Live_l3_eq : scriptingref35_Live_l3 = .seq (.seq (.ops [scriptingref35_Live_r19]) (.cond (.t 76) (.skip) (.exit 6))) (.seq (.block 7 (.seq (.ops [scriptingref35_Live_r20]) (.seq (.ops [scriptingref35_Live_r21]) (.block 8 (.loop scriptingref35_Live_l4))))) (.ops [scriptingref35_Live_r32])) := rfl
def scriptingref35_Live_l2 : AC := .seq (.seq (.ops [scriptingref35_Live_r16]) (.cond (.t 70) (.skip) (.exit 4))) (.block 5 (.seq (.ops [scriptingref35_Live_r17]) (.seq (.ops [scriptingref35_Live_r18]) (.block 6 (.loop scriptingref35_Live_l3)))))
theorem scriptingref35_Live_l2_eq : scriptingref35_Live_l2 = .seq (.seq (.ops [scriptingref35_Live_r16]) (.cond (.t 70) (.skip) (.exit 4))) (.block 5 (.seq (.ops [scriptingref35_Live_r17]) (.seq (.ops [scriptingref35_Live_r18]) (.block 6 (.loop scriptingref35_Live_l3))))) := rfl
@[go_sem] def scriptingref35_Live_r33 : List AI := [
  ⟨(some 144), none, .mkrow 100144 1 []⟩,
  ⟨(some 17), none, .mov (.t 144)⟩]
@[go_sem] def scriptingref35_Live_r34 : List AI := [
  ⟨(some 18), none, .mov (.c (.int .i64 0))⟩]
@[go_sem] def scriptingref35_Live_r35 : List AI := [
  ⟨(some 145), none, .mov (.t 18)⟩,
  ⟨(some 146), none, .mov (.t 6)⟩,
  ⟨(some 147), none, .len 0 (.t 146)⟩,
  ⟨(some 148), none, .bin .lss (.t 145) (.t 147)⟩]
@[go_sem] def scriptingref35_Live_r36 : List AI := [
  ⟨(some 151), none, .mkrow 100151 1 []⟩,
  ⟨(some 19), none, .mov (.t 151)⟩]
@[go_sem] def scriptingref35_Live_r37 : List AI := [
  ⟨(some 20), none, .mov (.c (.int .i64 0))⟩]
@[go_sem] def scriptingref35_Live_r38 : List AI := [
  ⟨(some 152), none, .mov (.t 20)⟩,
  ⟨(some 153), none, .mov (.t 3)⟩,
  ⟨(some 154), none, .bin .lss (.t 152) (.t 153)⟩]
@[go_sem] def scriptingref35_Live_r39 : List AI := [
  ⟨(some 157), none, .mov (.t 6)⟩,
  ⟨(some 158), none, .mov (.t 18)⟩,
  ⟨(some 159), none, .iaddr 1 (.t 157) (.t 158)⟩,
  ⟨(some 160), none, .load 1 false (.t 159)⟩,
  ⟨(some 161), none, .mov (.t 20)⟩,
  ⟨(some 162), none, .iaddr 1 (.t 160) (.t 161)⟩,
  ⟨(some 163), none, .load 1 false (.t 162)⟩]
@[go_sem] def scriptingref35_Live_r40 : List AI := [
  ⟨(some 164), none, .mov (.t 19)⟩,
  ⟨(some 165), none, .mov (.t 20)⟩,
  ⟨(some 166), none, .mkisl 1 [(.t 165)]⟩,
  ⟨(some 167), none, .app 100167 1 (.t 164) (.t 166)⟩,
  ⟨(some 19), none, .mov (.t 167)⟩]
@[go_sem] def scriptingref35_Live_r41 : List AI := [
  ⟨(some 155), none, .mov (.t 20)⟩,
  ⟨(some 156), none, .bin .add (.t 155) (.c (.int .i64 1))⟩,
  ⟨(some 20), none, .mov (.t 156)⟩]
def scriptingref35_Live_l7 : AC := .seq (.seq (.ops [scriptingref35_Live_r38]) (.cond (.t 154) (.skip) (.exit 14))) (.seq (.block 15 (.seq (.ops [scriptingref35_Live_r39]) (.cond (.t 163) (.ops [scriptingref35_Live_r40]) (.skip)))) (.ops [scriptingref35_Live_r41]))
theorem scriptingref35_Live_l7_eq : scriptingref35_Live_l7 = .seq (.seq (.ops [scriptingref35_Live_r38]) (.cond (.t 154) (.skip) (.exit 14))) (.seq (.block 15 (.seq (.ops [scriptingref35_Live_r39]) (.cond (.t 163) (.ops [scriptingref35_Live_r40]) (.skip)))) (.ops [scriptingref35_Live_r41])) := rfl
@[go_sem] def scriptingref35_Live_r42 : List AI := [
  ⟨(some 168), none, .mov (.t 17)⟩,
  ⟨(some 169), none, .mov (.t 19)⟩,
  ⟨(some 170), none, .mkisl 1 [(.t 169)]⟩,
  ⟨(some 171), none, .app 100171 1 (.t 168) (.t 170)⟩,
  ⟨(some 17), none, .mov (.t 171)⟩]
@[go_sem] def scriptingref35_Live_r43 : List AI := [
  ⟨(some 149), none, .mov (.t 18)⟩,
  ⟨(some 150), none, .bin .add (.t 149) (.c (.int .i64 1))⟩,
  ⟨(some 18), none, .mov (.t 150)⟩]
def scriptingref35_Live_l6 : AC := .seq (.seq (.ops [scriptingref35_Live_r35]) (.cond (.t 148) (.skip) (.exit 12))) (.seq (.block 13 (.seq (.ops [scriptingref35_Live_r36]) (.seq (.seq (.ops [scriptingref35_Live_r37]) (.block 14 (.loop scriptingref35_Live_l7))) (.ops [scriptingref35_Live_r42])))) (.ops [scriptingref35_Live_r43]))
theorem scriptingref35_Live_l6_eq : scriptingref35_Live_l6 = .seq (.seq (.ops [scriptingref35_Live_r35]) (.cond (.t 148) (.skip) (.exit 12))) (.seq (.block 13 (.seq (.ops [scriptingref35_Live_r36]) (.seq (.seq (.ops [scriptingref35_Live_r37]) (.block 14 (.loop scriptingref35_Live_l7))) (.ops [scriptingref35_Live_r42])))) (.ops [scriptingref35_Live_r43])) := rfl
@[go_sem] def scriptingref35_Live_r44 : List AI := [
  ⟨(some 172), none, .mov (.t 17)⟩,
  ⟨(some 2), none, .mov (.t 172)⟩]
@[go_sem] def scriptingref35_Live_c : AC := .seq (.ops [scriptingref35_Live_r0]) (.seq (.ops [scriptingref35_Live_r1]) (.seq (.ops [scriptingref35_Live_r2]) (.seq (.seq (.ops [scriptingref35_Live_r3]) (.block 0 (.loop scriptingref35_Live_l0))) (.seq (.seq (.ops [scriptingref35_Live_r15]) (.block 4 (.loop scriptingref35_Live_l2))) (.seq (.ops [scriptingref35_Live_r33]) (.seq (.seq (.ops [scriptingref35_Live_r34]) (.block 12 (.loop scriptingref35_Live_l6))) (.seq (.ops [scriptingref35_Live_r44]) (.ret))))))))
theorem scriptingref35_Live_ok : compF Tryd.prog 10 = some (173, scriptingref35_Live_c, [.t 2]) := by kernel_rfl

@[go_sem] def scriptinglaw35_ints_r0 : List AI := [
  ⟨(some 4), none, .mov (.c (.bool false))⟩]
@[go_sem] def scriptinglaw35_ints_r1 : List AI := [
  ⟨(some 6), none, .mov (.t 0)⟩,
  ⟨(some 7), none, .len 0 (.t 6)⟩,
  ⟨(some 8), none, .mov (.t 1)⟩,
  ⟨(some 9), none, .len 0 (.t 8)⟩,
  ⟨(some 10), none, .bin .neq (.t 7) (.t 9)⟩]
@[go_sem] def scriptinglaw35_ints_r2 : List AI := [
  ⟨(some 4), none, .mov (.c (.bool false))⟩]
@[go_sem] def scriptinglaw35_ints_r3 : List AI := [
  ⟨(some 11), none, .mov (.t 0)⟩,
  ⟨(some 12), none, .len 0 (.t 11)⟩,
  ⟨(some 13), none, .mov (.c (.int .i64 0))⟩]
@[go_sem] def scriptinglaw35_ints_r4 : List AI := [
  ⟨(some 14), none, .bin .lss (.t 13) (.t 12)⟩]
@[go_sem] def scriptinglaw35_ints_r5 : List AI := [
  ⟨(some 15), none, .mov (.t 13)⟩,
  ⟨(some 5), none, .mov (.t 15)⟩]
@[go_sem] def scriptinglaw35_ints_r6 : List AI := [
  ⟨(some 16), none, .mov (.t 0)⟩,
  ⟨(some 17), none, .mov (.t 5)⟩,
  ⟨(some 18), none, .iaddr 1 (.t 16) (.t 17)⟩,
  ⟨(some 19), none, .load 1 false (.t 18)⟩,
  ⟨(some 20), none, .mov (.t 1)⟩,
  ⟨(some 21), none, .mov (.t 5)⟩,
  ⟨(some 22), none, .iaddr 1 (.t 20) (.t 21)⟩,
  ⟨(some 23), none, .load 1 false (.t 22)⟩,
  ⟨(some 24), none, .bin .neq (.t 19) (.t 23)⟩]
@[go_sem] def scriptinglaw35_ints_r7 : List AI := [
  ⟨(some 4), none, .mov (.c (.bool false))⟩]
@[go_sem] def scriptinglaw35_ints_r8 : List AI := [
  ⟨(some 25), none, .bin .add (.t 13) (.c (.int .i64 1))⟩,
  ⟨(some 13), none, .mov (.t 25)⟩]
def scriptinglaw35_ints_l0 : AC := .seq (.ops [scriptinglaw35_ints_r4]) (.seq (.cond (.t 14) (.skip) (.exit 0)) (.seq (.block 1 (.seq (.ops [scriptinglaw35_ints_r5]) (.seq (.ops [scriptinglaw35_ints_r6]) (.cond (.t 24) (.seq (.ops [scriptinglaw35_ints_r7]) (.ret)) (.skip))))) (.ops [scriptinglaw35_ints_r8])))
theorem scriptinglaw35_ints_l0_eq : scriptinglaw35_ints_l0 = .seq (.ops [scriptinglaw35_ints_r4]) (.seq (.cond (.t 14) (.skip) (.exit 0)) (.seq (.block 1 (.seq (.ops [scriptinglaw35_ints_r5]) (.seq (.ops [scriptinglaw35_ints_r6]) (.cond (.t 24) (.seq (.ops [scriptinglaw35_ints_r7]) (.ret)) (.skip))))) (.ops [scriptinglaw35_ints_r8]))) := rfl
@[go_sem] def scriptinglaw35_ints_r9 : List AI := [
  ⟨(some 4), none, .mov (.c (.bool true))⟩]
@[go_sem] def scriptinglaw35_ints_c : AC := .seq (.ops [scriptinglaw35_ints_r0]) (.seq (.seq (.ops [scriptinglaw35_ints_r1]) (.cond (.t 10) (.seq (.ops [scriptinglaw35_ints_r2]) (.ret)) (.skip))) (.seq (.seq (.ops [scriptinglaw35_ints_r3]) (.block 0 (.loop scriptinglaw35_ints_l0))) (.seq (.ops [scriptinglaw35_ints_r9]) (.ret))))
theorem scriptinglaw35_ints_ok : compF Tryd.prog 11 = some (26, scriptinglaw35_ints_c, [.t 4]) := by kernel_rfl

@[go_sem] def flow_Reach_r0 : List AI := [
  ⟨(some 1), none, .box 120001 11 (.t 0)⟩,
  ⟨(some 2), none, .mov (.c .nils)⟩]
@[go_sem] def flow_Reach_r1 : List AI := [
  ⟨(some 8), none, .faddr 5 (.t 1)⟩,
  ⟨(some 9), none, .load 1 false (.t 8)⟩,
  ⟨(some 10), none, .len 0 (.t 9)⟩,
  ⟨(some 11), none, .mksl 120011 [(.bool false)] (.t 10)⟩,
  ⟨(some 3), none, .mov (.t 11)⟩]
@[go_sem] def flow_Reach_r2 : List AI := [
  ⟨(some 4), none, .mov (.c .nils)⟩]
@[go_sem] def flow_Reach_r3 : List AI := [
  ⟨(some 12), none, .mov (.t 3)⟩,
  ⟨(some 13), none, .len 0 (.t 12)⟩,
  ⟨(some 14), none, .bin .gtr (.t 13) (.c (.int .i64 0))⟩]
@[go_sem] def flow_Reach_r4 : List AI := [
  ⟨(some 15), none, .mov (.t 3)⟩,
  ⟨(some 16), none, .iaddr 1 (.t 15) (.c (.int .i64 0))⟩,
  ⟨none, none, .store 1 (.t 16) (.c (.bool true))⟩]
@[go_sem] def flow_Reach_r5 : List AI := [
  ⟨(some 17), none, .mov (.t 4)⟩,
  ⟨(some 18), none, .mkisl 1 [(.c (.int .i64 0))]⟩,
  ⟨(some 19), none, .app 120019 1 (.t 17) (.t 18)⟩,
  ⟨(some 4), none, .mov (.t 19)⟩]
@[go_sem] def flow_Reach_r6 : List AI := [
  ⟨(some 20), none, .mov (.t 4)⟩,
  ⟨(some 21), none, .len 0 (.t 20)⟩,
  ⟨(some 22), none, .bin .gtr (.t 21) (.c (.int .i64 0))⟩]
@[go_sem] def flow_Reach_r7 : List AI := [
  ⟨(some 23), none, .mov (.t 4)⟩,
  ⟨(some 24), none, .mov (.t 4)⟩,
  ⟨(some 25), none, .len 0 (.t 24)⟩,
  ⟨(some 26), none, .bin .sub (.t 25) (.c (.int .i64 1))⟩,
  ⟨(some 27), none, .iaddr 1 (.t 23) (.t 26)⟩,
  ⟨(some 28), none, .load 1 false (.t 27)⟩,
  ⟨(some 5), none, .mov (.t 28)⟩]
@[go_sem] def flow_Reach_r8 : List AI := [
  ⟨(some 29), none, .mov (.t 4)⟩,
  ⟨(some 30), none, .mov (.t 4)⟩,
  ⟨(some 31), none, .len 0 (.t 30)⟩,
  ⟨(some 32), none, .bin .sub (.t 31) (.c (.int .i64 1))⟩,
  ⟨(some 33), none, .slc 1 (.t 29) none (some (.t 32))⟩,
  ⟨(some 4), none, .mov (.t 33)⟩]
@[go_sem] def flow_Reach_r9 : List AI := [
  ⟨(some 34), none, .load 11 true (.t 1)⟩,
  ⟨(some 35), none, .mov (.t 5)⟩,
  ⟨(some 36), none, .call 16 [(.t 34), (.t 35)]⟩,
  ⟨(some 37), none, .len 0 (.t 36)⟩,
  ⟨(some 38), none, .mov (.c (.int .i64 0))⟩]
@[go_sem] def flow_Reach_r10 : List AI := [
  ⟨(some 39), none, .bin .lss (.t 38) (.t 37)⟩]
@[go_sem] def flow_Reach_r11 : List AI := [
  ⟨(some 40), none, .iaddr 1 (.t 36) (.t 38)⟩,
  ⟨(some 41), none, .load 1 false (.t 40)⟩,
  ⟨(some 7), none, .mov (.t 41)⟩]
@[go_sem] def flow_Reach_r12 : List AI := [
  ⟨(some 42), none, .mov (.t 3)⟩,
  ⟨(some 43), none, .mov (.t 7)⟩,
  ⟨(some 44), none, .iaddr 1 (.t 42) (.t 43)⟩,
  ⟨(some 45), none, .load 1 false (.t 44)⟩,
  ⟨(some 46), none, .un .not (.t 45)⟩]
@[go_sem] def flow_Reach_r13 : List AI := [
  ⟨(some 47), none, .mov (.t 3)⟩,
  ⟨(some 48), none, .mov (.t 7)⟩,
  ⟨(some 49), none, .iaddr 1 (.t 47) (.t 48)⟩,
  ⟨none, none, .store 1 (.t 49) (.c (.bool true))⟩]
@[go_sem] def flow_Reach_r14 : List AI := [
  ⟨(some 50), none, .mov (.t 4)⟩,
  ⟨(some 51), none, .mov (.t 7)⟩,
  ⟨(some 52), none, .mkisl 1 [(.t 51)]⟩,
  ⟨(some 53), none, .app 120053 1 (.t 50) (.t 52)⟩,
  ⟨(some 4), none, .mov (.t 53)⟩]
@[go_sem] def flow_Reach_r15 : List AI := [
  ⟨(some 54), none, .bin .add (.t 38) (.c (.int .i64 1))⟩,
  ⟨(some 38), none, .mov (.t 54)⟩]
def flow_Reach_l1 : AC := .seq (.ops [flow_Reach_r10]) (.seq (.cond (.t 39) (.skip) (.exit 2)) (.seq (.block 3 (.seq (.ops [flow_Reach_r11]) (.seq (.ops [flow_Reach_r12]) (.cond (.t 46) (.seq (.ops [flow_Reach_r13]) (.ops [flow_Reach_r14])) (.skip))))) (.ops [flow_Reach_r15])))
theorem flow_Reach_l1_eq : flow_Reach_l1 = .seq (.ops [flow_Reach_r10]) (.seq (.cond (.t 39) (.skip) (.exit 2)) (.seq (.block 3 (.seq (.ops [flow_Reach_r11]) (.seq (.ops [flow_Reach_r12]) (.cond (.t 46) (.seq (.ops [flow_Reach_r13]) (.ops [flow_Reach_r14])) (.skip))))) (.ops [flow_Reach_r15]))) := rfl
def flow_Reach_l0 : AC := .seq (.seq (.ops [flow_Reach_r6]) (.cond (.t 22) (.skip) (.exit 0))) (.block 1 (.seq (.ops [flow_Reach_r7]) (.seq (.ops [flow_Reach_r8]) (.seq (.ops [flow_Reach_r9]) (.block 2 (.loop flow_Reach_l1))))))
theorem flow_Reach_l0_eq : flow_Reach_l0 = .seq (.seq (.ops [flow_Reach_r6]) (.cond (.t 22) (.skip) (.exit 0))) (.block 1 (.seq (.ops [flow_Reach_r7]) (.seq (.ops [flow_Reach_r8]) (.seq (.ops [flow_Reach_r9]) (.block 2 (.loop flow_Reach_l1)))))) := rfl
@[go_sem] def flow_Reach_r16 : List AI := [
  ⟨(some 55), none, .mov (.t 3)⟩,
  ⟨(some 2), none, .mov (.t 55)⟩]
@[go_sem] def flow_Reach_c : AC := .seq (.ops [flow_Reach_r0]) (.seq (.ops [flow_Reach_r1]) (.seq (.ops [flow_Reach_r2]) (.seq (.seq (.ops [flow_Reach_r3]) (.cond (.t 14) (.seq (.ops [flow_Reach_r4]) (.ops [flow_Reach_r5])) (.skip))) (.seq (.block 0 (.loop flow_Reach_l0)) (.seq (.ops [flow_Reach_r16]) (.ret))))))
theorem flow_Reach_ok : compF Tryd.prog 12 = some (56, flow_Reach_c, [.t 2]) := by kernel_rfl

@[go_sem] def flow_Loops_r0 : List AI := [
  ⟨(some 1), none, .box 130001 11 (.t 0)⟩,
  ⟨(some 2), none, .mov (.c .nils)⟩]
@[go_sem] def flow_Loops_r1 : List AI := [
  ⟨(some 3), none, .mov (.c .nils)⟩]
@[go_sem] def flow_Loops_r2 : List AI := [
  ⟨(some 8), none, .faddr 5 (.t 1)⟩,
  ⟨(some 9), none, .load 1 false (.t 8)⟩,
  ⟨(some 10), none, .len 0 (.t 9)⟩,
  ⟨(some 11), none, .mov (.c (.int .i64 0))⟩]
@[go_sem] def flow_Loops_r3 : List AI := [
  ⟨(some 12), none, .bin .lss (.t 11) (.t 10)⟩]
@[go_sem] def flow_Loops_r4 : List AI := [
  ⟨(some 13), none, .mov (.t 11)⟩,
  ⟨(some 14), none, .iaddr 5 (.t 9) (.t 11)⟩,
  ⟨(some 15), none, .load 5 true (.t 14)⟩,
  ⟨(some 5), none, .box 130005 5 (.c (.agg [(.int .i64 0), (.int .i64 0), (.int .i64 0), (.int .i64 0), (.int .i64 0)]))⟩,
  ⟨(some 4), none, .mov (.t 13)⟩,
  ⟨none, none, .store 5 (.t 5) (.t 15)⟩]
@[go_sem] def flow_Loops_r5 : List AI := [
  ⟨(some 17), none, .load 5 true (.t 5)⟩,
  ⟨(some 18), none, .call 27 [(.t 17)]⟩,
  ⟨(some 16), none, .mov (.t 18)⟩,
  ⟨(some 19), none, .ext 0 (.t 16)⟩,
  ⟨(some 20), none, .ext 1 (.t 16)⟩,
  ⟨(some 6), none, .mov (.t 19)⟩,
  ⟨(some 7), none, .mov (.t 20)⟩]
@[go_sem] def flow_Loops_r6 : List AI := [
  ⟨(some 21), none, .mov (.t 7)⟩,
  ⟨(some 22), none, .mov (.t 21)⟩,
  ⟨(some 23), (some (22, true)), .mov (.t 6)⟩,
  ⟨(some 24), (some (22, true)), .mov (.t 4)⟩,
  ⟨(some 25), (some (22, true)), .bin .leq (.t 23) (.t 24)⟩,
  ⟨(some 26), none, .pick (.t 22) (.t 25) (.c (.bool false))⟩]
@[go_sem] def flow_Loops_r7 : List AI := [
  ⟨(some 27), none, .mov (.t 3)⟩,
  ⟨(some 28), none, .mov (.t 6)⟩,
  ⟨(some 29), none, .mkisl 1 [(.t 28)]⟩,
  ⟨(some 30), none, .app 130030 1 (.t 27) (.t 29)⟩,
  ⟨(some 3), none, .mov (.t 30)⟩]
@[go_sem] def flow_Loops_r8 : List AI := [
  ⟨(some 31), none, .bin .add (.t 11) (.c (.int .i64 1))⟩,
  ⟨(some 11), none, .mov (.t 31)⟩]
def flow_Loops_l0 : AC := .seq (.ops [flow_Loops_r3]) (.seq (.cond (.t 12) (.skip) (.exit 0)) (.seq (.block 1 (.seq (.ops [flow_Loops_r4]) (.seq (.ops [flow_Loops_r5]) (.seq (.ops [flow_Loops_r6]) (.cond (.t 26) (.ops [flow_Loops_r7]) (.skip)))))) (.ops [flow_Loops_r8])))
theorem flow_Loops_l0_eq : flow_Loops_l0 = .seq (.ops [flow_Loops_r3]) (.seq (.cond (.t 12) (.skip) (.exit 0)) (.seq (.block 1 (.seq (.ops [flow_Loops_r4]) (.seq (.ops [flow_Loops_r5]) (.seq (.ops [flow_Loops_r6]) (.cond (.t 26) (.ops [flow_Loops_r7]) (.skip)))))) (.ops [flow_Loops_r8]))) := rfl
@[go_sem] def flow_Loops_r9 : List AI := [
  ⟨(some 32), none, .mov (.t 3)⟩,
  ⟨(some 33), none, .call 28 [(.t 32)]⟩]
@[go_sem] def flow_Loops_r10 : List AI := [
  ⟨(some 34), none, .mov (.t 3)⟩,
  ⟨(some 35), none, .call 29 [(.t 34)]⟩,
  ⟨(some 2), none, .mov (.t 35)⟩]
@[go_sem] def flow_Loops_c : AC := .seq (.ops [flow_Loops_r0]) (.seq (.ops [flow_Loops_r1]) (.seq (.seq (.ops [flow_Loops_r2]) (.block 0 (.loop flow_Loops_l0))) (.seq (.ops [flow_Loops_r9]) (.seq (.ops [flow_Loops_r10]) (.ret)))))
theorem flow_Loops_ok : compF Tryd.prog 13 = some (36, flow_Loops_c, [.t 2]) := by kernel_rfl

@[go_sem] def opcode_Reads_r0 : List AI := [
  ⟨(some 1), none, .box 140001 5 (.t 0)⟩,
  ⟨(some 2), none, .mov (.c .nils)⟩,
  ⟨(some 3), none, .mov (.c (.int .i64 0))⟩]
@[go_sem] def opcode_Reads_r1 : List AI := [
  ⟨(some 6), none, .load 5 true (.t 1)⟩,
  ⟨(some 7), none, .call 30 [(.t 6)]⟩,
  ⟨(some 8), none, .bin .neq (.t 7) (.c (.int .i64 0))⟩]
@[go_sem] def opcode_Reads_r2 : List AI := [
  ⟨(some 2), none, .mov (.c .nils)⟩,
  ⟨(some 3), none, .mov (.c (.int .i64 (-1)))⟩]
@[go_sem] def opcode_Reads_r3 : List AI := [
  ⟨(some 9), none, .faddr 0 (.t 1)⟩,
  ⟨(some 10), none, .load 1 false (.t 9)⟩]
@[go_sem] def opcode_Reads_r4 : List AI := [
  ⟨(some 12), none, .bin .eql (.t 10) (.c (.int .i64 1))⟩,
  ⟨(some 11), none, .mov (.t 12)⟩]
@[go_sem] def opcode_Reads_r5 : List AI := [
  ⟨(some 13), none, .bin .eql (.t 10) (.c (.int .i64 6))⟩,
  ⟨(some 11), none, .mov (.t 13)⟩]
@[go_sem] def opcode_Reads_r6 : List AI := [
  ⟨(some 14), none, .bin .eql (.t 10) (.c (.int .i64 8))⟩,
  ⟨(some 11), none, .mov (.t 14)⟩]
@[go_sem] def opcode_Reads_r7 : List AI := [
  ⟨(some 15), none, .bin .eql (.t 10) (.c (.int .i64 11))⟩,
  ⟨(some 11), none, .mov (.t 15)⟩]
@[go_sem] def opcode_Reads_r8 : List AI := [
  ⟨(some 16), none, .bin .eql (.t 10) (.c (.int .i64 12))⟩,
  ⟨(some 11), none, .mov (.t 16)⟩]
@[go_sem] def opcode_Reads_r9 : List AI := [
  ⟨(some 17), none, .faddr 2 (.t 1)⟩,
  ⟨(some 18), none, .load 1 false (.t 17)⟩,
  ⟨(some 19), none, .mkrow 140019 1 [(.t 18)]⟩,
  ⟨(some 2), none, .mov (.t 19)⟩,
  ⟨(some 3), none, .mov (.c (.int .i64 (-1)))⟩]
@[go_sem] def opcode_Reads_r10 : List AI := [
  ⟨(some 21), none, .bin .eql (.t 10) (.c (.int .i64 9))⟩,
  ⟨(some 20), none, .mov (.t 21)⟩]
@[go_sem] def opcode_Reads_r11 : List AI := [
  ⟨(some 22), none, .bin .eql (.t 10) (.c (.int .i64 13))⟩,
  ⟨(some 20), none, .mov (.t 22)⟩]
@[go_sem] def opcode_Reads_r12 : List AI := [
  ⟨(some 23), none, .faddr 2 (.t 1)⟩,
  ⟨(some 24), none, .load 1 false (.t 23)⟩,
  ⟨(some 25), none, .faddr 3 (.t 1)⟩,
  ⟨(some 26), none, .load 1 false (.t 25)⟩,
  ⟨(some 27), none, .mkrow 140027 1 [(.t 24), (.t 26)]⟩,
  ⟨(some 28), none, .call 31 [(.t 27)]⟩,
  ⟨(some 2), none, .mov (.t 28)⟩,
  ⟨(some 3), none, .mov (.c (.int .i64 (-1)))⟩]
@[go_sem] def opcode_Reads_r13 : List AI := [
  ⟨(some 30), none, .bin .eql (.t 10) (.c (.int .i64 10))⟩,
  ⟨(some 29), none, .mov (.t 30)⟩]
@[go_sem] def opcode_Reads_r14 : List AI := [
  ⟨(some 31), none, .faddr 1 (.t 1)⟩,
  ⟨(some 32), none, .load 1 false (.t 31)⟩,
  ⟨(some 33), none, .faddr 2 (.t 1)⟩,
  ⟨(some 34), none, .load 1 false (.t 33)⟩,
  ⟨(some 35), none, .faddr 3 (.t 1)⟩,
  ⟨(some 36), none, .load 1 false (.t 35)⟩,
  ⟨(some 37), none, .mkrow 140037 1 [(.t 32), (.t 34), (.t 36)]⟩,
  ⟨(some 38), none, .call 31 [(.t 37)]⟩,
  ⟨(some 2), none, .mov (.t 38)⟩,
  ⟨(some 3), none, .mov (.c (.int .i64 (-1)))⟩]
@[go_sem] def opcode_Reads_r15 : List AI := [
  ⟨(some 40), none, .bin .eql (.t 10) (.c (.int .i64 15))⟩,
  ⟨(some 39), none, .mov (.t 40)⟩]
@[go_sem] def opcode_Reads_r16 : List AI := [
  ⟨(some 41), none, .bin .eql (.t 10) (.c (.int .i64 28))⟩,
  ⟨(some 39), none, .mov (.t 41)⟩]
@[go_sem] def opcode_Reads_r17 : List AI := [
  ⟨(some 42), none, .faddr 1 (.t 1)⟩,
  ⟨(some 43), none, .load 1 false (.t 42)⟩,
  ⟨(some 44), none, .mkrow 140044 1 [(.t 43)]⟩,
  ⟨(some 2), none, .mov (.t 44)⟩,
  ⟨(some 3), none, .mov (.c (.int .i64 (-1)))⟩]
@[go_sem] def opcode_Reads_r18 : List AI := [
  ⟨(some 46), none, .bin .eql (.t 10) (.c (.int .i64 16))⟩,
  ⟨(some 45), none, .mov (.t 46)⟩]
@[go_sem] def opcode_Reads_r19 : List AI := [
  ⟨(some 47), none, .bin .eql (.t 10) (.c (.int .i64 17))⟩,
  ⟨(some 45), none, .mov (.t 47)⟩]
@[go_sem] def opcode_Reads_r20 : List AI := [
  ⟨(some 48), none, .bin .eql (.t 10) (.c (.int .i64 21))⟩,
  ⟨(some 45), none, .mov (.t 48)⟩]
@[go_sem] def opcode_Reads_r21 : List AI := [
  ⟨(some 50), none, .faddr 1 (.t 1)⟩,
  ⟨(some 51), none, .load 1 false (.t 50)⟩,
  ⟨(some 52), none, .bin .add (.t 51) (.c (.int .i64 1))⟩,
  ⟨(some 53), none, .faddr 2 (.t 1)⟩,
  ⟨(some 54), none, .load 1 false (.t 53)⟩,
  ⟨(some 55), none, .call 32 [(.t 52), (.t 54)]⟩,
  ⟨(some 49), none, .mov (.t 55)⟩,
  ⟨(some 56), none, .ext 0 (.t 49)⟩,
  ⟨(some 57), none, .ext 1 (.t 49)⟩,
  ⟨(some 4), none, .mov (.t 56)⟩,
  ⟨(some 5), none, .mov (.t 57)⟩]
@[go_sem] def opcode_Reads_r22 : List AI := [
  ⟨(some 58), none, .faddr 1 (.t 1)⟩,
  ⟨(some 59), none, .load 1 false (.t 58)⟩,
  ⟨(some 60), none, .mkrow 140060 1 [(.t 59)]⟩,
  ⟨(some 61), none, .mov (.t 4)⟩,
  ⟨(some 62), none, .app 140062 1 (.t 60) (.t 61)⟩,
  ⟨(some 63), none, .mov (.t 5)⟩,
  ⟨(some 2), none, .mov (.t 62)⟩,
  ⟨(some 3), none, .mov (.t 63)⟩]
@[go_sem] def opcode_Reads_r23 : List AI := [
  ⟨(some 65), none, .bin .eql (.t 10) (.c (.int .i64 18))⟩,
  ⟨(some 64), none, .mov (.t 65)⟩]
@[go_sem] def opcode_Reads_r24 : List AI := [
  ⟨(some 66), none, .faddr 1 (.t 1)⟩,
  ⟨(some 67), none, .load 1 false (.t 66)⟩,
  ⟨(some 68), none, .faddr 2 (.t 1)⟩,
  ⟨(some 69), none, .load 1 false (.t 68)⟩,
  ⟨(some 70), none, .call 32 [(.t 67), (.t 69)]⟩,
  ⟨(some 71), none, .ext 0 (.t 70)⟩,
  ⟨(some 72), none, .ext 1 (.t 70)⟩,
  ⟨(some 2), none, .mov (.t 71)⟩,
  ⟨(some 3), none, .mov (.t 72)⟩]
@[go_sem] def opcode_Reads_r25 : List AI := [
  ⟨(some 74), none, .bin .eql (.t 10) (.c (.int .i64 23))⟩,
  ⟨(some 73), none, .mov (.t 74)⟩]
@[go_sem] def opcode_Reads_r26 : List AI := [
  ⟨(some 75), none, .bin .eql (.t 10) (.c (.int .i64 24))⟩,
  ⟨(some 73), none, .mov (.t 75)⟩]
@[go_sem] def opcode_Reads_r27 : List AI := [
  ⟨(some 76), none, .bin .eql (.t 10) (.c (.int .i64 25))⟩,
  ⟨(some 73), none, .mov (.t 76)⟩]
@[go_sem] def opcode_Reads_r28 : List AI := [
  ⟨(some 77), none, .faddr 1 (.t 1)⟩,
  ⟨(some 78), none, .load 1 false (.t 77)⟩,
  ⟨(some 79), none, .call 32 [(.t 78), (.c (.int .i64 3))]⟩,
  ⟨(some 80), none, .ext 0 (.t 79)⟩,
  ⟨(some 81), none, .ext 1 (.t 79)⟩,
  ⟨(some 2), none, .mov (.t 80)⟩,
  ⟨(some 3), none, .mov (.t 81)⟩]
@[go_sem] def opcode_Reads_r29 : List AI := [
  ⟨(some 83), none, .bin .eql (.t 10) (.c (.int .i64 26))⟩,
  ⟨(some 82), none, .mov (.t 83)⟩]
@[go_sem] def opcode_Reads_r30 : List AI := [
  ⟨(some 84), none, .faddr 1 (.t 1)⟩,
  ⟨(some 85), none, .load 1 false (.t 84)⟩,
  ⟨(some 86), none, .bin .add (.t 85) (.c (.int .i64 3))⟩,
  ⟨(some 87), none, .mkrow 140087 1 [(.t 86)]⟩,
  ⟨(some 2), none, .mov (.t 87)⟩,
  ⟨(some 3), none, .mov (.c (.int .i64 (-1)))⟩]
@[go_sem] def opcode_Reads_r31 : List AI := [
  ⟨(some 2), none, .mov (.c .nils)⟩,
  ⟨(some 3), none, .mov (.c (.int .i64 (-1)))⟩]
@[go_sem] def opcode_Reads_c : AC := .seq (.ops [opcode_Reads_r0]) (.seq (.seq (.ops [opcode_Reads_r1]) (.cond (.t 8) (.seq (.ops [opcode_Reads_r2]) (.ret)) (.skip))) (.seq (.seq (.ops [opcode_Reads_r3]) (.block 0 (.seq (.seq (.ops [opcode_Reads_r4]) (.cond (.t 11) (.skip) (.seq (.ops [opcode_Reads_r5]) (.cond (.t 11) (.skip) (.seq (.ops [opcode_Reads_r6]) (.cond (.t 11) (.skip) (.seq (.ops [opcode_Reads_r7]) (.cond (.t 11) (.skip) (.ops [opcode_Reads_r8]))))))))) (.cond (.t 11) (.seq (.ops [opcode_Reads_r9]) (.ret)) (.seq (.seq (.ops [opcode_Reads_r10]) (.cond (.t 20) (.skip) (.ops [opcode_Reads_r11]))) (.cond (.t 20) (.seq (.ops [opcode_Reads_r12]) (.ret)) (.seq (.ops [opcode_Reads_r13]) (.cond (.t 29) (.seq (.ops [opcode_Reads_r14]) (.ret)) (.seq (.seq (.ops [opcode_Reads_r15]) (.cond (.t 39) (.skip) (.ops [opcode_Reads_r16]))) (.cond (.t 39) (.seq (.ops [opcode_Reads_r17]) (.ret)) (.seq (.seq (.ops [opcode_Reads_r18]) (.cond (.t 45) (.skip) (.seq (.ops [opcode_Reads_r19]) (.cond (.t 45) (.skip) (.ops [opcode_Reads_r20]))))) (.cond (.t 45) (.seq (.ops [opcode_Reads_r21]) (.seq (.ops [opcode_Reads_r22]) (.ret))) (.seq (.ops [opcode_Reads_r23]) (.cond (.t 64) (.seq (.ops [opcode_Reads_r24]) (.ret)) (.seq (.seq (.ops [opcode_Reads_r25]) (.cond (.t 73) (.skip) (.seq (.ops [opcode_Reads_r26]) (.cond (.t 73) (.skip) (.ops [opcode_Reads_r27]))))) (.cond (.t 73) (.seq (.ops [opcode_Reads_r28]) (.ret)) (.seq (.ops [opcode_Reads_r29]) (.cond (.t 82) (.seq (.ops [opcode_Reads_r30]) (.ret)) (.skip))))))))))))))))))) (.seq (.ops [opcode_Reads_r31]) (.ret))))
theorem opcode_Reads_ok : compF Tryd.prog 14 = some (88, opcode_Reads_c, [.t 2, .t 3]) := by kernel_rfl

@[go_sem] def scriptinglaw35_has_r0 : List AI := [
  ⟨(some 4), none, .mov (.c (.bool false))⟩]
@[go_sem] def scriptinglaw35_has_r1 : List AI := [
  ⟨(some 6), none, .mov (.t 0)⟩,
  ⟨(some 7), none, .len 0 (.t 6)⟩,
  ⟨(some 8), none, .mov (.c (.int .i64 0))⟩]
@[go_sem] def scriptinglaw35_has_r2 : List AI := [
  ⟨(some 9), none, .bin .lss (.t 8) (.t 7)⟩]
@[go_sem] def scriptinglaw35_has_r3 : List AI := [
  ⟨(some 10), none, .mov (.t 8)⟩,
  ⟨(some 5), none, .mov (.t 10)⟩]
@[go_sem] def scriptinglaw35_has_r4 : List AI := [
  ⟨(some 11), none, .mov (.t 0)⟩,
  ⟨(some 12), none, .mov (.t 5)⟩,
  ⟨(some 13), none, .iaddr 1 (.t 11) (.t 12)⟩,
  ⟨(some 14), none, .load 1 false (.t 13)⟩,
  ⟨(some 15), none, .mov (.t 1)⟩,
  ⟨(some 16), none, .bin .eql (.t 14) (.t 15)⟩]
@[go_sem] def scriptinglaw35_has_r5 : List AI := [
  ⟨(some 4), none, .mov (.c (.bool true))⟩]
@[go_sem] def scriptinglaw35_has_r6 : List AI := [
  ⟨(some 17), none, .bin .add (.t 8) (.c (.int .i64 1))⟩,
  ⟨(some 8), none, .mov (.t 17)⟩]
def scriptinglaw35_has_l0 : AC := .seq (.ops [scriptinglaw35_has_r2]) (.seq (.cond (.t 9) (.skip) (.exit 0)) (.seq (.block 1 (.seq (.ops [scriptinglaw35_has_r3]) (.seq (.ops [scriptinglaw35_has_r4]) (.cond (.t 16) (.seq (.ops [scriptinglaw35_has_r5]) (.ret)) (.skip))))) (.ops [scriptinglaw35_has_r6])))
theorem scriptinglaw35_has_l0_eq : scriptinglaw35_has_l0 = .seq (.ops [scriptinglaw35_has_r2]) (.seq (.cond (.t 9) (.skip) (.exit 0)) (.seq (.block 1 (.seq (.ops [scriptinglaw35_has_r3]) (.seq (.ops [scriptinglaw35_has_r4]) (.cond (.t 16) (.seq (.ops [scriptinglaw35_has_r5]) (.ret)) (.skip))))) (.ops [scriptinglaw35_has_r6]))) := rfl
@[go_sem] def scriptinglaw35_has_r7 : List AI := [
  ⟨(some 4), none, .mov (.c (.bool false))⟩]
@[go_sem] def scriptinglaw35_has_c : AC := .seq (.ops [scriptinglaw35_has_r0]) (.seq (.seq (.ops [scriptinglaw35_has_r1]) (.block 0 (.loop scriptinglaw35_has_l0))) (.seq (.ops [scriptinglaw35_has_r7]) (.ret)))
theorem scriptinglaw35_has_ok : compF Tryd.prog 15 = some (18, scriptinglaw35_has_c, [.t 4]) := by kernel_rfl

@[go_sem] def flow_Next_r0 : List AI := [
  ⟨(some 2), none, .box 160002 11 (.t 0)⟩,
  ⟨(some 4), none, .mov (.c .nils)⟩]
@[go_sem] def flow_Next_r1 : List AI := [
  ⟨(some 8), none, .mov (.t 1)⟩,
  ⟨(some 9), none, .bin .lss (.t 8) (.c (.int .i64 0))⟩,
  ⟨(some 10), none, .mov (.t 9)⟩,
  ⟨(some 11), (some (10, false)), .mov (.t 1)⟩,
  ⟨(some 12), (some (10, false)), .faddr 5 (.t 2)⟩,
  ⟨(some 13), (some (10, false)), .load 1 false (.t 12)⟩,
  ⟨(some 14), (some (10, false)), .len 0 (.t 13)⟩,
  ⟨(some 15), (some (10, false)), .bin .geq (.t 11) (.t 14)⟩,
  ⟨(some 16), none, .pick (.t 10) (.c (.bool true)) (.t 15)⟩]
@[go_sem] def flow_Next_r2 : List AI := [
  ⟨(some 4), none, .mov (.c .nils)⟩]
@[go_sem] def flow_Next_r3 : List AI := [
  ⟨(some 5), none, .mov (.c .nils)⟩]
@[go_sem] def flow_Next_r4 : List AI := [
  ⟨(some 18), none, .faddr 5 (.t 2)⟩,
  ⟨(some 19), none, .load 1 false (.t 18)⟩,
  ⟨(some 20), none, .mov (.t 1)⟩,
  ⟨(some 21), none, .iaddr 5 (.t 19) (.t 20)⟩,
  ⟨(some 22), none, .load 5 true (.t 21)⟩,
  ⟨(some 23), none, .call 27 [(.t 22)]⟩,
  ⟨(some 17), none, .mov (.t 23)⟩,
  ⟨(some 24), none, .ext 0 (.t 17)⟩,
  ⟨(some 25), none, .ext 1 (.t 17)⟩,
  ⟨(some 6), none, .mov (.t 24)⟩,
  ⟨(some 7), none, .mov (.t 25)⟩]
@[go_sem] def flow_Next_r5 : List AI := [
  ⟨(some 26), none, .mov (.t 7)⟩,
  ⟨(some 27), none, .mov (.t 26)⟩,
  ⟨(some 28), (some (27, true)), .mov (.t 6)⟩,
  ⟨(some 29), (some (27, true)), .bin .geq (.t 28) (.c (.int .i64 0))⟩,
  ⟨(some 30), none, .pick (.t 27) (.t 29) (.c (.bool false))⟩,
  ⟨(some 31), none, .mov (.t 30)⟩,
  ⟨(some 32), (some (31, true)), .mov (.t 6)⟩,
  ⟨(some 33), (some (31, true)), .faddr 5 (.t 2)⟩,
  ⟨(some 34), (some (31, true)), .load 1 false (.t 33)⟩,
  ⟨(some 35), (some (31, true)), .len 0 (.t 34)⟩,
  ⟨(some 36), (some (31, true)), .bin .lss (.t 32) (.t 35)⟩,
  ⟨(some 37), none, .pick (.t 31) (.t 36) (.c (.bool false))⟩]
@[go_sem] def flow_Next_r6 : List AI := [
  ⟨(some 38), none, .mov (.t 5)⟩,
  ⟨(some 39), none, .mov (.t 6)⟩,
  ⟨(some 40), none, .mkisl 1 [(.t 39)]⟩,
  ⟨(some 41), none, .app 160041 1 (.t 38) (.t 40)⟩,
  ⟨(some 5), none, .mov (.t 41)⟩]
@[go_sem] def flow_Next_r7 : List AI := [
  ⟨(some 42), none, .faddr 5 (.t 2)⟩,
  ⟨(some 43), none, .load 1 false (.t 42)⟩,
  ⟨(some 44), none, .mov (.t 1)⟩,
  ⟨(some 45), none, .iaddr 5 (.t 43) (.t 44)⟩,
  ⟨(some 46), none, .load 5 true (.t 45)⟩,
  ⟨(some 47), none, .call 33 [(.t 46)]⟩,
  ⟨(some 48), none, .mov (.t 47)⟩,
  ⟨(some 49), (some (48, true)), .mov (.t 1)⟩,
  ⟨(some 50), (some (48, true)), .bin .add (.t 49) (.c (.int .i64 1))⟩,
  ⟨(some 51), (some (48, true)), .faddr 5 (.t 2)⟩,
  ⟨(some 52), (some (48, true)), .load 1 false (.t 51)⟩,
  ⟨(some 53), (some (48, true)), .len 0 (.t 52)⟩,
  ⟨(some 54), (some (48, true)), .bin .lss (.t 50) (.t 53)⟩,
  ⟨(some 55), none, .pick (.t 48) (.t 54) (.c (.bool false))⟩]
@[go_sem] def flow_Next_r8 : List AI := [
  ⟨(some 56), none, .mov (.t 5)⟩,
  ⟨(some 57), none, .mov (.t 1)⟩,
  ⟨(some 58), none, .bin .add (.t 57) (.c (.int .i64 1))⟩,
  ⟨(some 59), none, .mkisl 1 [(.t 58)]⟩,
  ⟨(some 60), none, .app 160060 1 (.t 56) (.t 59)⟩,
  ⟨(some 5), none, .mov (.t 60)⟩]
@[go_sem] def flow_Next_r9 : List AI := [
  ⟨(some 61), none, .mov (.t 5)⟩,
  ⟨(some 62), none, .call 28 [(.t 61)]⟩]
@[go_sem] def flow_Next_r10 : List AI := [
  ⟨(some 63), none, .mov (.t 5)⟩,
  ⟨(some 64), none, .call 29 [(.t 63)]⟩,
  ⟨(some 4), none, .mov (.t 64)⟩]
@[go_sem] def flow_Next_c : AC := .seq (.ops [flow_Next_r0]) (.seq (.seq (.ops [flow_Next_r1]) (.cond (.t 16) (.seq (.ops [flow_Next_r2]) (.ret)) (.skip))) (.seq (.ops [flow_Next_r3]) (.seq (.seq (.ops [flow_Next_r4]) (.seq (.ops [flow_Next_r5]) (.cond (.t 37) (.ops [flow_Next_r6]) (.skip)))) (.seq (.seq (.ops [flow_Next_r7]) (.cond (.t 55) (.ops [flow_Next_r8]) (.skip))) (.seq (.ops [flow_Next_r9]) (.seq (.ops [flow_Next_r10]) (.ret)))))))
theorem flow_Next_ok : compF Tryd.prog 16 = some (65, flow_Next_c, [.t 4]) := by kernel_rfl

@[go_sem] def scriptinglaw35_written_r0 : List AI := [
  ⟨(some 4), none, .box 170004 11 (.t 0)⟩,
  ⟨(some 8), none, .mov (.c (.bool false))⟩]
@[go_sem] def scriptinglaw35_written_r1 : List AI := [
  ⟨(some 12), none, .faddr 5 (.t 4)⟩,
  ⟨(some 13), none, .load 1 false (.t 12)⟩,
  ⟨(some 14), none, .mov (.t 1)⟩,
  ⟨(some 15), none, .iaddr 5 (.t 13) (.t 14)⟩,
  ⟨(some 16), none, .load 5 true (.t 15)⟩,
  ⟨(some 9), none, .box 170009 5 (.c (.agg [(.int .i64 0), (.int .i64 0), (.int .i64 0), (.int .i64 0), (.int .i64 0)]))⟩,
  ⟨none, none, .store 5 (.t 9) (.t 16)⟩]
@[go_sem] def scriptinglaw35_written_r2 : List AI := [
  ⟨(some 17), none, .faddr 0 (.t 9)⟩,
  ⟨(some 18), none, .load 1 false (.t 17)⟩,
  ⟨(some 19), none, .bin .eql (.t 18) (.c (.int .i64 24))⟩,
  ⟨(some 20), none, .mov (.t 19)⟩,
  ⟨(some 21), (some (20, false)), .faddr 0 (.t 9)⟩,
  ⟨(some 22), (some (20, false)), .load 1 false (.t 21)⟩,
  ⟨(some 23), (some (20, false)), .bin .eql (.t 22) (.c (.int .i64 26))⟩,
  ⟨(some 24), none, .pick (.t 20) (.c (.bool true)) (.t 23)⟩,
  ⟨(some 25), none, .mov (.t 24)⟩,
  ⟨(some 26), (some (25, true)), .mov (.t 2)⟩,
  ⟨(some 27), (some (25, true)), .faddr 2 (.t 9)⟩,
  ⟨(some 28), (some (25, true)), .load 1 false (.t 27)⟩,
  ⟨(some 29), (some (25, true)), .bin .neq (.t 26) (.t 28)⟩,
  ⟨(some 30), (some (25, true)), .mov (.t 29)⟩,
  ⟨(some 31), (some (30, false)), .mov (.t 2)⟩,
  ⟨(some 32), (some (30, false)), .mov (.t 1)⟩,
  ⟨(some 33), (some (30, false)), .bin .add (.t 32) (.c (.int .i64 1))⟩,
  ⟨(some 34), (some (30, false)), .bin .eql (.t 31) (.t 33)⟩,
  ⟨(some 35), (some (25, true)), .pick (.t 30) (.c (.bool true)) (.t 34)⟩,
  ⟨(some 36), none, .pick (.t 25) (.t 35) (.c (.bool false))⟩,
  ⟨(some 37), none, .mov (.t 36)⟩,
  ⟨(some 38), (some (37, false)), .faddr 0 (.t 9)⟩,
  ⟨(some 39), (some (37, false)), .load 1 false (.t 38)⟩,
  ⟨(some 40), (some (37, false)), .bin .eql (.t 39) (.c (.int .i64 23))⟩,
  ⟨(some 41), (some (37, false)), .mov (.t 40)⟩,
  ⟨(some 42), (some (41, true)), .mov (.t 2)⟩,
  ⟨(some 43), (some (41, true)), .faddr 2 (.t 9)⟩,
  ⟨(some 44), (some (41, true)), .load 1 false (.t 43)⟩,
  ⟨(some 45), (some (41, true)), .bin .eql (.t 42) (.t 44)⟩,
  ⟨(some 46), (some (37, false)), .pick (.t 41) (.t 45) (.c (.bool false))⟩,
  ⟨(some 47), none, .pick (.t 37) (.c (.bool true)) (.t 46)⟩]
@[go_sem] def scriptinglaw35_written_r3 : List AI := [
  ⟨(some 8), none, .mov (.c (.bool false))⟩]
@[go_sem] def scriptinglaw35_written_r4 : List AI := [
  ⟨(some 49), none, .load 5 true (.t 9)⟩,
  ⟨(some 50), none, .call 34 [(.t 49)]⟩,
  ⟨(some 48), none, .mov (.t 50)⟩,
  ⟨(some 51), none, .ext 0 (.t 48)⟩,
  ⟨(some 52), none, .ext 1 (.t 48)⟩,
  ⟨(some 10), none, .mov (.t 51)⟩,
  ⟨(some 11), none, .mov (.t 52)⟩]
@[go_sem] def scriptinglaw35_written_r5 : List AI := [
  ⟨(some 53), none, .mov (.t 10)⟩,
  ⟨(some 54), none, .mov (.t 3)⟩,
  ⟨(some 55), none, .call 15 [(.t 53), (.t 54)]⟩,
  ⟨(some 56), none, .mov (.t 55)⟩,
  ⟨(some 57), (some (56, false)), .mov (.t 11)⟩,
  ⟨(some 58), (some (56, false)), .bin .geq (.t 57) (.c (.int .i64 0))⟩,
  ⟨(some 59), (some (56, false)), .mov (.t 58)⟩,
  ⟨(some 60), (some (59, true)), .mov (.t 3)⟩,
  ⟨(some 61), (some (59, true)), .mov (.t 11)⟩,
  ⟨(some 62), (some (59, true)), .bin .geq (.t 60) (.t 61)⟩,
  ⟨(some 63), (some (56, false)), .pick (.t 59) (.t 62) (.c (.bool false))⟩,
  ⟨(some 64), none, .pick (.t 56) (.c (.bool true)) (.t 63)⟩,
  ⟨(some 8), none, .mov (.t 64)⟩]
@[go_sem] def scriptinglaw35_written_c : AC := .seq (.ops [scriptinglaw35_written_r0]) (.seq (.ops [scriptinglaw35_written_r1]) (.seq (.seq (.ops [scriptinglaw35_written_r2]) (.cond (.t 47) (.seq (.ops [scriptinglaw35_written_r3]) (.ret)) (.skip))) (.seq (.ops [scriptinglaw35_written_r4]) (.seq (.ops [scriptinglaw35_written_r5]) (.ret)))))
theorem scriptinglaw35_written_ok : compF Tryd.prog 17 = some (65, scriptinglaw35_written_c, [.t 8]) := by kernel_rfl

@[go_sem] def scriptinglaw35_captured_r0 : List AI := [
  ⟨(some 3), none, .box 180003 11 (.t 0)⟩,
  ⟨(some 4), none, .box 180004 5 (.t 1)⟩,
  ⟨(some 6), none, .mov (.c (.bool false))⟩]
@[go_sem] def scriptinglaw35_captured_r1 : List AI := [
  ⟨(some 7), none, .faddr 0 (.t 4)⟩,
  ⟨(some 8), none, .load 1 false (.t 7)⟩,
  ⟨(some 9), none, .bin .neq (.t 8) (.c (.int .i64 22))⟩,
  ⟨(some 10), none, .mov (.t 9)⟩,
  ⟨(some 11), (some (10, false)), .load 5 true (.t 4)⟩,
  ⟨(some 12), (some (10, false)), .call 35 [(.t 11)]⟩,
  ⟨(some 13), (some (10, false)), .bin .neq (.t 12) (.c (.int .i64 0))⟩,
  ⟨(some 14), none, .pick (.t 10) (.c (.bool true)) (.t 13)⟩,
  ⟨(some 15), none, .mov (.t 14)⟩,
  ⟨(some 16), (some (15, false)), .faddr 2 (.t 4)⟩,
  ⟨(some 17), (some (15, false)), .load 1 false (.t 16)⟩,
  ⟨(some 18), (some (15, false)), .faddr 8 (.t 3)⟩,
  ⟨(some 19), (some (15, false)), .load 1 false (.t 18)⟩,
  ⟨(some 20), (some (15, false)), .len 0 (.t 19)⟩,
  ⟨(some 21), (some (15, false)), .bin .geq (.t 17) (.t 20)⟩,
  ⟨(some 22), none, .pick (.t 15) (.c (.bool true)) (.t 21)⟩]
@[go_sem] def scriptinglaw35_captured_r2 : List AI := [
  ⟨(some 23), none, .faddr 0 (.t 4)⟩,
  ⟨(some 24), none, .load 1 false (.t 23)⟩,
  ⟨(some 25), none, .bin .eql (.t 24) (.c (.int .i64 22))⟩,
  ⟨(some 26), none, .mov (.t 25)⟩,
  ⟨(some 27), (some (26, true)), .faddr 2 (.t 4)⟩,
  ⟨(some 28), (some (26, true)), .load 1 false (.t 27)⟩,
  ⟨(some 29), (some (26, true)), .bin .geq (.t 28) (.c (.int .i64 0))⟩,
  ⟨(some 30), none, .pick (.t 26) (.t 29) (.c (.bool false))⟩,
  ⟨(some 31), none, .mov (.t 30)⟩,
  ⟨(some 32), (some (31, true)), .faddr 2 (.t 4)⟩,
  ⟨(some 33), (some (31, true)), .load 1 false (.t 32)⟩,
  ⟨(some 34), (some (31, true)), .faddr 8 (.t 3)⟩,
  ⟨(some 35), (some (31, true)), .load 1 false (.t 34)⟩,
  ⟨(some 36), (some (31, true)), .len 0 (.t 35)⟩,
  ⟨(some 37), (some (31, true)), .bin .lss (.t 33) (.t 36)⟩,
  ⟨(some 38), none, .pick (.t 31) (.t 37) (.c (.bool false))⟩,
  ⟨(some 39), none, .mov (.t 38)⟩,
  ⟨(some 40), (some (39, true)), .faddr 8 (.t 3)⟩,
  ⟨(some 41), (some (39, true)), .load 1 false (.t 40)⟩,
  ⟨(some 42), (some (39, true)), .faddr 2 (.t 4)⟩,
  ⟨(some 43), (some (39, true)), .load 1 false (.t 42)⟩,
  ⟨(some 44), (some (39, true)), .iaddr 11 (.t 41) (.t 43)⟩,
  ⟨(some 45), (some (39, true)), .load 11 true (.t 44)⟩,
  ⟨(some 46), (some (39, true)), .mov (.t 2)⟩,
  ⟨(some 47), (some (39, true)), .call 36 [(.t 45), (.t 46)]⟩,
  ⟨(some 48), none, .pick (.t 39) (.t 47) (.c (.bool false))⟩,
  ⟨(some 6), none, .mov (.t 48)⟩]
@[go_sem] def scriptinglaw35_captured_r3 : List AI := [
  ⟨(some 49), none, .faddr 8 (.t 3)⟩,
  ⟨(some 50), none, .load 1 false (.t 49)⟩,
  ⟨(some 51), none, .faddr 2 (.t 4)⟩,
  ⟨(some 52), none, .load 1 false (.t 51)⟩,
  ⟨(some 53), none, .iaddr 11 (.t 50) (.t 52)⟩,
  ⟨(some 54), none, .load 11 true (.t 53)⟩,
  ⟨(some 55), none, .mov (.t 2)⟩,
  ⟨(some 56), none, .call 36 [(.t 54), (.t 55)]⟩,
  ⟨(some 6), none, .mov (.t 56)⟩]
@[go_sem] def scriptinglaw35_captured_c : AC := .seq (.ops [scriptinglaw35_captured_r0]) (.seq (.seq (.ops [scriptinglaw35_captured_r1]) (.cond (.t 22) (.seq (.ops [scriptinglaw35_captured_r2]) (.ret)) (.skip))) (.seq (.ops [scriptinglaw35_captured_r3]) (.ret)))
theorem scriptinglaw35_captured_ok : compF Tryd.prog 18 = some (57, scriptinglaw35_captured_c, [.t 6]) := by kernel_rfl

@[go_sem] def flow_Blocks_r0 : List AI := [
  ⟨(some 1), none, .box 190001 11 (.t 0)⟩,
  ⟨(some 2), none, .mov (.c .nils)⟩]
@[go_sem] def flow_Blocks_r1 : List AI := [
  ⟨(some 16), none, .mkmap 190016⟩,
  ⟨none, none, .mput 0 (.t 16) (.c (.int .i64 0)) (.c (.bool true))⟩,
  ⟨(some 17), none, .mov (.t 16)⟩,
  ⟨(some 3), none, .mov (.t 17)⟩]
@[go_sem] def flow_Blocks_r2 : List AI := [
  ⟨(some 18), none, .faddr 5 (.t 1)⟩,
  ⟨(some 19), none, .load 1 false (.t 18)⟩,
  ⟨(some 20), none, .len 0 (.t 19)⟩,
  ⟨(some 21), none, .mov (.c (.int .i64 0))⟩]
@[go_sem] def flow_Blocks_r3 : List AI := [
  ⟨(some 22), none, .bin .lss (.t 21) (.t 20)⟩]
@[go_sem] def flow_Blocks_r4 : List AI := [
  ⟨(some 23), none, .mov (.t 21)⟩,
  ⟨(some 24), none, .iaddr 5 (.t 19) (.t 21)⟩,
  ⟨(some 25), none, .load 5 true (.t 24)⟩,
  ⟨(some 5), none, .box 190005 5 (.c (.agg [(.int .i64 0), (.int .i64 0), (.int .i64 0), (.int .i64 0), (.int .i64 0)]))⟩,
  ⟨(some 4), none, .mov (.t 23)⟩,
  ⟨none, none, .store 5 (.t 5) (.t 25)⟩]
@[go_sem] def flow_Blocks_r5 : List AI := [
  ⟨(some 27), none, .load 5 true (.t 5)⟩,
  ⟨(some 28), none, .call 27 [(.t 27)]⟩,
  ⟨(some 26), none, .mov (.t 28)⟩,
  ⟨(some 29), none, .ext 0 (.t 26)⟩,
  ⟨(some 30), none, .ext 1 (.t 26)⟩,
  ⟨(some 6), none, .mov (.t 29)⟩,
  ⟨(some 7), none, .mov (.t 30)⟩]
@[go_sem] def flow_Blocks_r6 : List AI := [
  ⟨(some 31), none, .mov (.t 7)⟩]
@[go_sem] def flow_Blocks_r7 : List AI := [
  ⟨(some 32), none, .load 11 true (.t 1)⟩,
  ⟨(some 33), none, .mov (.t 4)⟩,
  ⟨(some 34), none, .call 16 [(.t 32), (.t 33)]⟩,
  ⟨(some 35), none, .len 0 (.t 34)⟩,
  ⟨(some 36), none, .mov (.c (.int .i64 0))⟩]
@[go_sem] def flow_Blocks_r8 : List AI := [
  ⟨(some 37), none, .bin .lss (.t 36) (.t 35)⟩]
@[go_sem] def flow_Blocks_r9 : List AI := [
  ⟨(some 38), none, .iaddr 1 (.t 34) (.t 36)⟩,
  ⟨(some 39), none, .load 1 false (.t 38)⟩,
  ⟨(some 9), none, .mov (.t 39)⟩]
@[go_sem] def flow_Blocks_r10 : List AI := [
  ⟨(some 40), none, .mov (.t 3)⟩,
  ⟨(some 41), none, .mov (.t 9)⟩,
  ⟨none, none, .mput 0 (.t 40) (.t 41) (.c (.bool true))⟩]
@[go_sem] def flow_Blocks_r11 : List AI := [
  ⟨(some 42), none, .bin .add (.t 36) (.c (.int .i64 1))⟩,
  ⟨(some 36), none, .mov (.t 42)⟩]
def flow_Blocks_l1 : AC := .seq (.ops [flow_Blocks_r8]) (.seq (.cond (.t 37) (.skip) (.exit 2)) (.seq (.block 3 (.seq (.ops [flow_Blocks_r9]) (.ops [flow_Blocks_r10]))) (.ops [flow_Blocks_r11])))
theorem flow_Blocks_l1_eq : flow_Blocks_l1 = .seq (.ops [flow_Blocks_r8]) (.seq (.cond (.t 37) (.skip) (.exit 2)) (.seq (.block 3 (.seq (.ops [flow_Blocks_r9]) (.ops [flow_Blocks_r10]))) (.ops [flow_Blocks_r11]))) := rfl
@[go_sem] def flow_Blocks_r12 : List AI := [
  ⟨(some 43), none, .mov (.t 7)⟩,
  ⟨(some 44), none, .mov (.t 43)⟩,
  ⟨(some 45), (some (44, false)), .load 5 true (.t 5)⟩,
  ⟨(some 46), (some (44, false)), .call 33 [(.t 45)]⟩,
  ⟨(some 47), (some (44, false)), .un .not (.t 46)⟩,
  ⟨(some 48), none, .pick (.t 44) (.c (.bool true)) (.t 47)⟩]
@[go_sem] def flow_Blocks_r13 : List AI := [
  ⟨(some 49), none, .mov (.t 3)⟩,
  ⟨(some 50), none, .mov (.t 4)⟩,
  ⟨(some 51), none, .bin .add (.t 50) (.c (.int .i64 1))⟩,
  ⟨none, none, .mput 0 (.t 49) (.t 51) (.c (.bool true))⟩]
@[go_sem] def flow_Blocks_r14 : List AI := [
  ⟨(some 52), none, .bin .add (.t 21) (.c (.int .i64 1))⟩,
  ⟨(some 21), none, .mov (.t 52)⟩]
def flow_Blocks_l0 : AC := .seq (.ops [flow_Blocks_r3]) (.seq (.cond (.t 22) (.skip) (.exit 0)) (.seq (.block 1 (.seq (.ops [flow_Blocks_r4]) (.seq (.ops [flow_Blocks_r5]) (.seq (.seq (.ops [flow_Blocks_r6]) (.cond (.t 31) (.seq (.ops [flow_Blocks_r7]) (.block 2 (.loop flow_Blocks_l1))) (.skip))) (.seq (.ops [flow_Blocks_r12]) (.cond (.t 48) (.ops [flow_Blocks_r13]) (.skip))))))) (.ops [flow_Blocks_r14])))
theorem flow_Blocks_l0_eq : flow_Blocks_l0 = .seq (.ops [flow_Blocks_r3]) (.seq (.cond (.t 22) (.skip) (.exit 0)) (.seq (.block 1 (.seq (.ops [flow_Blocks_r4]) (.seq (.ops [flow_Blocks_r5]) (.seq (.seq (.ops [flow_Blocks_r6]) (.cond (.t 31) (.seq (.ops [flow_Blocks_r7]) (.block 2 (.loop flow_Blocks_l1))) (.skip))) (.seq (.ops [flow_Blocks_r12]) (.cond (.t 48) (.ops [flow_Blocks_r13]) (.skip))))))) (.ops [flow_Blocks_r14]))) := rfl
@[go_sem] def flow_Blocks_r15 : List AI := [
  ⟨(some 10), none, .mov (.c .nils)⟩]
@[go_sem] def flow_Blocks_r16 : List AI := [
  ⟨(some 53), none, .mkmap 190053⟩,
  ⟨(some 11), none, .mov (.t 53)⟩]
@[go_sem] def flow_Blocks_r17 : List AI := [
  ⟨(some 54), none, .faddr 5 (.t 1)⟩,
  ⟨(some 55), none, .load 1 false (.t 54)⟩,
  ⟨(some 56), none, .len 0 (.t 55)⟩,
  ⟨(some 57), none, .mov (.c (.int .i64 0))⟩]
@[go_sem] def flow_Blocks_r18 : List AI := [
  ⟨(some 58), none, .bin .lss (.t 57) (.t 56)⟩]
@[go_sem] def flow_Blocks_r19 : List AI := [
  ⟨(some 59), none, .mov (.t 57)⟩,
  ⟨(some 12), none, .mov (.t 59)⟩]
@[go_sem] def flow_Blocks_r20 : List AI := [
  ⟨(some 60), none, .mov (.t 3)⟩,
  ⟨(some 61), none, .mov (.t 12)⟩,
  ⟨(some 62), none, .look 0 (.bool false) false (.t 60) (.t 61)⟩]
@[go_sem] def flow_Blocks_r21 : List AI := [
  ⟨(some 63), none, .mov (.t 11)⟩,
  ⟨(some 64), none, .mov (.t 12)⟩,
  ⟨(some 65), none, .mov (.t 10)⟩,
  ⟨(some 66), none, .len 0 (.t 65)⟩,
  ⟨none, none, .mput 0 (.t 63) (.t 64) (.t 66)⟩]
@[go_sem] def flow_Blocks_r22 : List AI := [
  ⟨(some 67), none, .mov (.t 10)⟩,
  ⟨(some 68), none, .mov (.t 12)⟩,
  ⟨(some 69), none, .build [(.int .i64 0), (.int .i64 0), .nils] [(0, 1, (.t 68))]⟩,
  ⟨(some 70), none, .mkisl 3 [(.t 69)]⟩,
  ⟨(some 71), none, .app 190071 3 (.t 67) (.t 70)⟩,
  ⟨(some 10), none, .mov (.t 71)⟩]
@[go_sem] def flow_Blocks_r23 : List AI := [
  ⟨(some 72), none, .mov (.t 10)⟩,
  ⟨(some 73), none, .mov (.t 10)⟩,
  ⟨(some 74), none, .len 0 (.t 73)⟩,
  ⟨(some 75), none, .bin .sub (.t 74) (.c (.int .i64 1))⟩,
  ⟨(some 76), none, .mov (.t 12)⟩,
  ⟨(some 77), none, .bin .add (.t 76) (.c (.int .i64 1))⟩,
  ⟨(some 78), none, .iaddr 3 (.t 72) (.t 75)⟩,
  ⟨(some 79), none, .faddr 1 (.t 78)⟩,
  ⟨none, none, .store 1 (.t 79) (.t 77)⟩]
@[go_sem] def flow_Blocks_r24 : List AI := [
  ⟨(some 80), none, .bin .add (.t 57) (.c (.int .i64 1))⟩,
  ⟨(some 57), none, .mov (.t 80)⟩]
def flow_Blocks_l2 : AC := .seq (.ops [flow_Blocks_r18]) (.seq (.cond (.t 58) (.skip) (.exit 4)) (.seq (.block 5 (.seq (.ops [flow_Blocks_r19]) (.seq (.seq (.ops [flow_Blocks_r20]) (.cond (.t 62) (.seq (.ops [flow_Blocks_r21]) (.ops [flow_Blocks_r22])) (.skip))) (.ops [flow_Blocks_r23])))) (.ops [flow_Blocks_r24])))
theorem flow_Blocks_l2_eq : flow_Blocks_l2 = .seq (.ops [flow_Blocks_r18]) (.seq (.cond (.t 58) (.skip) (.exit 4)) (.seq (.block 5 (.seq (.ops [flow_Blocks_r19]) (.seq (.seq (.ops [flow_Blocks_r20]) (.cond (.t 62) (.seq (.ops [flow_Blocks_r21]) (.ops [flow_Blocks_r22])) (.skip))) (.ops [flow_Blocks_r23])))) (.ops [flow_Blocks_r24]))) := rfl
@[go_sem] def flow_Blocks_r25 : List AI := [
  ⟨(some 81), none, .mov (.t 10)⟩,
  ⟨(some 82), none, .len 0 (.t 81)⟩,
  ⟨(some 83), none, .mov (.c (.int .i64 0))⟩]
@[go_sem] def flow_Blocks_r26 : List AI := [
  ⟨(some 84), none, .bin .lss (.t 83) (.t 82)⟩]
@[go_sem] def flow_Blocks_r27 : List AI := [
  ⟨(some 85), none, .mov (.t 83)⟩,
  ⟨(some 13), none, .mov (.t 85)⟩]
@[go_sem] def flow_Blocks_r28 : List AI := [
  ⟨(some 86), none, .load 11 true (.t 1)⟩,
  ⟨(some 87), none, .mov (.t 10)⟩,
  ⟨(some 88), none, .mov (.t 13)⟩,
  ⟨(some 89), none, .iaddr 3 (.t 87) (.t 88)⟩,
  ⟨(some 90), none, .faddr 1 (.t 89)⟩,
  ⟨(some 91), none, .load 1 false (.t 90)⟩,
  ⟨(some 92), none, .bin .sub (.t 91) (.c (.int .i64 1))⟩,
  ⟨(some 95), none, .mov (.c (.int .i64 0))⟩,
  ⟨(some 93), none, .call 16 [(.t 86), (.t 92)]⟩,
  ⟨(some 94), none, .len 0 (.t 93)⟩]
@[go_sem] def flow_Blocks_r29 : List AI := [
  ⟨(some 96), none, .bin .lss (.t 95) (.t 94)⟩]
@[go_sem] def flow_Blocks_r30 : List AI := [
  ⟨(some 97), none, .iaddr 1 (.t 93) (.t 95)⟩,
  ⟨(some 98), none, .load 1 false (.t 97)⟩,
  ⟨(some 15), none, .mov (.t 98)⟩]
@[go_sem] def flow_Blocks_r31 : List AI := [
  ⟨(some 99), none, .mov (.t 10)⟩,
  ⟨(some 100), none, .mov (.t 13)⟩,
  ⟨(some 101), none, .mov (.t 10)⟩,
  ⟨(some 102), none, .mov (.t 13)⟩,
  ⟨(some 103), none, .iaddr 3 (.t 101) (.t 102)⟩,
  ⟨(some 104), none, .faddr 2 (.t 103)⟩,
  ⟨(some 105), none, .load 1 false (.t 104)⟩,
  ⟨(some 106), none, .mov (.t 11)⟩,
  ⟨(some 107), none, .mov (.t 15)⟩,
  ⟨(some 108), none, .look 0 (.int .i64 0) false (.t 106) (.t 107)⟩,
  ⟨(some 109), none, .mkisl 1 [(.t 108)]⟩,
  ⟨(some 110), none, .app 190110 1 (.t 105) (.t 109)⟩,
  ⟨(some 111), none, .iaddr 3 (.t 99) (.t 100)⟩,
  ⟨(some 112), none, .faddr 2 (.t 111)⟩,
  ⟨none, none, .store 1 (.t 112) (.t 110)⟩]
@[go_sem] def flow_Blocks_r32 : List AI := [
  ⟨(some 113), none, .bin .add (.t 95) (.c (.int .i64 1))⟩,
  ⟨(some 95), none, .mov (.t 113)⟩]
def flow_Blocks_l4 : AC := .seq (.ops [flow_Blocks_r29]) (.seq (.cond (.t 96) (.skip) (.exit 8)) (.seq (.block 9 (.seq (.ops [flow_Blocks_r30]) (.ops [flow_Blocks_r31]))) (.ops [flow_Blocks_r32])))
theorem flow_Blocks_l4_eq : flow_Blocks_l4 = .seq (.ops [flow_Blocks_r29]) (.seq (.cond (.t 96) (.skip) (.exit 8)) (.seq (.block 9 (.seq (.ops [flow_Blocks_r30]) (.ops [flow_Blocks_r31]))) (.ops [flow_Blocks_r32]))) := rfl
@[go_sem] def flow_Blocks_r33 : List AI := [
  ⟨(some 114), none, .bin .add (.t 83) (.c (.int .i64 1))⟩,
  ⟨(some 83), none, .mov (.t 114)⟩]
def flow_Blocks_l3 : AC := .seq (.ops [flow_Blocks_r26]) (.seq (.cond (.t 84) (.skip) (.exit 6)) (.seq (.block 7 (.seq (.ops [flow_Blocks_r27]) (.seq (.ops [flow_Blocks_r28]) (.block 8 (.loop flow_Blocks_l4))))) (.ops [flow_Blocks_r33])))
theorem flow_Blocks_l3_eq : flow_Blocks_l3 = .seq (.ops [flow_Blocks_r26]) (.seq (.cond (.t 84) (.skip) (.exit 6)) (.seq (.block 7 (.seq (.ops [flow_Blocks_r27]) (.seq (.ops [flow_Blocks_r28]) (.block 8 (.loop flow_Blocks_l4))))) (.ops [flow_Blocks_r33]))) := rfl
@[go_sem] def flow_Blocks_r34 : List AI := [
  ⟨(some 115), none, .mov (.t 10)⟩,
  ⟨(some 2), none, .mov (.t 115)⟩]
@[go_sem] def flow_Blocks_c : AC := .seq (.ops [flow_Blocks_r0]) (.seq (.ops [flow_Blocks_r1]) (.seq (.seq (.ops [flow_Blocks_r2]) (.block 0 (.loop flow_Blocks_l0))) (.seq (.ops [flow_Blocks_r15]) (.seq (.ops [flow_Blocks_r16]) (.seq (.seq (.ops [flow_Blocks_r17]) (.block 4 (.loop flow_Blocks_l2))) (.seq (.seq (.ops [flow_Blocks_r25]) (.block 6 (.loop flow_Blocks_l3))) (.seq (.ops [flow_Blocks_r34]) (.ret))))))))
theorem flow_Blocks_ok : compF Tryd.prog 19 = some (116, flow_Blocks_c, [.t 2]) := by kernel_rfl

@[go_sem] def flow_size_r0 : List AI := [
  ⟨(some 1), none, .box 200001 11 (.t 0)⟩,
  ⟨(some 2), none, .mov (.c (.int .i64 0))⟩]
@[go_sem] def flow_size_r1 : List AI := [
  ⟨(some 3), none, .faddr 4 (.t 1)⟩,
  ⟨(some 4), none, .load 1 false (.t 3)⟩,
  ⟨(some 5), none, .mm true [(.t 4), (.c (.int .i64 0))]⟩,
  ⟨(some 6), none, .mm false [(.t 5), (.c (.int .i64 4096))]⟩,
  ⟨(some 2), none, .mov (.t 6)⟩]
@[go_sem] def flow_size_c : AC := .seq (.ops [flow_size_r0]) (.seq (.ops [flow_size_r1]) (.ret))
theorem flow_size_ok : compF Tryd.prog 20 = some (7, flow_size_c, [.t 2]) := by kernel_rfl

@[go_sem] def flow_uses_r0 : List AI := [
  ⟨(some 2), none, .box 210002 11 (.t 0)⟩,
  ⟨(some 3), none, .box 210003 5 (.t 1)⟩,
  ⟨(some 4), none, .mov (.c .nilp)⟩]
@[go_sem] def flow_uses_r1 : List AI := [
  ⟨(some 10), none, .build (List.replicate 4096 (.bool false)) []⟩,
  ⟨(some 11), none, .box 210011 4096 (.t 10)⟩,
  ⟨(some 5), none, .mov (.t 11)⟩]
@[go_sem] def flow_uses_r2 : List AI := [
  ⟨(some 13), none, .load 5 true (.t 3)⟩,
  ⟨(some 14), none, .call 14 [(.t 13)]⟩,
  ⟨(some 12), none, .mov (.t 14)⟩,
  ⟨(some 15), none, .ext 0 (.t 12)⟩,
  ⟨(some 16), none, .ext 1 (.t 12)⟩,
  ⟨(some 6), none, .mov (.t 15)⟩,
  ⟨(some 7), none, .mov (.t 16)⟩]
@[go_sem] def flow_uses_r3 : List AI := [
  ⟨(some 17), none, .mov (.t 5)⟩,
  ⟨(some 18), none, .load 11 true (.t 2)⟩,
  ⟨(some 19), none, .mov (.t 6)⟩,
  ⟨(some 20), none, .mov (.t 7)⟩,
  ⟨(some 21), none, .call 37 [(.t 17), (.t 18), (.t 19), (.t 20)]⟩]
@[go_sem] def flow_uses_r4 : List AI := [
  ⟨(some 22), none, .faddr 0 (.t 3)⟩,
  ⟨(some 23), none, .load 1 false (.t 22)⟩,
  ⟨(some 24), none, .bin .eql (.t 23) (.c (.int .i64 22))⟩,
  ⟨(some 25), none, .mov (.t 24)⟩,
  ⟨(some 26), (some (25, true)), .faddr 2 (.t 3)⟩,
  ⟨(some 27), (some (25, true)), .load 1 false (.t 26)⟩,
  ⟨(some 28), (some (25, true)), .bin .geq (.t 27) (.c (.int .i64 0))⟩,
  ⟨(some 29), none, .pick (.t 25) (.t 28) (.c (.bool false))⟩,
  ⟨(some 30), none, .mov (.t 29)⟩,
  ⟨(some 31), (some (30, true)), .faddr 2 (.t 3)⟩,
  ⟨(some 32), (some (30, true)), .load 1 false (.t 31)⟩,
  ⟨(some 33), (some (30, true)), .faddr 8 (.t 2)⟩,
  ⟨(some 34), (some (30, true)), .load 1 false (.t 33)⟩,
  ⟨(some 35), (some (30, true)), .len 0 (.t 34)⟩,
  ⟨(some 36), (some (30, true)), .bin .lss (.t 32) (.t 35)⟩,
  ⟨(some 37), none, .pick (.t 30) (.t 36) (.c (.bool false))⟩]
@[go_sem] def flow_uses_r5 : List AI := [
  ⟨(some 38), none, .faddr 8 (.t 2)⟩,
  ⟨(some 39), none, .load 1 false (.t 38)⟩,
  ⟨(some 40), none, .faddr 2 (.t 3)⟩,
  ⟨(some 41), none, .load 1 false (.t 40)⟩,
  ⟨(some 42), none, .iaddr 11 (.t 39) (.t 41)⟩,
  ⟨(some 43), none, .faddr 9 (.t 42)⟩,
  ⟨(some 44), none, .load 1 false (.t 43)⟩,
  ⟨(some 45), none, .len 0 (.t 44)⟩,
  ⟨(some 46), none, .mov (.c (.int .i64 0))⟩]
@[go_sem] def flow_uses_r6 : List AI := [
  ⟨(some 47), none, .bin .lss (.t 46) (.t 45)⟩]
@[go_sem] def flow_uses_r7 : List AI := [
  ⟨(some 48), none, .iaddr 3 (.t 44) (.t 46)⟩,
  ⟨(some 49), none, .load 3 true (.t 48)⟩,
  ⟨(some 9), none, .box 210009 3 (.c (.agg [(.str []), (.bool false), (.int .i64 0)]))⟩,
  ⟨none, none, .store 3 (.t 9) (.t 49)⟩]
@[go_sem] def flow_uses_r8 : List AI := [
  ⟨(some 50), none, .faddr 1 (.t 9)⟩,
  ⟨(some 51), none, .load 1 false (.t 50)⟩]
@[go_sem] def flow_uses_r9 : List AI := [
  ⟨(some 52), none, .mov (.t 5)⟩,
  ⟨(some 53), none, .load 11 true (.t 2)⟩,
  ⟨(some 54), none, .faddr 2 (.t 9)⟩,
  ⟨(some 55), none, .load 1 false (.t 54)⟩,
  ⟨(some 56), none, .mkisl 1 [(.t 55)]⟩,
  ⟨(some 57), none, .call 37 [(.t 52), (.t 53), (.t 56), (.c (.int .i64 (-1)))]⟩]
@[go_sem] def flow_uses_r10 : List AI := [
  ⟨(some 58), none, .bin .add (.t 46) (.c (.int .i64 1))⟩,
  ⟨(some 46), none, .mov (.t 58)⟩]
def flow_uses_l0 : AC := .seq (.ops [flow_uses_r6]) (.seq (.cond (.t 47) (.skip) (.exit 0)) (.seq (.block 1 (.seq (.ops [flow_uses_r7]) (.seq (.ops [flow_uses_r8]) (.cond (.t 51) (.ops [flow_uses_r9]) (.skip))))) (.ops [flow_uses_r10])))
theorem flow_uses_l0_eq : flow_uses_l0 = .seq (.ops [flow_uses_r6]) (.seq (.cond (.t 47) (.skip) (.exit 0)) (.seq (.block 1 (.seq (.ops [flow_uses_r7]) (.seq (.ops [flow_uses_r8]) (.cond (.t 51) (.ops [flow_uses_r9]) (.skip))))) (.ops [flow_uses_r10]))) := rfl
@[go_sem] def flow_uses_r11 : List AI := [
  ⟨(some 59), none, .mov (.t 5)⟩,
  ⟨(some 4), none, .mov (.t 59)⟩]
@[go_sem] def flow_uses_c : AC := .seq (.ops [flow_uses_r0]) (.seq (.ops [flow_uses_r1]) (.seq (.ops [flow_uses_r2]) (.seq (.ops [flow_uses_r3]) (.seq (.seq (.ops [flow_uses_r4]) (.cond (.t 37) (.seq (.ops [flow_uses_r5]) (.block 0 (.loop flow_uses_l0))) (.skip))) (.seq (.ops [flow_uses_r11]) (.ret))))))
theorem flow_uses_ok : compF Tryd.prog 21 = some (60, flow_uses_c, [.t 4]) := by kernel_rfl

@[go_sem] def flow_defines_r0 : List AI := [
  ⟨(some 3), none, .box 220003 11 (.t 0)⟩,
  ⟨(some 6), none, .mov (.c .nilp)⟩]
@[go_sem] def flow_defines_r1 : List AI := [
  ⟨(some 12), none, .build (List.replicate 4096 (.bool false)) []⟩,
  ⟨(some 13), none, .box 220013 4096 (.t 12)⟩,
  ⟨(some 7), none, .mov (.t 13)⟩]
@[go_sem] def flow_defines_r2 : List AI := [
  ⟨(some 14), none, .faddr 5 (.t 3)⟩,
  ⟨(some 15), none, .load 1 false (.t 14)⟩,
  ⟨(some 16), none, .mov (.t 1)⟩,
  ⟨(some 17), none, .iaddr 5 (.t 15) (.t 16)⟩,
  ⟨(some 18), none, .load 5 true (.t 17)⟩,
  ⟨(some 8), none, .box 220008 5 (.c (.agg [(.int .i64 0), (.int .i64 0), (.int .i64 0), (.int .i64 0), (.int .i64 0)]))⟩,
  ⟨none, none, .store 5 (.t 8) (.t 18)⟩]
@[go_sem] def flow_defines_r3 : List AI := [
  ⟨(some 19), none, .mov (.t 2)⟩,
  ⟨(some 20), none, .faddr 2 (.t 8)⟩,
  ⟨(some 21), none, .load 1 false (.t 20)⟩,
  ⟨(some 22), none, .bin .eql (.t 19) (.t 21)⟩,
  ⟨(some 23), none, .mov (.t 22)⟩,
  ⟨(some 24), (some (23, true)), .mov (.t 2)⟩,
  ⟨(some 25), (some (23, true)), .mov (.t 1)⟩,
  ⟨(some 26), (some (23, true)), .bin .add (.t 25) (.c (.int .i64 1))⟩,
  ⟨(some 27), (some (23, true)), .bin .neq (.t 24) (.t 26)⟩,
  ⟨(some 28), none, .pick (.t 23) (.t 27) (.c (.bool false))⟩,
  ⟨(some 9), none, .mov (.t 28)⟩]
@[go_sem] def flow_defines_r4 : List AI := [
  ⟨(some 29), none, .faddr 0 (.t 8)⟩,
  ⟨(some 30), none, .load 1 false (.t 29)⟩]
@[go_sem] def flow_defines_r5 : List AI := [
  ⟨(some 32), none, .bin .eql (.t 30) (.c (.int .i64 24))⟩,
  ⟨(some 31), none, .mov (.t 32)⟩]
@[go_sem] def flow_defines_r6 : List AI := [
  ⟨(some 33), none, .bin .eql (.t 30) (.c (.int .i64 26))⟩,
  ⟨(some 31), none, .mov (.t 33)⟩]
@[go_sem] def flow_defines_r7 : List AI := [
  ⟨(some 34), none, .mov (.t 9)⟩,
  ⟨(some 35), none, .un .not (.t 34)⟩]
@[go_sem] def flow_defines_r8 : List AI := [
  ⟨(some 36), none, .mov (.t 7)⟩,
  ⟨(some 6), none, .mov (.t 36)⟩]
@[go_sem] def flow_defines_r9 : List AI := [
  ⟨(some 38), none, .bin .eql (.t 30) (.c (.int .i64 23))⟩,
  ⟨(some 37), none, .mov (.t 38)⟩]
@[go_sem] def flow_defines_r10 : List AI := [
  ⟨(some 39), none, .mov (.t 2)⟩,
  ⟨(some 40), none, .faddr 2 (.t 8)⟩,
  ⟨(some 41), none, .load 1 false (.t 40)⟩,
  ⟨(some 42), none, .bin .eql (.t 39) (.t 41)⟩]
@[go_sem] def flow_defines_r11 : List AI := [
  ⟨(some 43), none, .mov (.t 7)⟩,
  ⟨(some 6), none, .mov (.t 43)⟩]
@[go_sem] def flow_defines_r12 : List AI := [
  ⟨(some 45), none, .load 5 true (.t 8)⟩,
  ⟨(some 46), none, .call 34 [(.t 45)]⟩,
  ⟨(some 44), none, .mov (.t 46)⟩,
  ⟨(some 47), none, .ext 0 (.t 44)⟩,
  ⟨(some 48), none, .ext 1 (.t 44)⟩,
  ⟨(some 10), none, .mov (.t 47)⟩,
  ⟨(some 11), none, .mov (.t 48)⟩]
@[go_sem] def flow_defines_r13 : List AI := [
  ⟨(some 49), none, .mov (.t 7)⟩,
  ⟨(some 50), none, .load 11 true (.t 3)⟩,
  ⟨(some 51), none, .mov (.t 10)⟩,
  ⟨(some 52), none, .mov (.t 11)⟩,
  ⟨(some 53), none, .call 37 [(.t 49), (.t 50), (.t 51), (.t 52)]⟩]
@[go_sem] def flow_defines_r14 : List AI := [
  ⟨(some 54), none, .mov (.t 7)⟩,
  ⟨(some 6), none, .mov (.t 54)⟩]
@[go_sem] def flow_defines_c : AC := .seq (.ops [flow_defines_r0]) (.seq (.ops [flow_defines_r1]) (.seq (.ops [flow_defines_r2]) (.seq (.ops [flow_defines_r3]) (.seq (.seq (.ops [flow_defines_r4]) (.block 0 (.seq (.seq (.ops [flow_defines_r5]) (.cond (.t 31) (.skip) (.ops [flow_defines_r6]))) (.cond (.t 31) (.seq (.ops [flow_defines_r7]) (.cond (.t 35) (.seq (.ops [flow_defines_r8]) (.ret)) (.skip))) (.seq (.ops [flow_defines_r9]) (.cond (.t 37) (.seq (.ops [flow_defines_r10]) (.cond (.t 42) (.seq (.ops [flow_defines_r11]) (.ret)) (.skip))) (.skip))))))) (.seq (.ops [flow_defines_r12]) (.seq (.ops [flow_defines_r13]) (.seq (.ops [flow_defines_r14]) (.ret))))))))
theorem flow_defines_ok : compF Tryd.prog 22 = some (55, flow_defines_c, [.t 6]) := by kernel_rfl

@[go_sem] def scriptingref35_registers_r0 : List AI := [
  ⟨(some 1), none, .box 230001 11 (.t 0)⟩,
  ⟨(some 2), none, .mov (.c (.int .i64 0))⟩]
@[go_sem] def scriptingref35_registers_r1 : List AI := [
  ⟨(some 3), none, .faddr 4 (.t 1)⟩,
  ⟨(some 4), none, .load 1 false (.t 3)⟩,
  ⟨(some 5), none, .mm false [(.t 4), (.c (.int .i64 4096))]⟩,
  ⟨(some 6), none, .mm true [(.c (.int .i64 0)), (.t 5)]⟩,
  ⟨(some 2), none, .mov (.t 6)⟩]
@[go_sem] def scriptingref35_registers_c : AC := .seq (.ops [scriptingref35_registers_r0]) (.seq (.ops [scriptingref35_registers_r1]) (.ret))
theorem scriptingref35_registers_ok : compF Tryd.prog 23 = some (7, scriptingref35_registers_c, [.t 2]) := by kernel_rfl

@[go_sem] def scriptingref35_uses_r0 : List AI := [
  ⟨(some 3), none, .box 240003 11 (.t 0)⟩,
  ⟨(some 6), none, .mov (.c .nils)⟩]
@[go_sem] def scriptingref35_uses_r1 : List AI := [
  ⟨(some 13), none, .faddr 5 (.t 3)⟩,
  ⟨(some 14), none, .load 1 false (.t 13)⟩,
  ⟨(some 15), none, .mov (.t 1)⟩,
  ⟨(some 16), none, .iaddr 5 (.t 14) (.t 15)⟩,
  ⟨(some 17), none, .load 5 true (.t 16)⟩,
  ⟨(some 7), none, .box 240007 5 (.c (.agg [(.int .i64 0), (.int .i64 0), (.int .i64 0), (.int .i64 0), (.int .i64 0)]))⟩,
  ⟨none, none, .store 5 (.t 7) (.t 17)⟩]
@[go_sem] def scriptingref35_uses_r2 : List AI := [
  ⟨(some 19), none, .load 5 true (.t 7)⟩,
  ⟨(some 20), none, .call 38 [(.t 19)]⟩,
  ⟨(some 18), none, .mov (.t 20)⟩,
  ⟨(some 21), none, .ext 0 (.t 18)⟩,
  ⟨(some 22), none, .ext 1 (.t 18)⟩,
  ⟨(some 8), none, .mov (.t 21)⟩,
  ⟨(some 9), none, .mov (.t 22)⟩]
@[go_sem] def scriptingref35_uses_r3 : List AI := [
  ⟨(some 23), none, .mov (.t 2)⟩,
  ⟨(some 24), none, .mov (.t 8)⟩,
  ⟨(some 25), none, .mov (.t 9)⟩,
  ⟨(some 26), none, .call 39 [(.t 23), (.t 24), (.t 25)]⟩,
  ⟨(some 10), none, .mov (.t 26)⟩]
@[go_sem] def scriptingref35_uses_r4 : List AI := [
  ⟨(some 27), none, .faddr 0 (.t 7)⟩,
  ⟨(some 28), none, .load 1 false (.t 27)⟩,
  ⟨(some 29), none, .bin .neq (.t 28) (.c (.int .i64 22))⟩,
  ⟨(some 30), none, .mov (.t 29)⟩,
  ⟨(some 31), (some (30, false)), .faddr 2 (.t 7)⟩,
  ⟨(some 32), (some (30, false)), .load 1 false (.t 31)⟩,
  ⟨(some 33), (some (30, false)), .bin .lss (.t 32) (.c (.int .i64 0))⟩,
  ⟨(some 34), none, .pick (.t 30) (.c (.bool true)) (.t 33)⟩,
  ⟨(some 35), none, .mov (.t 34)⟩,
  ⟨(some 36), (some (35, false)), .faddr 2 (.t 7)⟩,
  ⟨(some 37), (some (35, false)), .load 1 false (.t 36)⟩,
  ⟨(some 38), (some (35, false)), .faddr 8 (.t 3)⟩,
  ⟨(some 39), (some (35, false)), .load 1 false (.t 38)⟩,
  ⟨(some 40), (some (35, false)), .len 0 (.t 39)⟩,
  ⟨(some 41), (some (35, false)), .bin .geq (.t 37) (.t 40)⟩,
  ⟨(some 42), none, .pick (.t 35) (.c (.bool true)) (.t 41)⟩]
@[go_sem] def scriptingref35_uses_r5 : List AI := [
  ⟨(some 43), none, .mov (.t 10)⟩,
  ⟨(some 6), none, .mov (.t 43)⟩]
@[go_sem] def scriptingref35_uses_r6 : List AI := [
  ⟨(some 44), none, .faddr 8 (.t 3)⟩,
  ⟨(some 45), none, .load 1 false (.t 44)⟩,
  ⟨(some 46), none, .faddr 2 (.t 7)⟩,
  ⟨(some 47), none, .load 1 false (.t 46)⟩,
  ⟨(some 48), none, .iaddr 11 (.t 45) (.t 47)⟩,
  ⟨(some 49), none, .faddr 9 (.t 48)⟩,
  ⟨(some 50), none, .load 1 false (.t 49)⟩,
  ⟨(some 11), none, .mov (.t 50)⟩]
@[go_sem] def scriptingref35_uses_r7 : List AI := [
  ⟨(some 12), none, .mov (.c (.int .i64 0))⟩]
@[go_sem] def scriptingref35_uses_r8 : List AI := [
  ⟨(some 51), none, .mov (.t 12)⟩,
  ⟨(some 52), none, .mov (.t 11)⟩,
  ⟨(some 53), none, .len 0 (.t 52)⟩,
  ⟨(some 54), none, .bin .lss (.t 51) (.t 53)⟩]
@[go_sem] def scriptingref35_uses_r9 : List AI := [
  ⟨(some 57), none, .mov (.t 11)⟩,
  ⟨(some 58), none, .mov (.t 12)⟩,
  ⟨(some 59), none, .iaddr 3 (.t 57) (.t 58)⟩,
  ⟨(some 60), none, .faddr 1 (.t 59)⟩,
  ⟨(some 61), none, .load 1 false (.t 60)⟩,
  ⟨(some 62), none, .mov (.t 61)⟩,
  ⟨(some 63), (some (62, true)), .mov (.t 11)⟩,
  ⟨(some 64), (some (62, true)), .mov (.t 12)⟩,
  ⟨(some 65), (some (62, true)), .iaddr 3 (.t 63) (.t 64)⟩,
  ⟨(some 66), (some (62, true)), .faddr 2 (.t 65)⟩,
  ⟨(some 67), (some (62, true)), .load 1 false (.t 66)⟩,
  ⟨(some 68), (some (62, true)), .bin .geq (.t 67) (.c (.int .i64 0))⟩,
  ⟨(some 69), none, .pick (.t 62) (.t 68) (.c (.bool false))⟩,
  ⟨(some 70), none, .mov (.t 69)⟩,
  ⟨(some 71), (some (70, true)), .mov (.t 11)⟩,
  ⟨(some 72), (some (70, true)), .mov (.t 12)⟩,
  ⟨(some 73), (some (70, true)), .iaddr 3 (.t 71) (.t 72)⟩,
  ⟨(some 74), (some (70, true)), .faddr 2 (.t 73)⟩,
  ⟨(some 75), (some (70, true)), .load 1 false (.t 74)⟩,
  ⟨(some 76), (some (70, true)), .mov (.t 2)⟩,
  ⟨(some 77), (some (70, true)), .bin .lss (.t 75) (.t 76)⟩,
  ⟨(some 78), none, .pick (.t 70) (.t 77) (.c (.bool false))⟩]
@[go_sem] def scriptingref35_uses_r10 : List AI := [
  ⟨(some 79), none, .mov (.t 10)⟩,
  ⟨(some 80), none, .mov (.t 11)⟩,
  ⟨(some 81), none, .mov (.t 12)⟩,
  ⟨(some 82), none, .iaddr 3 (.t 80) (.t 81)⟩,
  ⟨(some 83), none, .faddr 2 (.t 82)⟩,
  ⟨(some 84), none, .load 1 false (.t 83)⟩,
  ⟨(some 85), none, .iaddr 1 (.t 79) (.t 84)⟩,
  ⟨none, none, .store 1 (.t 85) (.c (.bool true))⟩]
@[go_sem] def scriptingref35_uses_r11 : List AI := [
  ⟨(some 55), none, .mov (.t 12)⟩,
  ⟨(some 56), none, .bin .add (.t 55) (.c (.int .i64 1))⟩,
  ⟨(some 12), none, .mov (.t 56)⟩]
def scriptingref35_uses_l0 : AC := .seq (.seq (.ops [scriptingref35_uses_r8]) (.cond (.t 54) (.skip) (.exit 0))) (.seq (.block 1 (.seq (.ops [scriptingref35_uses_r9]) (.cond (.t 78) (.ops [scriptingref35_uses_r10]) (.skip)))) (.ops [scriptingref35_uses_r11]))
theorem scriptingref35_uses_l0_eq : scriptingref35_uses_l0 = .seq (.seq (.ops [scriptingref35_uses_r8]) (.cond (.t 54) (.skip) (.exit 0))) (.seq (.block 1 (.seq (.ops [scriptingref35_uses_r9]) (.cond (.t 78) (.ops [scriptingref35_uses_r10]) (.skip)))) (.ops [scriptingref35_uses_r11])) := rfl
@[go_sem] def scriptingref35_uses_r12 : List AI := [
  ⟨(some 86), none, .mov (.t 10)⟩,
  ⟨(some 6), none, .mov (.t 86)⟩]
@[go_sem] def scriptingref35_uses_c : AC := .seq (.ops [scriptingref35_uses_r0]) (.seq (.ops [scriptingref35_uses_r1]) (.seq (.ops [scriptingref35_uses_r2]) (.seq (.ops [scriptingref35_uses_r3]) (.seq (.seq (.ops [scriptingref35_uses_r4]) (.cond (.t 42) (.seq (.ops [scriptingref35_uses_r5]) (.ret)) (.skip))) (.seq (.ops [scriptingref35_uses_r6]) (.seq (.seq (.ops [scriptingref35_uses_r7]) (.block 0 (.loop scriptingref35_uses_l0))) (.seq (.ops [scriptingref35_uses_r12]) (.ret))))))))
theorem scriptingref35_uses_ok : compF Tryd.prog 24 = some (87, scriptingref35_uses_c, [.t 6]) := by kernel_rfl

@[go_sem] def scriptingref35_Next_r0 : List AI := [
  ⟨(some 2), none, .box 250002 11 (.t 0)⟩,
  ⟨(some 4), none, .mov (.c .nils)⟩]
@[go_sem] def scriptingref35_Next_r1 : List AI := [
  ⟨(some 8), none, .mkrow 250008 1 []⟩,
  ⟨(some 5), none, .mov (.t 8)⟩]
@[go_sem] def scriptingref35_Next_r2 : List AI := [
  ⟨(some 9), none, .mov (.t 1)⟩,
  ⟨(some 10), none, .bin .lss (.t 9) (.c (.int .i64 0))⟩,
  ⟨(some 11), none, .mov (.t 10)⟩,
  ⟨(some 12), (some (11, false)), .mov (.t 1)⟩,
  ⟨(some 13), (some (11, false)), .faddr 5 (.t 2)⟩,
  ⟨(some 14), (some (11, false)), .load 1 false (.t 13)⟩,
  ⟨(some 15), (some (11, false)), .len 0 (.t 14)⟩,
  ⟨(some 16), (some (11, false)), .bin .geq (.t 12) (.t 15)⟩,
  ⟨(some 17), none, .pick (.t 11) (.c (.bool true)) (.t 16)⟩]
@[go_sem] def scriptingref35_Next_r3 : List AI := [
  ⟨(some 18), none, .mov (.t 5)⟩,
  ⟨(some 4), none, .mov (.t 18)⟩]
@[go_sem] def scriptingref35_Next_r4 : List AI := [
  ⟨(some 20), none, .faddr 5 (.t 2)⟩,
  ⟨(some 21), none, .load 1 false (.t 20)⟩,
  ⟨(some 22), none, .mov (.t 1)⟩,
  ⟨(some 23), none, .iaddr 5 (.t 21) (.t 22)⟩,
  ⟨(some 24), none, .load 5 true (.t 23)⟩,
  ⟨(some 25), none, .call 40 [(.t 24)]⟩,
  ⟨(some 19), none, .mov (.t 25)⟩,
  ⟨(some 26), none, .ext 0 (.t 19)⟩,
  ⟨(some 27), none, .ext 1 (.t 19)⟩,
  ⟨(some 6), none, .mov (.t 26)⟩,
  ⟨(some 7), none, .mov (.t 27)⟩]
@[go_sem] def scriptingref35_Next_r5 : List AI := [
  ⟨(some 28), none, .mov (.t 7)⟩,
  ⟨(some 29), none, .mov (.t 28)⟩,
  ⟨(some 30), (some (29, true)), .mov (.t 6)⟩,
  ⟨(some 31), (some (29, true)), .bin .geq (.t 30) (.c (.int .i64 0))⟩,
  ⟨(some 32), none, .pick (.t 29) (.t 31) (.c (.bool false))⟩,
  ⟨(some 33), none, .mov (.t 32)⟩,
  ⟨(some 34), (some (33, true)), .mov (.t 6)⟩,
  ⟨(some 35), (some (33, true)), .faddr 5 (.t 2)⟩,
  ⟨(some 36), (some (33, true)), .load 1 false (.t 35)⟩,
  ⟨(some 37), (some (33, true)), .len 0 (.t 36)⟩,
  ⟨(some 38), (some (33, true)), .bin .lss (.t 34) (.t 37)⟩,
  ⟨(some 39), none, .pick (.t 33) (.t 38) (.c (.bool false))⟩]
@[go_sem] def scriptingref35_Next_r6 : List AI := [
  ⟨(some 40), none, .mov (.t 5)⟩,
  ⟨(some 41), none, .mov (.t 6)⟩,
  ⟨(some 42), none, .mkisl 1 [(.t 41)]⟩,
  ⟨(some 43), none, .app 250043 1 (.t 40) (.t 42)⟩,
  ⟨(some 5), none, .mov (.t 43)⟩]
@[go_sem] def scriptingref35_Next_r7 : List AI := [
  ⟨(some 44), none, .faddr 5 (.t 2)⟩,
  ⟨(some 45), none, .load 1 false (.t 44)⟩,
  ⟨(some 46), none, .mov (.t 1)⟩,
  ⟨(some 47), none, .iaddr 5 (.t 45) (.t 46)⟩,
  ⟨(some 48), none, .load 5 true (.t 47)⟩,
  ⟨(some 49), none, .call 41 [(.t 48)]⟩,
  ⟨(some 50), none, .mov (.t 49)⟩,
  ⟨(some 51), (some (50, true)), .mov (.t 1)⟩,
  ⟨(some 52), (some (50, true)), .bin .add (.t 51) (.c (.int .i64 1))⟩,
  ⟨(some 53), (some (50, true)), .faddr 5 (.t 2)⟩,
  ⟨(some 54), (some (50, true)), .load 1 false (.t 53)⟩,
  ⟨(some 55), (some (50, true)), .len 0 (.t 54)⟩,
  ⟨(some 56), (some (50, true)), .bin .lss (.t 52) (.t 55)⟩,
  ⟨(some 57), none, .pick (.t 50) (.t 56) (.c (.bool false))⟩]
@[go_sem] def scriptingref35_Next_r8 : List AI := [
  ⟨(some 58), none, .mov (.t 5)⟩,
  ⟨(some 59), none, .mov (.t 1)⟩,
  ⟨(some 60), none, .bin .add (.t 59) (.c (.int .i64 1))⟩,
  ⟨(some 61), none, .call 42 [(.t 58), (.t 60)]⟩,
  ⟨(some 5), none, .mov (.t 61)⟩]
@[go_sem] def scriptingref35_Next_r9 : List AI := [
  ⟨(some 62), none, .mov (.t 5)⟩,
  ⟨(some 4), none, .mov (.t 62)⟩]
@[go_sem] def scriptingref35_Next_c : AC := .seq (.ops [scriptingref35_Next_r0]) (.seq (.ops [scriptingref35_Next_r1]) (.seq (.seq (.ops [scriptingref35_Next_r2]) (.cond (.t 17) (.seq (.ops [scriptingref35_Next_r3]) (.ret)) (.skip))) (.seq (.ops [scriptingref35_Next_r4]) (.seq (.seq (.ops [scriptingref35_Next_r5]) (.cond (.t 39) (.ops [scriptingref35_Next_r6]) (.skip))) (.seq (.seq (.ops [scriptingref35_Next_r7]) (.cond (.t 57) (.ops [scriptingref35_Next_r8]) (.skip))) (.seq (.ops [scriptingref35_Next_r9]) (.ret)))))))
theorem scriptingref35_Next_ok : compF Tryd.prog 25 = some (63, scriptingref35_Next_c, [.t 4]) := by kernel_rfl

@[go_sem] def scriptingref35_defines_r0 : List AI := [
  ⟨(some 4), none, .box 260004 11 (.t 0)⟩,
  ⟨(some 8), none, .mov (.c .nils)⟩]
@[go_sem] def scriptingref35_defines_r1 : List AI := [
  ⟨(some 13), none, .faddr 5 (.t 4)⟩,
  ⟨(some 14), none, .load 1 false (.t 13)⟩,
  ⟨(some 15), none, .mov (.t 1)⟩,
  ⟨(some 16), none, .iaddr 5 (.t 14) (.t 15)⟩,
  ⟨(some 17), none, .load 5 true (.t 16)⟩,
  ⟨(some 9), none, .box 260009 5 (.c (.agg [(.int .i64 0), (.int .i64 0), (.int .i64 0), (.int .i64 0), (.int .i64 0)]))⟩,
  ⟨none, none, .store 5 (.t 9) (.t 17)⟩]
@[go_sem] def scriptingref35_defines_r2 : List AI := [
  ⟨(some 18), none, .mov (.t 2)⟩,
  ⟨(some 19), none, .faddr 2 (.t 9)⟩,
  ⟨(some 20), none, .load 1 false (.t 19)⟩,
  ⟨(some 21), none, .bin .eql (.t 18) (.t 20)⟩,
  ⟨(some 22), none, .mov (.t 21)⟩,
  ⟨(some 23), (some (22, true)), .mov (.t 2)⟩,
  ⟨(some 24), (some (22, true)), .mov (.t 1)⟩,
  ⟨(some 25), (some (22, true)), .bin .add (.t 24) (.c (.int .i64 1))⟩,
  ⟨(some 26), (some (22, true)), .bin .neq (.t 23) (.t 25)⟩,
  ⟨(some 27), none, .pick (.t 22) (.t 26) (.c (.bool false))⟩,
  ⟨(some 10), none, .mov (.t 27)⟩]
@[go_sem] def scriptingref35_defines_r3 : List AI := [
  ⟨(some 28), none, .faddr 0 (.t 9)⟩,
  ⟨(some 29), none, .load 1 false (.t 28)⟩,
  ⟨(some 30), none, .bin .eql (.t 29) (.c (.int .i64 24))⟩,
  ⟨(some 31), none, .mov (.t 30)⟩,
  ⟨(some 32), (some (31, false)), .faddr 0 (.t 9)⟩,
  ⟨(some 33), (some (31, false)), .load 1 false (.t 32)⟩,
  ⟨(some 34), (some (31, false)), .bin .eql (.t 33) (.c (.int .i64 26))⟩,
  ⟨(some 35), none, .pick (.t 31) (.c (.bool true)) (.t 34)⟩,
  ⟨(some 36), none, .mov (.t 35)⟩,
  ⟨(some 37), (some (36, true)), .mov (.t 10)⟩,
  ⟨(some 38), (some (36, true)), .un .not (.t 37)⟩,
  ⟨(some 39), none, .pick (.t 36) (.t 38) (.c (.bool false))⟩,
  ⟨(some 40), none, .mov (.t 39)⟩,
  ⟨(some 41), (some (40, false)), .faddr 0 (.t 9)⟩,
  ⟨(some 42), (some (40, false)), .load 1 false (.t 41)⟩,
  ⟨(some 43), (some (40, false)), .bin .eql (.t 42) (.c (.int .i64 23))⟩,
  ⟨(some 44), (some (40, false)), .mov (.t 43)⟩,
  ⟨(some 45), (some (44, true)), .mov (.t 2)⟩,
  ⟨(some 46), (some (44, true)), .faddr 2 (.t 9)⟩,
  ⟨(some 47), (some (44, true)), .load 1 false (.t 46)⟩,
  ⟨(some 48), (some (44, true)), .bin .eql (.t 45) (.t 47)⟩,
  ⟨(some 49), (some (40, false)), .pick (.t 44) (.t 48) (.c (.bool false))⟩,
  ⟨(some 50), none, .pick (.t 40) (.c (.bool true)) (.t 49)⟩]
@[go_sem] def scriptingref35_defines_r4 : List AI := [
  ⟨(some 51), none, .mov (.t 3)⟩,
  ⟨(some 52), none, .mksl 260052 [(.bool false)] (.t 51)⟩,
  ⟨(some 8), none, .mov (.t 52)⟩]
@[go_sem] def scriptingref35_defines_r5 : List AI := [
  ⟨(some 54), none, .load 5 true (.t 9)⟩,
  ⟨(some 55), none, .call 43 [(.t 54)]⟩,
  ⟨(some 53), none, .mov (.t 55)⟩,
  ⟨(some 56), none, .ext 0 (.t 53)⟩,
  ⟨(some 57), none, .ext 1 (.t 53)⟩,
  ⟨(some 11), none, .mov (.t 56)⟩,
  ⟨(some 12), none, .mov (.t 57)⟩]
@[go_sem] def scriptingref35_defines_r6 : List AI := [
  ⟨(some 58), none, .mov (.t 3)⟩,
  ⟨(some 59), none, .mov (.t 11)⟩,
  ⟨(some 60), none, .mov (.t 12)⟩,
  ⟨(some 61), none, .call 39 [(.t 58), (.t 59), (.t 60)]⟩,
  ⟨(some 8), none, .mov (.t 61)⟩]
@[go_sem] def scriptingref35_defines_c : AC := .seq (.ops [scriptingref35_defines_r0]) (.seq (.ops [scriptingref35_defines_r1]) (.seq (.ops [scriptingref35_defines_r2]) (.seq (.seq (.ops [scriptingref35_defines_r3]) (.cond (.t 50) (.seq (.ops [scriptingref35_defines_r4]) (.ret)) (.skip))) (.seq (.ops [scriptingref35_defines_r5]) (.seq (.ops [scriptingref35_defines_r6]) (.ret))))))
theorem scriptingref35_defines_ok : compF Tryd.prog 26 = some (62, scriptingref35_defines_c, [.t 8]) := by kernel_rfl

@[go_sem] def opcode_Target_r0 : List AI := [
  ⟨(some 1), none, .box 270001 5 (.t 0)⟩,
  ⟨(some 2), none, .mov (.c (.int .i64 0))⟩,
  ⟨(some 3), none, .mov (.c (.bool false))⟩]
@[go_sem] def opcode_Target_r1 : List AI := [
  ⟨(some 4), none, .faddr 0 (.t 1)⟩,
  ⟨(some 5), none, .load 1 false (.t 4)⟩]
@[go_sem] def opcode_Target_r2 : List AI := [
  ⟨(some 7), none, .bin .eql (.t 5) (.c (.int .i64 14))⟩,
  ⟨(some 6), none, .mov (.t 7)⟩]
@[go_sem] def opcode_Target_r3 : List AI := [
  ⟨(some 8), none, .bin .eql (.t 5) (.c (.int .i64 15))⟩,
  ⟨(some 6), none, .mov (.t 8)⟩]
@[go_sem] def opcode_Target_r4 : List AI := [
  ⟨(some 9), none, .bin .eql (.t 5) (.c (.int .i64 23))⟩,
  ⟨(some 6), none, .mov (.t 9)⟩]
@[go_sem] def opcode_Target_r5 : List AI := [
  ⟨(some 10), none, .bin .eql (.t 5) (.c (.int .i64 24))⟩,
  ⟨(some 6), none, .mov (.t 10)⟩]
@[go_sem] def opcode_Target_r6 : List AI := [
  ⟨(some 11), none, .bin .eql (.t 5) (.c (.int .i64 26))⟩,
  ⟨(some 6), none, .mov (.t 11)⟩]
@[go_sem] def opcode_Target_r7 : List AI := [
  ⟨(some 12), none, .faddr 2 (.t 1)⟩,
  ⟨(some 13), none, .load 1 false (.t 12)⟩,
  ⟨(some 2), none, .mov (.t 13)⟩,
  ⟨(some 3), none, .mov (.c (.bool true))⟩]
@[go_sem] def opcode_Target_r8 : List AI := [
  ⟨(some 2), none, .mov (.c (.int .i64 0))⟩,
  ⟨(some 3), none, .mov (.c (.bool false))⟩]
@[go_sem] def opcode_Target_c : AC := .seq (.ops [opcode_Target_r0]) (.seq (.seq (.ops [opcode_Target_r1]) (.block 0 (.seq (.seq (.ops [opcode_Target_r2]) (.cond (.t 6) (.skip) (.seq (.ops [opcode_Target_r3]) (.cond (.t 6) (.skip) (.seq (.ops [opcode_Target_r4]) (.cond (.t 6) (.skip) (.seq (.ops [opcode_Target_r5]) (.cond (.t 6) (.skip) (.ops [opcode_Target_r6]))))))))) (.cond (.t 6) (.seq (.ops [opcode_Target_r7]) (.ret)) (.skip))))) (.seq (.ops [opcode_Target_r8]) (.ret)))
theorem opcode_Target_ok : compF Tryd.prog 27 = some (14, opcode_Target_c, [.t 2, .t 3]) := by kernel_rfl

@[go_sem] def slices_Sort_int_int_r0 : List AI := [
  ⟨(some 3), none, .mov (.t 0)⟩,
  ⟨(some 4), none, .len 0 (.t 3)⟩,
  ⟨(some 2), none, .mov (.t 4)⟩]
@[go_sem] def slices_Sort_int_int_r1 : List AI := [
  ⟨(some 5), none, .mov (.t 0)⟩,
  ⟨(some 6), none, .mov (.t 2)⟩,
  ⟨(some 7), none, .mov (.t 2)⟩,
  ⟨(some 8), none, .conv .u64 (.t 7)⟩,
  ⟨(some 9), none, .call 45 [(.t 8)]⟩,
  ⟨(some 10), none, .call 44 [(.t 5), (.c (.int .i64 0)), (.t 6), (.t 9)]⟩]
@[go_sem] def slices_Sort_int_int_c : AC := .seq (.ops [slices_Sort_int_int_r0]) (.ops [slices_Sort_int_int_r1])
theorem slices_Sort_int_int_ok : compF Tryd.prog 28 = some (11, slices_Sort_int_int_c, []) := by kernel_rfl

@[go_sem] def slices_Compact_int_int_r0 : List AI := [
  ⟨(some 2), none, .mov (.c .nils)⟩]
@[go_sem] def slices_Compact_int_int_r1 : List AI := [
  ⟨(some 6), none, .mov (.t 0)⟩,
  ⟨(some 7), none, .len 0 (.t 6)⟩,
  ⟨(some 8), none, .bin .lss (.t 7) (.c (.int .i64 2))⟩]
@[go_sem] def slices_Compact_int_int_r2 : List AI := [
  ⟨(some 9), none, .mov (.t 0)⟩,
  ⟨(some 2), none, .mov (.t 9)⟩]
@[go_sem] def slices_Compact_int_int_r3 : List AI := [
  ⟨(some 3), none, .mov (.c (.int .i64 1))⟩]
@[go_sem] def slices_Compact_int_int_r4 : List AI := [
  ⟨(some 10), none, .mov (.t 3)⟩,
  ⟨(some 11), none, .mov (.t 0)⟩,
  ⟨(some 12), none, .len 0 (.t 11)⟩,
  ⟨(some 13), none, .bin .lss (.t 10) (.t 12)⟩]
@[go_sem] def slices_Compact_int_int_r5 : List AI := [
  ⟨(some 16), none, .mov (.t 0)⟩,
  ⟨(some 17), none, .mov (.t 3)⟩,
  ⟨(some 18), none, .iaddr 1 (.t 16) (.t 17)⟩,
  ⟨(some 19), none, .load 1 false (.t 18)⟩,
  ⟨(some 20), none, .mov (.t 0)⟩,
  ⟨(some 21), none, .mov (.t 3)⟩,
  ⟨(some 22), none, .bin .sub (.t 21) (.c (.int .i64 1))⟩,
  ⟨(some 23), none, .iaddr 1 (.t 20) (.t 22)⟩,
  ⟨(some 24), none, .load 1 false (.t 23)⟩,
  ⟨(some 25), none, .bin .eql (.t 19) (.t 24)⟩]
@[go_sem] def slices_Compact_int_int_r6 : List AI := [
  ⟨(some 26), none, .mov (.t 0)⟩,
  ⟨(some 27), none, .mov (.t 3)⟩,
  ⟨(some 28), none, .slc 1 (.t 26) (some (.t 27)) none⟩,
  ⟨(some 4), none, .mov (.t 28)⟩]
@[go_sem] def slices_Compact_int_int_r7 : List AI := [
  ⟨(some 5), none, .mov (.c (.int .i64 1))⟩]
@[go_sem] def slices_Compact_int_int_r8 : List AI := [
  ⟨(some 29), none, .mov (.t 5)⟩,
  ⟨(some 30), none, .mov (.t 4)⟩,
  ⟨(some 31), none, .len 0 (.t 30)⟩,
  ⟨(some 32), none, .bin .lss (.t 29) (.t 31)⟩]
@[go_sem] def slices_Compact_int_int_r9 : List AI := [
  ⟨(some 35), none, .mov (.t 4)⟩,
  ⟨(some 36), none, .mov (.t 5)⟩,
  ⟨(some 37), none, .iaddr 1 (.t 35) (.t 36)⟩,
  ⟨(some 38), none, .load 1 false (.t 37)⟩,
  ⟨(some 39), none, .mov (.t 4)⟩,
  ⟨(some 40), none, .mov (.t 5)⟩,
  ⟨(some 41), none, .bin .sub (.t 40) (.c (.int .i64 1))⟩,
  ⟨(some 42), none, .iaddr 1 (.t 39) (.t 41)⟩,
  ⟨(some 43), none, .load 1 false (.t 42)⟩,
  ⟨(some 44), none, .bin .neq (.t 38) (.t 43)⟩]
@[go_sem] def slices_Compact_int_int_r10 : List AI := [
  ⟨(some 45), none, .mov (.t 0)⟩,
  ⟨(some 46), none, .mov (.t 3)⟩,
  ⟨(some 47), none, .mov (.t 4)⟩,
  ⟨(some 48), none, .mov (.t 5)⟩,
  ⟨(some 49), none, .iaddr 1 (.t 47) (.t 48)⟩,
  ⟨(some 50), none, .load 1 false (.t 49)⟩,
  ⟨(some 51), none, .iaddr 1 (.t 45) (.t 46)⟩,
  ⟨none, none, .store 1 (.t 51) (.t 50)⟩]
@[go_sem] def slices_Compact_int_int_r11 : List AI := [
  ⟨(some 52), none, .mov (.t 3)⟩,
  ⟨(some 53), none, .bin .add (.t 52) (.c (.int .i64 1))⟩,
  ⟨(some 3), none, .mov (.t 53)⟩]
@[go_sem] def slices_Compact_int_int_r12 : List AI := [
  ⟨(some 33), none, .mov (.t 5)⟩,
  ⟨(some 34), none, .bin .add (.t 33) (.c (.int .i64 1))⟩,
  ⟨(some 5), none, .mov (.t 34)⟩]
def slices_Compact_int_int_l1 : AC := .seq (.seq (.ops [slices_Compact_int_int_r8]) (.cond (.t 32) (.skip) (.exit 2))) (.seq (.block 3 (.seq (.ops [slices_Compact_int_int_r9]) (.cond (.t 44) (.seq (.ops [slices_Compact_int_int_r10]) (.ops [slices_Compact_int_int_r11])) (.skip)))) (.ops [slices_Compact_int_int_r12]))
theorem slices_Compact_int_int_l1_eq : slices_Compact_int_int_l1 = .seq (.seq (.ops [slices_Compact_int_int_r8]) (.cond (.t 32) (.skip) (.exit 2))) (.seq (.block 3 (.seq (.ops [slices_Compact_int_int_r9]) (.cond (.t 44) (.seq (.ops [slices_Compact_int_int_r10]) (.ops [slices_Compact_int_int_r11])) (.skip)))) (.ops [slices_Compact_int_int_r12])) := rfl
@[go_sem] def slices_Compact_int_int_r13 : List AI := [
  ⟨(some 54), none, .mov (.t 0)⟩,
  ⟨(some 55), none, .mov (.t 3)⟩,
  ⟨(some 56), none, .slc 1 (.t 54) (some (.t 55)) none⟩,
  ⟨none, none, .clr [(.int .i64 0)] (.t 56)⟩]
@[go_sem] def slices_Compact_int_int_r14 : List AI := [
  ⟨(some 57), none, .mov (.t 0)⟩,
  ⟨(some 58), none, .mov (.t 3)⟩,
  ⟨(some 59), none, .slc 1 (.t 57) none (some (.t 58))⟩,
  ⟨(some 2), none, .mov (.t 59)⟩]
@[go_sem] def slices_Compact_int_int_r15 : List AI := [
  ⟨(some 14), none, .mov (.t 3)⟩,
  ⟨(some 15), none, .bin .add (.t 14) (.c (.int .i64 1))⟩,
  ⟨(some 3), none, .mov (.t 15)⟩]
def slices_Compact_int_int_l0 : AC := .seq (.seq (.ops [slices_Compact_int_int_r4]) (.cond (.t 13) (.skip) (.exit 0))) (.seq (.block 1 (.seq (.ops [slices_Compact_int_int_r5]) (.cond (.t 25) (.seq (.ops [slices_Compact_int_int_r6]) (.seq (.seq (.ops [slices_Compact_int_int_r7]) (.block 2 (.loop slices_Compact_int_int_l1))) (.seq (.ops [slices_Compact_int_int_r13]) (.seq (.ops [slices_Compact_int_int_r14]) (.ret))))) (.skip)))) (.ops [slices_Compact_int_int_r15]))
theorem slices_Compact_int_int_l0_eq : slices_Compact_int_int_l0 = .seq (.seq (.ops [slices_Compact_int_int_r4]) (.cond (.t 13) (.skip) (.exit 0))) (.seq (.block 1 (.seq (.ops [slices_Compact_int_int_r5]) (.cond (.t 25) (.seq (.ops [slices_Compact_int_int_r6]) (.seq (.seq (.ops [slices_Compact_int_int_r7]) (.block 2 (.loop slices_Compact_int_int_l1))) (.seq (.ops [slices_Compact_int_int_r13]) (.seq (.ops [slices_Compact_int_int_r14]) (.ret))))) (.skip)))) (.ops [slices_Compact_int_int_r15])) := rfl
@[go_sem] def slices_Compact_int_int_r16 : List AI := [
  ⟨(some 60), none, .mov (.t 0)⟩,
  ⟨(some 2), none, .mov (.t 60)⟩]
@[go_sem] def slices_Compact_int_int_c : AC := .seq (.ops [slices_Compact_int_int_r0]) (.seq (.seq (.ops [slices_Compact_int_int_r1]) (.cond (.t 8) (.seq (.ops [slices_Compact_int_int_r2]) (.ret)) (.skip))) (.seq (.seq (.ops [slices_Compact_int_int_r3]) (.block 0 (.loop slices_Compact_int_int_l0))) (.seq (.ops [slices_Compact_int_int_r16]) (.ret))))
theorem slices_Compact_int_int_ok : compF Tryd.prog 29 = some (61, slices_Compact_int_int_c, [.t 2]) := by kernel_rfl

@[go_sem] def opcode_Check_r0 : List AI := [
  ⟨(some 1), none, .box 300001 5 (.t 0)⟩,
  ⟨(some 2), none, .mov (.c (.int .i64 0))⟩]
@[go_sem] def opcode_Check_r1 : List AI := [
  ⟨(some 14), none, .faddr 0 (.t 1)⟩,
  ⟨(some 15), none, .load 1 false (.t 14)⟩,
  ⟨(some 16), none, .call 46 [(.t 15)]⟩,
  ⟨(some 13), none, .mov (.t 16)⟩,
  ⟨(some 17), none, .ext 0 (.t 13)⟩,
  ⟨(some 18), none, .ext 1 (.t 13)⟩,
  ⟨(some 3), none, .box 300003 6 (.c (.agg [(.str []), (.int .i64 0), (.int .i64 0), (.int .i64 0), (.int .i64 0), (.int .i64 0)]))⟩,
  ⟨none, none, .store 6 (.t 3) (.t 17)⟩,
  ⟨(some 4), none, .mov (.t 18)⟩]
@[go_sem] def opcode_Check_r2 : List AI := [
  ⟨(some 19), none, .mov (.t 4)⟩,
  ⟨(some 20), none, .un .not (.t 19)⟩]
@[go_sem] def opcode_Check_r3 : List AI := [
  ⟨(some 2), none, .mov (.c (.int .i64 4))⟩]
@[go_sem] def opcode_Check_r4 : List AI := [
  ⟨(some 22), none, .load 6 true (.t 3)⟩,
  ⟨(some 23), none, .load 5 true (.t 1)⟩,
  ⟨(some 24), none, .call 47 [(.t 22), (.t 23)]⟩,
  ⟨(some 21), none, .mov (.t 24)⟩,
  ⟨(some 25), none, .ext 0 (.t 21)⟩,
  ⟨(some 26), none, .ext 1 (.t 21)⟩,
  ⟨(some 5), none, .box 300005 4 (.c (.agg [(.int .i64 0), (.int .i64 0), (.int .i64 0), (.int .i64 0)]))⟩,
  ⟨(some 6), none, .box 300006 4 (.c (.agg [(.int .i64 0), (.int .i64 0), (.int .i64 0), (.int .i64 0)]))⟩,
  ⟨none, none, .store 4 (.t 5) (.t 25)⟩,
  ⟨none, none, .store 4 (.t 6) (.t 26)⟩]
@[go_sem] def opcode_Check_r5 : List AI := [
  ⟨(some 27), none, .load 4 true (.t 5)⟩,
  ⟨(some 28), none, .mov (.c (.int .i64 0))⟩]
@[go_sem] def opcode_Check_r6 : List AI := [
  ⟨(some 29), none, .bin .lss (.t 28) (.c (.int .i64 4))⟩]
@[go_sem] def opcode_Check_r7 : List AI := [
  ⟨(some 30), none, .mov (.t 28)⟩,
  ⟨(some 31), none, .idxA 4 1 1 false (.t 27) (.t 28)⟩,
  ⟨(some 7), none, .mov (.t 30)⟩,
  ⟨(some 8), none, .mov (.t 31)⟩]
@[go_sem] def opcode_Check_r8 : List AI := [
  ⟨(some 32), none, .mov (.t 8)⟩,
  ⟨(some 33), none, .bin .eql (.t 32) (.c (.int .i64 0))⟩,
  ⟨(some 34), none, .mov (.t 33)⟩,
  ⟨(some 35), (some (34, true)), .mov (.t 7)⟩,
  ⟨(some 36), (some (34, true)), .iaddrA 4 1 (.t 6) (.t 35)⟩,
  ⟨(some 37), (some (34, true)), .load 1 false (.t 36)⟩,
  ⟨(some 38), (some (34, true)), .bin .neq (.t 37) (.c (.int .i64 0))⟩,
  ⟨(some 39), none, .pick (.t 34) (.t 38) (.c (.bool false))⟩]
@[go_sem] def opcode_Check_r9 : List AI := [
  ⟨(some 2), none, .mov (.c (.int .i64 4))⟩]
@[go_sem] def opcode_Check_r10 : List AI := [
  ⟨(some 40), none, .bin .add (.t 28) (.c (.int .i64 1))⟩,
  ⟨(some 28), none, .mov (.t 40)⟩]
def opcode_Check_l0 : AC := .seq (.ops [opcode_Check_r6]) (.seq (.cond (.t 29) (.skip) (.exit 0)) (.seq (.block 1 (.seq (.ops [opcode_Check_r7]) (.seq (.ops [opcode_Check_r8]) (.cond (.t 39) (.seq (.ops [opcode_Check_r9]) (.ret)) (.skip))))) (.ops [opcode_Check_r10])))
theorem opcode_Check_l0_eq : opcode_Check_l0 = .seq (.ops [opcode_Check_r6]) (.seq (.cond (.t 29) (.skip) (.exit 0)) (.seq (.block 1 (.seq (.ops [opcode_Check_r7]) (.seq (.ops [opcode_Check_r8]) (.cond (.t 39) (.seq (.ops [opcode_Check_r9]) (.ret)) (.skip))))) (.ops [opcode_Check_r10]))) := rfl
@[go_sem] def opcode_Check_r11 : List AI := [
  ⟨(some 41), none, .load 4 true (.t 5)⟩,
  ⟨(some 42), none, .mov (.c (.int .i64 0))⟩]
@[go_sem] def opcode_Check_r12 : List AI := [
  ⟨(some 43), none, .bin .lss (.t 42) (.c (.int .i64 4))⟩]
@[go_sem] def opcode_Check_r13 : List AI := [
  ⟨(some 44), none, .mov (.t 42)⟩,
  ⟨(some 45), none, .idxA 4 1 1 false (.t 41) (.t 42)⟩,
  ⟨(some 9), none, .mov (.t 44)⟩,
  ⟨(some 10), none, .mov (.t 45)⟩]
@[go_sem] def opcode_Check_r14 : List AI := [
  ⟨(some 47), none, .mov (.t 10)⟩,
  ⟨(some 48), none, .call 48 [(.t 47)]⟩,
  ⟨(some 46), none, .mov (.t 48)⟩,
  ⟨(some 49), none, .ext 0 (.t 46)⟩,
  ⟨(some 50), none, .ext 1 (.t 46)⟩,
  ⟨(some 11), none, .mov (.t 49)⟩,
  ⟨(some 12), none, .mov (.t 50)⟩]
@[go_sem] def opcode_Check_r15 : List AI := [
  ⟨(some 51), none, .mov (.t 9)⟩,
  ⟨(some 52), none, .iaddrA 4 1 (.t 6) (.t 51)⟩,
  ⟨(some 53), none, .load 1 false (.t 52)⟩,
  ⟨(some 54), none, .mov (.t 11)⟩,
  ⟨(some 55), none, .bin .lss (.t 53) (.t 54)⟩,
  ⟨(some 56), none, .mov (.t 55)⟩,
  ⟨(some 57), (some (56, false)), .mov (.t 9)⟩,
  ⟨(some 58), (some (56, false)), .iaddrA 4 1 (.t 6) (.t 57)⟩,
  ⟨(some 59), (some (56, false)), .load 1 false (.t 58)⟩,
  ⟨(some 60), (some (56, false)), .mov (.t 12)⟩,
  ⟨(some 61), (some (56, false)), .bin .gtr (.t 59) (.t 60)⟩,
  ⟨(some 62), none, .pick (.t 56) (.c (.bool true)) (.t 61)⟩]
@[go_sem] def opcode_Check_r16 : List AI := [
  ⟨(some 2), none, .mov (.c (.int .i64 6))⟩]
@[go_sem] def opcode_Check_r17 : List AI := [
  ⟨(some 63), none, .bin .add (.t 42) (.c (.int .i64 1))⟩,
  ⟨(some 42), none, .mov (.t 63)⟩]
def opcode_Check_l1 : AC := .seq (.ops [opcode_Check_r12]) (.seq (.cond (.t 43) (.skip) (.exit 2)) (.seq (.block 3 (.seq (.ops [opcode_Check_r13]) (.seq (.ops [opcode_Check_r14]) (.seq (.ops [opcode_Check_r15]) (.cond (.t 62) (.seq (.ops [opcode_Check_r16]) (.ret)) (.skip)))))) (.ops [opcode_Check_r17])))
theorem opcode_Check_l1_eq : opcode_Check_l1 = .seq (.ops [opcode_Check_r12]) (.seq (.cond (.t 43) (.skip) (.exit 2)) (.seq (.block 3 (.seq (.ops [opcode_Check_r13]) (.seq (.ops [opcode_Check_r14]) (.seq (.ops [opcode_Check_r15]) (.cond (.t 62) (.seq (.ops [opcode_Check_r16]) (.ret)) (.skip)))))) (.ops [opcode_Check_r17]))) := rfl
@[go_sem] def opcode_Check_r18 : List AI := [
  ⟨(some 64), none, .faddr 1 (.t 3)⟩,
  ⟨(some 65), none, .load 1 false (.t 64)⟩,
  ⟨(some 66), none, .bin .eql (.t 65) (.c (.int .i64 1))⟩,
  ⟨(some 67), none, .mov (.t 66)⟩,
  ⟨(some 68), (some (67, true)), .load 6 true (.t 3)⟩,
  ⟨(some 69), (some (67, true)), .load 5 true (.t 1)⟩,
  ⟨(some 70), (some (67, true)), .call 49 [(.t 68), (.t 69)]⟩,
  ⟨(some 71), (some (67, true)), .bin .geq (.t 70) (.c (.int .i64 4096))⟩,
  ⟨(some 72), none, .pick (.t 67) (.t 71) (.c (.bool false))⟩,
  ⟨(some 73), none, .mov (.t 72)⟩,
  ⟨(some 74), (some (73, false)), .faddr 0 (.t 1)⟩,
  ⟨(some 75), (some (73, false)), .load 1 false (.t 74)⟩,
  ⟨(some 76), (some (73, false)), .bin .eql (.t 75) (.c (.int .i64 3))⟩,
  ⟨(some 77), (some (73, false)), .mov (.t 76)⟩,
  ⟨(some 78), (some (77, true)), .faddr 2 (.t 1)⟩,
  ⟨(some 79), (some (77, true)), .load 1 false (.t 78)⟩,
  ⟨(some 80), (some (77, true)), .faddr 1 (.t 1)⟩,
  ⟨(some 81), (some (77, true)), .load 1 false (.t 80)⟩,
  ⟨(some 82), (some (77, true)), .bin .lss (.t 79) (.t 81)⟩,
  ⟨(some 83), (some (73, false)), .pick (.t 77) (.t 82) (.c (.bool false))⟩,
  ⟨(some 84), none, .pick (.t 73) (.c (.bool true)) (.t 83)⟩]
@[go_sem] def opcode_Check_r19 : List AI := [
  ⟨(some 2), none, .mov (.c (.int .i64 6))⟩]
@[go_sem] def opcode_Check_r20 : List AI := [
  ⟨(some 2), none, .mov (.c (.int .i64 0))⟩]
@[go_sem] def opcode_Check_c : AC := .seq (.ops [opcode_Check_r0]) (.seq (.ops [opcode_Check_r1]) (.seq (.seq (.ops [opcode_Check_r2]) (.cond (.t 20) (.seq (.ops [opcode_Check_r3]) (.ret)) (.skip))) (.seq (.ops [opcode_Check_r4]) (.seq (.seq (.ops [opcode_Check_r5]) (.block 0 (.loop opcode_Check_l0))) (.seq (.seq (.ops [opcode_Check_r11]) (.block 2 (.loop opcode_Check_l1))) (.seq (.seq (.ops [opcode_Check_r18]) (.cond (.t 84) (.seq (.ops [opcode_Check_r19]) (.ret)) (.skip))) (.seq (.ops [opcode_Check_r20]) (.ret))))))))
theorem opcode_Check_ok : compF Tryd.prog 30 = some (85, opcode_Check_c, [.t 2]) := by kernel_rfl

@[go_sem] def opcode_sorted_r0 : List AI := [
  ⟨(some 2), none, .mov (.c .nils)⟩]
@[go_sem] def opcode_sorted_r1 : List AI := [
  ⟨(some 3), none, .mov (.t 0)⟩,
  ⟨(some 4), none, .call 28 [(.t 3)]⟩]
@[go_sem] def opcode_sorted_r2 : List AI := [
  ⟨(some 5), none, .mov (.t 0)⟩,
  ⟨(some 6), none, .call 29 [(.t 5)]⟩,
  ⟨(some 2), none, .mov (.t 6)⟩]
@[go_sem] def opcode_sorted_c : AC := .seq (.ops [opcode_sorted_r0]) (.seq (.ops [opcode_sorted_r1]) (.seq (.ops [opcode_sorted_r2]) (.ret)))
theorem opcode_sorted_ok : compF Tryd.prog 31 = some (7, opcode_sorted_c, [.t 2]) := by kernel_rfl

@[go_sem] def opcode_span_r0 : List AI := [
  ⟨(some 4), none, .mov (.c .nils)⟩,
  ⟨(some 5), none, .mov (.c (.int .i64 0))⟩]
@[go_sem] def opcode_span_r1 : List AI := [
  ⟨(some 8), none, .mov (.t 1)⟩,
  ⟨(some 9), none, .bin .lss (.t 8) (.c (.int .i64 0))⟩]
@[go_sem] def opcode_span_r2 : List AI := [
  ⟨(some 10), none, .mov (.t 0)⟩,
  ⟨(some 4), none, .mov (.c .nils)⟩,
  ⟨(some 5), none, .mov (.t 10)⟩]
@[go_sem] def opcode_span_r3 : List AI := [
  ⟨(some 6), none, .mov (.c .nils)⟩]
@[go_sem] def opcode_span_r4 : List AI := [
  ⟨(some 11), none, .mov (.t 1)⟩,
  ⟨(some 12), none, .mov (.c (.int .i64 0))⟩]
@[go_sem] def opcode_span_r5 : List AI := [
  ⟨(some 13), none, .bin .lss (.t 12) (.t 11)⟩]
@[go_sem] def opcode_span_r6 : List AI := [
  ⟨(some 14), none, .mov (.t 12)⟩,
  ⟨(some 7), none, .mov (.t 14)⟩]
@[go_sem] def opcode_span_r7 : List AI := [
  ⟨(some 15), none, .mov (.t 6)⟩,
  ⟨(some 16), none, .mov (.t 0)⟩,
  ⟨(some 17), none, .mov (.t 7)⟩,
  ⟨(some 18), none, .bin .add (.t 16) (.t 17)⟩,
  ⟨(some 19), none, .mkisl 1 [(.t 18)]⟩,
  ⟨(some 20), none, .app 320020 1 (.t 15) (.t 19)⟩,
  ⟨(some 6), none, .mov (.t 20)⟩]
@[go_sem] def opcode_span_r8 : List AI := [
  ⟨(some 21), none, .bin .add (.t 12) (.c (.int .i64 1))⟩,
  ⟨(some 12), none, .mov (.t 21)⟩]
def opcode_span_l0 : AC := .seq (.ops [opcode_span_r5]) (.seq (.cond (.t 13) (.skip) (.exit 0)) (.seq (.block 1 (.seq (.ops [opcode_span_r6]) (.ops [opcode_span_r7]))) (.ops [opcode_span_r8])))
theorem opcode_span_l0_eq : opcode_span_l0 = .seq (.ops [opcode_span_r5]) (.seq (.cond (.t 13) (.skip) (.exit 0)) (.seq (.block 1 (.seq (.ops [opcode_span_r6]) (.ops [opcode_span_r7]))) (.ops [opcode_span_r8]))) := rfl
@[go_sem] def opcode_span_r9 : List AI := [
  ⟨(some 22), none, .mov (.t 6)⟩,
  ⟨(some 4), none, .mov (.t 22)⟩,
  ⟨(some 5), none, .mov (.c (.int .i64 (-1)))⟩]
@[go_sem] def opcode_span_c : AC := .seq (.ops [opcode_span_r0]) (.seq (.seq (.ops [opcode_span_r1]) (.cond (.t 9) (.seq (.ops [opcode_span_r2]) (.ret)) (.skip))) (.seq (.ops [opcode_span_r3]) (.seq (.seq (.ops [opcode_span_r4]) (.block 0 (.loop opcode_span_l0))) (.seq (.ops [opcode_span_r9]) (.ret)))))
theorem opcode_span_ok : compF Tryd.prog 32 = some (23, opcode_span_c, [.t 4, .t 5]) := by kernel_rfl

@[go_sem] def opcode_Falls_r0 : List AI := [
  ⟨(some 1), none, .box 330001 5 (.t 0)⟩,
  ⟨(some 2), none, .mov (.c (.bool false))⟩]
@[go_sem] def opcode_Falls_r1 : List AI := [
  ⟨(some 3), none, .faddr 0 (.t 1)⟩,
  ⟨(some 4), none, .load 1 false (.t 3)⟩,
  ⟨(some 5), none, .bin .neq (.t 4) (.c (.int .i64 14))⟩,
  ⟨(some 6), none, .mov (.t 5)⟩,
  ⟨(some 7), (some (6, true)), .faddr 0 (.t 1)⟩,
  ⟨(some 8), (some (6, true)), .load 1 false (.t 7)⟩,
  ⟨(some 9), (some (6, true)), .bin .neq (.t 8) (.c (.int .i64 17))⟩,
  ⟨(some 10), none, .pick (.t 6) (.t 9) (.c (.bool false))⟩,
  ⟨(some 11), none, .mov (.t 10)⟩,
  ⟨(some 12), (some (11, true)), .faddr 0 (.t 1)⟩,
  ⟨(some 13), (some (11, true)), .load 1 false (.t 12)⟩,
  ⟨(some 14), (some (11, true)), .bin .neq (.t 13) (.c (.int .i64 18))⟩,
  ⟨(some 15), none, .pick (.t 11) (.t 14) (.c (.bool false))⟩,
  ⟨(some 2), none, .mov (.t 15)⟩]
@[go_sem] def opcode_Falls_c : AC := .seq (.ops [opcode_Falls_r0]) (.seq (.ops [opcode_Falls_r1]) (.ret))
theorem opcode_Falls_ok : compF Tryd.prog 33 = some (16, opcode_Falls_c, [.t 2]) := by kernel_rfl

@[go_sem] def opcode_Writes_r0 : List AI := [
  ⟨(some 1), none, .box 340001 5 (.t 0)⟩,
  ⟨(some 2), none, .mov (.c .nils)⟩,
  ⟨(some 3), none, .mov (.c (.int .i64 0))⟩]
@[go_sem] def opcode_Writes_r1 : List AI := [
  ⟨(some 4), none, .load 5 true (.t 1)⟩,
  ⟨(some 5), none, .call 30 [(.t 4)]⟩,
  ⟨(some 6), none, .bin .neq (.t 5) (.c (.int .i64 0))⟩]
@[go_sem] def opcode_Writes_r2 : List AI := [
  ⟨(some 2), none, .mov (.c .nils)⟩,
  ⟨(some 3), none, .mov (.c (.int .i64 (-1)))⟩]
@[go_sem] def opcode_Writes_r3 : List AI := [
  ⟨(some 7), none, .faddr 0 (.t 1)⟩,
  ⟨(some 8), none, .load 1 false (.t 7)⟩]
@[go_sem] def opcode_Writes_r4 : List AI := [
  ⟨(some 10), none, .bin .eql (.t 8) (.c (.int .i64 1))⟩,
  ⟨(some 9), none, .mov (.t 10)⟩]
@[go_sem] def opcode_Writes_r5 : List AI := [
  ⟨(some 11), none, .bin .eql (.t 8) (.c (.int .i64 2))⟩,
  ⟨(some 9), none, .mov (.t 11)⟩]
@[go_sem] def opcode_Writes_r6 : List AI := [
  ⟨(some 12), none, .bin .eql (.t 8) (.c (.int .i64 4))⟩,
  ⟨(some 9), none, .mov (.t 12)⟩]
@[go_sem] def opcode_Writes_r7 : List AI := [
  ⟨(some 13), none, .bin .eql (.t 8) (.c (.int .i64 5))⟩,
  ⟨(some 9), none, .mov (.t 13)⟩]
@[go_sem] def opcode_Writes_r8 : List AI := [
  ⟨(some 14), none, .bin .eql (.t 8) (.c (.int .i64 7))⟩,
  ⟨(some 9), none, .mov (.t 14)⟩]
@[go_sem] def opcode_Writes_r9 : List AI := [
  ⟨(some 15), none, .bin .eql (.t 8) (.c (.int .i64 9))⟩,
  ⟨(some 9), none, .mov (.t 15)⟩]
@[go_sem] def opcode_Writes_r10 : List AI := [
  ⟨(some 16), none, .bin .eql (.t 8) (.c (.int .i64 12))⟩,
  ⟨(some 9), none, .mov (.t 16)⟩]
@[go_sem] def opcode_Writes_r11 : List AI := [
  ⟨(some 17), none, .bin .eql (.t 8) (.c (.int .i64 13))⟩,
  ⟨(some 9), none, .mov (.t 17)⟩]
@[go_sem] def opcode_Writes_r12 : List AI := [
  ⟨(some 18), none, .bin .eql (.t 8) (.c (.int .i64 20))⟩,
  ⟨(some 9), none, .mov (.t 18)⟩]
@[go_sem] def opcode_Writes_r13 : List AI := [
  ⟨(some 19), none, .bin .eql (.t 8) (.c (.int .i64 22))⟩,
  ⟨(some 9), none, .mov (.t 19)⟩]
@[go_sem] def opcode_Writes_r14 : List AI := [
  ⟨(some 20), none, .faddr 1 (.t 1)⟩,
  ⟨(some 21), none, .load 1 false (.t 20)⟩,
  ⟨(some 22), none, .mkrow 340022 1 [(.t 21)]⟩,
  ⟨(some 2), none, .mov (.t 22)⟩,
  ⟨(some 3), none, .mov (.c (.int .i64 (-1)))⟩]
@[go_sem] def opcode_Writes_r15 : List AI := [
  ⟨(some 24), none, .bin .eql (.t 8) (.c (.int .i64 3))⟩,
  ⟨(some 23), none, .mov (.t 24)⟩]
@[go_sem] def opcode_Writes_r16 : List AI := [
  ⟨(some 25), none, .faddr 1 (.t 1)⟩,
  ⟨(some 26), none, .load 1 false (.t 25)⟩,
  ⟨(some 27), none, .faddr 2 (.t 1)⟩,
  ⟨(some 28), none, .load 1 false (.t 27)⟩,
  ⟨(some 29), none, .faddr 1 (.t 1)⟩,
  ⟨(some 30), none, .load 1 false (.t 29)⟩,
  ⟨(some 31), none, .bin .sub (.t 28) (.t 30)⟩,
  ⟨(some 32), none, .bin .add (.t 31) (.c (.int .i64 1))⟩,
  ⟨(some 33), none, .call 32 [(.t 26), (.t 32)]⟩,
  ⟨(some 34), none, .ext 0 (.t 33)⟩,
  ⟨(some 35), none, .ext 1 (.t 33)⟩,
  ⟨(some 2), none, .mov (.t 34)⟩,
  ⟨(some 3), none, .mov (.t 35)⟩]
@[go_sem] def opcode_Writes_r17 : List AI := [
  ⟨(some 37), none, .bin .eql (.t 8) (.c (.int .i64 11))⟩,
  ⟨(some 36), none, .mov (.t 37)⟩]
@[go_sem] def opcode_Writes_r18 : List AI := [
  ⟨(some 38), none, .faddr 1 (.t 1)⟩,
  ⟨(some 39), none, .load 1 false (.t 38)⟩,
  ⟨(some 40), none, .faddr 1 (.t 1)⟩,
  ⟨(some 41), none, .load 1 false (.t 40)⟩,
  ⟨(some 42), none, .bin .add (.t 41) (.c (.int .i64 1))⟩,
  ⟨(some 43), none, .mkrow 340043 1 [(.t 39), (.t 42)]⟩,
  ⟨(some 2), none, .mov (.t 43)⟩,
  ⟨(some 3), none, .mov (.c (.int .i64 (-1)))⟩]
@[go_sem] def opcode_Writes_r19 : List AI := [
  ⟨(some 45), none, .bin .eql (.t 8) (.c (.int .i64 16))⟩,
  ⟨(some 44), none, .mov (.t 45)⟩]
@[go_sem] def opcode_Writes_r20 : List AI := [
  ⟨(some 46), none, .faddr 1 (.t 1)⟩,
  ⟨(some 47), none, .load 1 false (.t 46)⟩,
  ⟨(some 48), none, .faddr 3 (.t 1)⟩,
  ⟨(some 49), none, .load 1 false (.t 48)⟩,
  ⟨(some 50), none, .call 32 [(.t 47), (.t 49)]⟩,
  ⟨(some 51), none, .ext 0 (.t 50)⟩,
  ⟨(some 52), none, .ext 1 (.t 50)⟩,
  ⟨(some 2), none, .mov (.t 51)⟩,
  ⟨(some 3), none, .mov (.t 52)⟩]
@[go_sem] def opcode_Writes_r21 : List AI := [
  ⟨(some 54), none, .bin .eql (.t 8) (.c (.int .i64 19))⟩,
  ⟨(some 53), none, .mov (.t 54)⟩]
@[go_sem] def opcode_Writes_r22 : List AI := [
  ⟨(some 55), none, .faddr 1 (.t 1)⟩,
  ⟨(some 56), none, .load 1 false (.t 55)⟩,
  ⟨(some 57), none, .faddr 2 (.t 1)⟩,
  ⟨(some 58), none, .load 1 false (.t 57)⟩,
  ⟨(some 59), none, .call 32 [(.t 56), (.t 58)]⟩,
  ⟨(some 60), none, .ext 0 (.t 59)⟩,
  ⟨(some 61), none, .ext 1 (.t 59)⟩,
  ⟨(some 2), none, .mov (.t 60)⟩,
  ⟨(some 3), none, .mov (.t 61)⟩]
@[go_sem] def opcode_Writes_r23 : List AI := [
  ⟨(some 63), none, .bin .eql (.t 8) (.c (.int .i64 23))⟩,
  ⟨(some 62), none, .mov (.t 63)⟩]
@[go_sem] def opcode_Writes_r24 : List AI := [
  ⟨(some 64), none, .faddr 1 (.t 1)⟩,
  ⟨(some 65), none, .load 1 false (.t 64)⟩,
  ⟨(some 66), none, .bin .add (.t 65) (.c (.int .i64 3))⟩,
  ⟨(some 67), none, .mkrow 340067 1 [(.t 66)]⟩,
  ⟨(some 2), none, .mov (.t 67)⟩,
  ⟨(some 3), none, .mov (.c (.int .i64 (-1)))⟩]
@[go_sem] def opcode_Writes_r25 : List AI := [
  ⟨(some 69), none, .bin .eql (.t 8) (.c (.int .i64 24))⟩,
  ⟨(some 68), none, .mov (.t 69)⟩]
@[go_sem] def opcode_Writes_r26 : List AI := [
  ⟨(some 70), none, .faddr 1 (.t 1)⟩,
  ⟨(some 71), none, .load 1 false (.t 70)⟩,
  ⟨(some 72), none, .faddr 1 (.t 1)⟩,
  ⟨(some 73), none, .load 1 false (.t 72)⟩,
  ⟨(some 74), none, .bin .add (.t 73) (.c (.int .i64 3))⟩,
  ⟨(some 75), none, .mkrow 340075 1 [(.t 71), (.t 74)]⟩,
  ⟨(some 2), none, .mov (.t 75)⟩,
  ⟨(some 3), none, .mov (.c (.int .i64 (-1)))⟩]
@[go_sem] def opcode_Writes_r27 : List AI := [
  ⟨(some 77), none, .bin .eql (.t 8) (.c (.int .i64 25))⟩,
  ⟨(some 76), none, .mov (.t 77)⟩]
@[go_sem] def opcode_Writes_r28 : List AI := [
  ⟨(some 78), none, .faddr 1 (.t 1)⟩,
  ⟨(some 79), none, .load 1 false (.t 78)⟩,
  ⟨(some 80), none, .bin .add (.t 79) (.c (.int .i64 3))⟩,
  ⟨(some 81), none, .faddr 3 (.t 1)⟩,
  ⟨(some 82), none, .load 1 false (.t 81)⟩,
  ⟨(some 83), none, .call 32 [(.t 80), (.t 82)]⟩,
  ⟨(some 84), none, .ext 0 (.t 83)⟩,
  ⟨(some 85), none, .ext 1 (.t 83)⟩,
  ⟨(some 2), none, .mov (.t 84)⟩,
  ⟨(some 3), none, .mov (.t 85)⟩]
@[go_sem] def opcode_Writes_r29 : List AI := [
  ⟨(some 87), none, .bin .eql (.t 8) (.c (.int .i64 26))⟩,
  ⟨(some 86), none, .mov (.t 87)⟩]
@[go_sem] def opcode_Writes_r30 : List AI := [
  ⟨(some 88), none, .faddr 1 (.t 1)⟩,
  ⟨(some 89), none, .load 1 false (.t 88)⟩,
  ⟨(some 90), none, .bin .add (.t 89) (.c (.int .i64 2))⟩,
  ⟨(some 91), none, .mkrow 340091 1 [(.t 90)]⟩,
  ⟨(some 2), none, .mov (.t 91)⟩,
  ⟨(some 3), none, .mov (.c (.int .i64 (-1)))⟩]
@[go_sem] def opcode_Writes_r31 : List AI := [
  ⟨(some 2), none, .mov (.c .nils)⟩,
  ⟨(some 3), none, .mov (.c (.int .i64 (-1)))⟩]
@[go_sem] def opcode_Writes_c : AC := .seq (.ops [opcode_Writes_r0]) (.seq (.seq (.ops [opcode_Writes_r1]) (.cond (.t 6) (.seq (.ops [opcode_Writes_r2]) (.ret)) (.skip))) (.seq (.seq (.ops [opcode_Writes_r3]) (.block 0 (.seq (.seq (.ops [opcode_Writes_r4]) (.cond (.t 9) (.skip) (.seq (.ops [opcode_Writes_r5]) (.cond (.t 9) (.skip) (.seq (.ops [opcode_Writes_r6]) (.cond (.t 9) (.skip) (.seq (.ops [opcode_Writes_r7]) (.cond (.t 9) (.skip) (.seq (.ops [opcode_Writes_r8]) (.cond (.t 9) (.skip) (.seq (.ops [opcode_Writes_r9]) (.cond (.t 9) (.skip) (.seq (.ops [opcode_Writes_r10]) (.cond (.t 9) (.skip) (.seq (.ops [opcode_Writes_r11]) (.cond (.t 9) (.skip) (.seq (.ops [opcode_Writes_r12]) (.cond (.t 9) (.skip) (.ops [opcode_Writes_r13]))))))))))))))))))) (.cond (.t 9) (.seq (.ops [opcode_Writes_r14]) (.ret)) (.seq (.ops [opcode_Writes_r15]) (.cond (.t 23) (.seq (.ops [opcode_Writes_r16]) (.ret)) (.seq (.ops [opcode_Writes_r17]) (.cond (.t 36) (.seq (.ops [opcode_Writes_r18]) (.ret)) (.seq (.ops [opcode_Writes_r19]) (.cond (.t 44) (.seq (.ops [opcode_Writes_r20]) (.ret)) (.seq (.ops [opcode_Writes_r21]) (.cond (.t 53) (.seq (.ops [opcode_Writes_r22]) (.ret)) (.seq (.ops [opcode_Writes_r23]) (.cond (.t 62) (.seq (.ops [opcode_Writes_r24]) (.ret)) (.seq (.ops [opcode_Writes_r25]) (.cond (.t 68) (.seq (.ops [opcode_Writes_r26]) (.ret)) (.seq (.ops [opcode_Writes_r27]) (.cond (.t 76) (.seq (.ops [opcode_Writes_r28]) (.ret)) (.seq (.ops [opcode_Writes_r29]) (.cond (.t 86) (.seq (.ops [opcode_Writes_r30]) (.ret)) (.skip))))))))))))))))))))) (.seq (.ops [opcode_Writes_r31]) (.ret))))
theorem opcode_Writes_ok : compF Tryd.prog 34 = some (92, opcode_Writes_c, [.t 2, .t 3]) := by kernel_rfl

@[go_sem] def scriptingref32_Check_r0 : List AI := [
  ⟨(some 1), none, .box 350001 5 (.t 0)⟩,
  ⟨(some 2), none, .mov (.c (.int .i64 0))⟩]
@[go_sem] def scriptingref32_Check_r1 : List AI := [
  ⟨(some 7), none, .faddr 0 (.t 1)⟩,
  ⟨(some 8), none, .load 1 false (.t 7)⟩,
  ⟨(some 9), none, .call 50 [(.t 8)]⟩,
  ⟨(some 3), none, .box 350003 13 (.c (.agg [(.str []), (.bool false), (.bool false), (.bool false), (.bool false), (.int .i64 0), (.int .i64 0), (.int .i64 0), (.int .i64 0), (.int .i64 0), (.int .i64 0), (.int .i64 0), (.int .i64 0)]))⟩,
  ⟨none, none, .store 13 (.t 3) (.t 9)⟩]
@[go_sem] def scriptingref32_Check_r2 : List AI := [
  ⟨(some 10), none, .load 5 true (.t 1)⟩,
  ⟨(some 11), none, .call 51 [(.t 10)]⟩,
  ⟨(some 4), none, .box 350004 4 (.c (.agg [(.int .i64 0), (.int .i64 0), (.int .i64 0), (.int .i64 0)]))⟩,
  ⟨none, none, .store 4 (.t 4) (.t 11)⟩]
@[go_sem] def scriptingref32_Check_r3 : List AI := [
  ⟨(some 12), none, .faddr 0 (.t 3)⟩,
  ⟨(some 13), none, .load 1 false (.t 12)⟩,
  ⟨(some 14), none, .bin .eql (.t 13) (.c (.str []))⟩]
@[go_sem] def scriptingref32_Check_r4 : List AI := [
  ⟨(some 2), none, .mov (.c (.int .i64 4))⟩]
@[go_sem] def scriptingref32_Check_r5 : List AI := [
  ⟨(some 5), none, .mov (.c (.int .i64 0))⟩]
@[go_sem] def scriptingref32_Check_r6 : List AI := [
  ⟨(some 15), none, .mov (.t 5)⟩,
  ⟨(some 16), none, .bin .lss (.t 15) (.c (.int .i64 4))⟩]
@[go_sem] def scriptingref32_Check_r7 : List AI := [
  ⟨(some 19), none, .mov (.t 5)⟩,
  ⟨(some 20), none, .faddr 1 (.t 3)⟩,
  ⟨(some 21), none, .iaddrA 4 1 (.t 20) (.t 19)⟩,
  ⟨(some 22), none, .load 1 false (.t 21)⟩,
  ⟨(some 23), none, .un .not (.t 22)⟩,
  ⟨(some 24), none, .mov (.t 23)⟩,
  ⟨(some 25), (some (24, true)), .mov (.t 5)⟩,
  ⟨(some 26), (some (24, true)), .iaddrA 4 1 (.t 4) (.t 25)⟩,
  ⟨(some 27), (some (24, true)), .load 1 false (.t 26)⟩,
  ⟨(some 28), (some (24, true)), .bin .neq (.t 27) (.c (.int .i64 0))⟩,
  ⟨(some 29), none, .pick (.t 24) (.t 28) (.c (.bool false))⟩]
@[go_sem] def scriptingref32_Check_r8 : List AI := [
  ⟨(some 2), none, .mov (.c (.int .i64 4))⟩]
@[go_sem] def scriptingref32_Check_r9 : List AI := [
  ⟨(some 17), none, .mov (.t 5)⟩,
  ⟨(some 18), none, .bin .add (.t 17) (.c (.int .i64 1))⟩,
  ⟨(some 5), none, .mov (.t 18)⟩]
def scriptingref32_Check_l0 : AC := .seq (.seq (.ops [scriptingref32_Check_r6]) (.cond (.t 16) (.skip) (.exit 0))) (.seq (.block 1 (.seq (.ops [scriptingref32_Check_r7]) (.cond (.t 29) (.seq (.ops [scriptingref32_Check_r8]) (.ret)) (.skip)))) (.ops [scriptingref32_Check_r9]))
theorem scriptingref32_Check_l0_eq : scriptingref32_Check_l0 = .seq (.seq (.ops [scriptingref32_Check_r6]) (.cond (.t 16) (.skip) (.exit 0))) (.seq (.block 1 (.seq (.ops [scriptingref32_Check_r7]) (.cond (.t 29) (.seq (.ops [scriptingref32_Check_r8]) (.ret)) (.skip)))) (.ops [scriptingref32_Check_r9])) := rfl
@[go_sem] def scriptingref32_Check_r10 : List AI := [
  ⟨(some 6), none, .mov (.c (.int .i64 0))⟩]
@[go_sem] def scriptingref32_Check_r11 : List AI := [
  ⟨(some 30), none, .mov (.t 6)⟩,
  ⟨(some 31), none, .bin .lss (.t 30) (.c (.int .i64 4))⟩]
@[go_sem] def scriptingref32_Check_r12 : List AI := [
  ⟨(some 34), none, .mov (.t 6)⟩,
  ⟨(some 35), none, .faddr 1 (.t 3)⟩,
  ⟨(some 36), none, .iaddrA 4 1 (.t 35) (.t 34)⟩,
  ⟨(some 37), none, .load 1 false (.t 36)⟩,
  ⟨(some 38), none, .mov (.t 37)⟩,
  ⟨(some 39), (some (38, true)), .mov (.t 6)⟩,
  ⟨(some 40), (some (38, true)), .iaddrA 4 1 (.t 4) (.t 39)⟩,
  ⟨(some 41), (some (38, true)), .load 1 false (.t 40)⟩,
  ⟨(some 42), (some (38, true)), .mov (.t 6)⟩,
  ⟨(some 43), (some (38, true)), .faddr 5 (.t 3)⟩,
  ⟨(some 44), (some (38, true)), .iaddrA 4 1 (.t 43) (.t 42)⟩,
  ⟨(some 45), (some (38, true)), .load 1 false (.t 44)⟩,
  ⟨(some 46), (some (38, true)), .bin .lss (.t 41) (.t 45)⟩,
  ⟨(some 47), (some (38, true)), .mov (.t 46)⟩,
  ⟨(some 48), (some (47, false)), .mov (.t 6)⟩,
  ⟨(some 49), (some (47, false)), .iaddrA 4 1 (.t 4) (.t 48)⟩,
  ⟨(some 50), (some (47, false)), .load 1 false (.t 49)⟩,
  ⟨(some 51), (some (47, false)), .mov (.t 6)⟩,
  ⟨(some 52), (some (47, false)), .faddr 9 (.t 3)⟩,
  ⟨(some 53), (some (47, false)), .iaddrA 4 1 (.t 52) (.t 51)⟩,
  ⟨(some 54), (some (47, false)), .load 1 false (.t 53)⟩,
  ⟨(some 55), (some (47, false)), .bin .gtr (.t 50) (.t 54)⟩,
  ⟨(some 56), (some (38, true)), .pick (.t 47) (.c (.bool true)) (.t 55)⟩,
  ⟨(some 57), none, .pick (.t 38) (.t 56) (.c (.bool false))⟩]
@[go_sem] def scriptingref32_Check_r13 : List AI := [
  ⟨(some 2), none, .mov (.c (.int .i64 6))⟩]
@[go_sem] def scriptingref32_Check_r14 : List AI := [
  ⟨(some 32), none, .mov (.t 6)⟩,
  ⟨(some 33), none, .bin .add (.t 32) (.c (.int .i64 1))⟩,
  ⟨(some 6), none, .mov (.t 33)⟩]
def scriptingref32_Check_l1 : AC := .seq (.seq (.ops [scriptingref32_Check_r11]) (.cond (.t 31) (.skip) (.exit 2))) (.seq (.block 3 (.seq (.ops [scriptingref32_Check_r12]) (.cond (.t 57) (.seq (.ops [scriptingref32_Check_r13]) (.ret)) (.skip)))) (.ops [scriptingref32_Check_r14]))
theorem scriptingref32_Check_l1_eq : scriptingref32_Check_l1 = .seq (.seq (.ops [scriptingref32_Check_r11]) (.cond (.t 31) (.skip) (.exit 2))) (.seq (.block 3 (.seq (.ops [scriptingref32_Check_r12]) (.cond (.t 57) (.seq (.ops [scriptingref32_Check_r13]) (.ret)) (.skip)))) (.ops [scriptingref32_Check_r14])) := rfl
@[go_sem] def scriptingref32_Check_r15 : List AI := [
  ⟨(some 58), none, .faddr 0 (.t 1)⟩,
  ⟨(some 59), none, .load 1 false (.t 58)⟩,
  ⟨(some 60), none, .bin .eql (.t 59) (.c (.int .i64 3))⟩,
  ⟨(some 61), none, .mov (.t 60)⟩,
  ⟨(some 62), (some (61, true)), .faddr 2 (.t 1)⟩,
  ⟨(some 63), (some (61, true)), .load 1 false (.t 62)⟩,
  ⟨(some 64), (some (61, true)), .faddr 1 (.t 1)⟩,
  ⟨(some 65), (some (61, true)), .load 1 false (.t 64)⟩,
  ⟨(some 66), (some (61, true)), .bin .lss (.t 63) (.t 65)⟩,
  ⟨(some 67), none, .pick (.t 61) (.t 66) (.c (.bool false))⟩,
  ⟨(some 68), none, .mov (.t 67)⟩,
  ⟨(some 69), (some (68, false)), .load 5 true (.t 1)⟩,
  ⟨(some 70), (some (68, false)), .call 52 [(.t 69)]⟩,
  ⟨(some 71), (some (68, false)), .bin .gtr (.t 70) (.c (.int .i64 4095))⟩,
  ⟨(some 72), none, .pick (.t 68) (.c (.bool true)) (.t 71)⟩]
@[go_sem] def scriptingref32_Check_r16 : List AI := [
  ⟨(some 2), none, .mov (.c (.int .i64 6))⟩]
@[go_sem] def scriptingref32_Check_r17 : List AI := [
  ⟨(some 2), none, .mov (.c (.int .i64 0))⟩]
@[go_sem] def scriptingref32_Check_c : AC := .seq (.ops [scriptingref32_Check_r0]) (.seq (.ops [scriptingref32_Check_r1]) (.seq (.ops [scriptingref32_Check_r2]) (.seq (.seq (.ops [scriptingref32_Check_r3]) (.cond (.t 14) (.seq (.ops [scriptingref32_Check_r4]) (.ret)) (.skip))) (.seq (.seq (.ops [scriptingref32_Check_r5]) (.block 0 (.loop scriptingref32_Check_l0))) (.seq (.seq (.ops [scriptingref32_Check_r10]) (.block 2 (.loop scriptingref32_Check_l1))) (.seq (.seq (.ops [scriptingref32_Check_r15]) (.cond (.t 72) (.seq (.ops [scriptingref32_Check_r16]) (.ret)) (.skip))) (.seq (.ops [scriptingref32_Check_r17]) (.ret))))))))
theorem scriptingref32_Check_ok : compF Tryd.prog 35 = some (73, scriptingref32_Check_c, [.t 2]) := by kernel_rfl

@[go_sem] def scriptinglaw35_captures_r0 : List AI := [
  ⟨(some 2), none, .box 360002 11 (.t 0)⟩,
  ⟨(some 4), none, .mov (.c (.bool false))⟩]
@[go_sem] def scriptinglaw35_captures_r1 : List AI := [
  ⟨(some 6), none, .faddr 9 (.t 2)⟩,
  ⟨(some 7), none, .load 1 false (.t 6)⟩,
  ⟨(some 8), none, .len 0 (.t 7)⟩,
  ⟨(some 9), none, .mov (.c (.int .i64 0))⟩]
@[go_sem] def scriptinglaw35_captures_r2 : List AI := [
  ⟨(some 10), none, .bin .lss (.t 9) (.t 8)⟩]
@[go_sem] def scriptinglaw35_captures_r3 : List AI := [
  ⟨(some 11), none, .mov (.t 9)⟩,
  ⟨(some 5), none, .mov (.t 11)⟩]
@[go_sem] def scriptinglaw35_captures_r4 : List AI := [
  ⟨(some 12), none, .faddr 9 (.t 2)⟩,
  ⟨(some 13), none, .load 1 false (.t 12)⟩,
  ⟨(some 14), none, .mov (.t 5)⟩,
  ⟨(some 15), none, .iaddr 3 (.t 13) (.t 14)⟩,
  ⟨(some 16), none, .faddr 1 (.t 15)⟩,
  ⟨(some 17), none, .load 1 false (.t 16)⟩,
  ⟨(some 18), none, .mov (.t 17)⟩,
  ⟨(some 19), (some (18, true)), .faddr 9 (.t 2)⟩,
  ⟨(some 20), (some (18, true)), .load 1 false (.t 19)⟩,
  ⟨(some 21), (some (18, true)), .mov (.t 5)⟩,
  ⟨(some 22), (some (18, true)), .iaddr 3 (.t 20) (.t 21)⟩,
  ⟨(some 23), (some (18, true)), .faddr 2 (.t 22)⟩,
  ⟨(some 24), (some (18, true)), .load 1 false (.t 23)⟩,
  ⟨(some 25), (some (18, true)), .mov (.t 1)⟩,
  ⟨(some 26), (some (18, true)), .bin .eql (.t 24) (.t 25)⟩,
  ⟨(some 27), none, .pick (.t 18) (.t 26) (.c (.bool false))⟩]
@[go_sem] def scriptinglaw35_captures_r5 : List AI := [
  ⟨(some 4), none, .mov (.c (.bool true))⟩]
@[go_sem] def scriptinglaw35_captures_r6 : List AI := [
  ⟨(some 28), none, .bin .add (.t 9) (.c (.int .i64 1))⟩,
  ⟨(some 9), none, .mov (.t 28)⟩]
def scriptinglaw35_captures_l0 : AC := .seq (.ops [scriptinglaw35_captures_r2]) (.seq (.cond (.t 10) (.skip) (.exit 0)) (.seq (.block 1 (.seq (.ops [scriptinglaw35_captures_r3]) (.seq (.ops [scriptinglaw35_captures_r4]) (.cond (.t 27) (.seq (.ops [scriptinglaw35_captures_r5]) (.ret)) (.skip))))) (.ops [scriptinglaw35_captures_r6])))
theorem scriptinglaw35_captures_l0_eq : scriptinglaw35_captures_l0 = .seq (.ops [scriptinglaw35_captures_r2]) (.seq (.cond (.t 10) (.skip) (.exit 0)) (.seq (.block 1 (.seq (.ops [scriptinglaw35_captures_r3]) (.seq (.ops [scriptinglaw35_captures_r4]) (.cond (.t 27) (.seq (.ops [scriptinglaw35_captures_r5]) (.ret)) (.skip))))) (.ops [scriptinglaw35_captures_r6]))) := rfl
@[go_sem] def scriptinglaw35_captures_r7 : List AI := [
  ⟨(some 4), none, .mov (.c (.bool false))⟩]
@[go_sem] def scriptinglaw35_captures_c : AC := .seq (.ops [scriptinglaw35_captures_r0]) (.seq (.seq (.ops [scriptinglaw35_captures_r1]) (.block 0 (.loop scriptinglaw35_captures_l0))) (.seq (.ops [scriptinglaw35_captures_r7]) (.ret)))
theorem scriptinglaw35_captures_ok : compF Tryd.prog 36 = some (29, scriptinglaw35_captures_c, [.t 4]) := by kernel_rfl

@[go_sem] def flow_registers_put_r0 : List AI := [
  ⟨(some 5), none, .box 370005 11 (.t 1)⟩]
@[go_sem] def flow_registers_put_r1 : List AI := [
  ⟨(some 12), none, .load 11 true (.t 5)⟩,
  ⟨(some 13), none, .call 20 [(.t 12)]⟩,
  ⟨(some 8), none, .mov (.t 13)⟩]
@[go_sem] def flow_registers_put_r2 : List AI := [
  ⟨(some 14), none, .mov (.t 2)⟩,
  ⟨(some 15), none, .len 0 (.t 14)⟩,
  ⟨(some 16), none, .mov (.c (.int .i64 0))⟩]
@[go_sem] def flow_registers_put_r3 : List AI := [
  ⟨(some 17), none, .bin .lss (.t 16) (.t 15)⟩]
@[go_sem] def flow_registers_put_r4 : List AI := [
  ⟨(some 18), none, .iaddr 1 (.t 14) (.t 16)⟩,
  ⟨(some 19), none, .load 1 false (.t 18)⟩,
  ⟨(some 10), none, .mov (.t 19)⟩]
@[go_sem] def flow_registers_put_r5 : List AI := [
  ⟨(some 20), none, .mov (.t 10)⟩,
  ⟨(some 21), none, .bin .geq (.t 20) (.c (.int .i64 0))⟩,
  ⟨(some 22), none, .mov (.t 21)⟩,
  ⟨(some 23), (some (22, true)), .mov (.t 10)⟩,
  ⟨(some 24), (some (22, true)), .mov (.t 8)⟩,
  ⟨(some 25), (some (22, true)), .bin .lss (.t 23) (.t 24)⟩,
  ⟨(some 26), none, .pick (.t 22) (.t 25) (.c (.bool false))⟩]
@[go_sem] def flow_registers_put_r6 : List AI := [
  ⟨(some 27), none, .mov (.t 0)⟩,
  ⟨(some 28), none, .mov (.t 10)⟩,
  ⟨(some 29), none, .nilck (.t 27)⟩,
  ⟨(some 30), none, .iaddrA 4096 1 (.t 29) (.t 28)⟩,
  ⟨none, none, .store 1 (.t 30) (.c (.bool true))⟩]
@[go_sem] def flow_registers_put_r7 : List AI := [
  ⟨(some 31), none, .bin .add (.t 16) (.c (.int .i64 1))⟩,
  ⟨(some 16), none, .mov (.t 31)⟩]
def flow_registers_put_l0 : AC := .seq (.ops [flow_registers_put_r3]) (.seq (.cond (.t 17) (.skip) (.exit 0)) (.seq (.block 1 (.seq (.ops [flow_registers_put_r4]) (.seq (.ops [flow_registers_put_r5]) (.cond (.t 26) (.ops [flow_registers_put_r6]) (.skip))))) (.ops [flow_registers_put_r7])))
theorem flow_registers_put_l0_eq : flow_registers_put_l0 = .seq (.ops [flow_registers_put_r3]) (.seq (.cond (.t 17) (.skip) (.exit 0)) (.seq (.block 1 (.seq (.ops [flow_registers_put_r4]) (.seq (.ops [flow_registers_put_r5]) (.cond (.t 26) (.ops [flow_registers_put_r6]) (.skip))))) (.ops [flow_registers_put_r7]))) := rfl
@[go_sem] def flow_registers_put_r8 : List AI := [
  ⟨(some 32), none, .mov (.t 3)⟩,
  ⟨(some 33), none, .bin .geq (.t 32) (.c (.int .i64 0))⟩]
@[go_sem] def flow_registers_put_r9 : List AI := [
  ⟨(some 34), none, .mov (.t 3)⟩,
  ⟨(some 11), none, .mov (.t 34)⟩]
@[go_sem] def flow_registers_put_r10 : List AI := [
  ⟨(some 35), none, .mov (.t 11)⟩,
  ⟨(some 36), none, .mov (.t 8)⟩,
  ⟨(some 37), none, .bin .lss (.t 35) (.t 36)⟩]
@[go_sem] def flow_registers_put_r11 : List AI := [
  ⟨(some 40), none, .mov (.t 0)⟩,
  ⟨(some 41), none, .mov (.t 11)⟩,
  ⟨(some 42), none, .nilck (.t 40)⟩,
  ⟨(some 43), none, .iaddrA 4096 1 (.t 42) (.t 41)⟩,
  ⟨none, none, .store 1 (.t 43) (.c (.bool true))⟩]
@[go_sem] def flow_registers_put_r12 : List AI := [
  ⟨(some 38), none, .mov (.t 11)⟩,
  ⟨(some 39), none, .bin .add (.t 38) (.c (.int .i64 1))⟩,
  ⟨(some 11), none, .mov (.t 39)⟩]
def flow_registers_put_l1 : AC := .seq (.seq (.ops [flow_registers_put_r10]) (.cond (.t 37) (.skip) (.exit 2))) (.seq (.block 3 (.ops [flow_registers_put_r11])) (.ops [flow_registers_put_r12]))
theorem flow_registers_put_l1_eq : flow_registers_put_l1 = .seq (.seq (.ops [flow_registers_put_r10]) (.cond (.t 37) (.skip) (.exit 2))) (.seq (.block 3 (.ops [flow_registers_put_r11])) (.ops [flow_registers_put_r12])) := rfl
@[go_sem] def flow_registers_put_c : AC := .seq (.ops [flow_registers_put_r0]) (.seq (.ops [flow_registers_put_r1]) (.seq (.seq (.ops [flow_registers_put_r2]) (.block 0 (.loop flow_registers_put_l0))) (.seq (.ops [flow_registers_put_r8]) (.cond (.t 33) (.seq (.ops [flow_registers_put_r9]) (.block 2 (.loop flow_registers_put_l1))) (.skip)))))
theorem flow_registers_put_ok : compF Tryd.prog 37 = some (44, flow_registers_put_c, []) := by kernel_rfl

@[go_sem] def scriptingref32_Reads_r0 : List AI := [
  ⟨(some 1), none, .box 380001 5 (.t 0)⟩,
  ⟨(some 2), none, .mov (.c .nils)⟩,
  ⟨(some 3), none, .mov (.c (.int .i64 0))⟩]
@[go_sem] def scriptingref32_Reads_r1 : List AI := [
  ⟨(some 4), none, .load 5 true (.t 1)⟩,
  ⟨(some 5), none, .call 35 [(.t 4)]⟩,
  ⟨(some 6), none, .bin .neq (.t 5) (.c (.int .i64 0))⟩]
@[go_sem] def scriptingref32_Reads_r2 : List AI := [
  ⟨(some 2), none, .mov (.c .nils)⟩,
  ⟨(some 3), none, .mov (.c (.int .i64 (-1)))⟩]
@[go_sem] def scriptingref32_Reads_r3 : List AI := [
  ⟨(some 7), none, .faddr 0 (.t 1)⟩,
  ⟨(some 8), none, .load 1 false (.t 7)⟩]
@[go_sem] def scriptingref32_Reads_r4 : List AI := [
  ⟨(some 10), none, .bin .eql (.t 8) (.c (.int .i64 1))⟩,
  ⟨(some 9), none, .mov (.t 10)⟩]
@[go_sem] def scriptingref32_Reads_r5 : List AI := [
  ⟨(some 11), none, .bin .eql (.t 8) (.c (.int .i64 6))⟩,
  ⟨(some 9), none, .mov (.t 11)⟩]
@[go_sem] def scriptingref32_Reads_r6 : List AI := [
  ⟨(some 12), none, .bin .eql (.t 8) (.c (.int .i64 8))⟩,
  ⟨(some 9), none, .mov (.t 12)⟩]
@[go_sem] def scriptingref32_Reads_r7 : List AI := [
  ⟨(some 13), none, .bin .eql (.t 8) (.c (.int .i64 11))⟩,
  ⟨(some 9), none, .mov (.t 13)⟩]
@[go_sem] def scriptingref32_Reads_r8 : List AI := [
  ⟨(some 14), none, .bin .eql (.t 8) (.c (.int .i64 12))⟩,
  ⟨(some 9), none, .mov (.t 14)⟩]
@[go_sem] def scriptingref32_Reads_r9 : List AI := [
  ⟨(some 15), none, .faddr 2 (.t 1)⟩,
  ⟨(some 16), none, .load 1 false (.t 15)⟩,
  ⟨(some 17), none, .mkrow 380017 1 [(.t 16)]⟩,
  ⟨(some 18), none, .call 53 [(.t 17)]⟩,
  ⟨(some 2), none, .mov (.t 18)⟩,
  ⟨(some 3), none, .mov (.c (.int .i64 (-1)))⟩]
@[go_sem] def scriptingref32_Reads_r10 : List AI := [
  ⟨(some 20), none, .bin .eql (.t 8) (.c (.int .i64 9))⟩,
  ⟨(some 19), none, .mov (.t 20)⟩]
@[go_sem] def scriptingref32_Reads_r11 : List AI := [
  ⟨(some 21), none, .bin .eql (.t 8) (.c (.int .i64 13))⟩,
  ⟨(some 19), none, .mov (.t 21)⟩]
@[go_sem] def scriptingref32_Reads_r12 : List AI := [
  ⟨(some 22), none, .faddr 2 (.t 1)⟩,
  ⟨(some 23), none, .load 1 false (.t 22)⟩,
  ⟨(some 24), none, .faddr 3 (.t 1)⟩,
  ⟨(some 25), none, .load 1 false (.t 24)⟩,
  ⟨(some 26), none, .mkrow 380026 1 [(.t 23), (.t 25)]⟩,
  ⟨(some 27), none, .call 53 [(.t 26)]⟩,
  ⟨(some 2), none, .mov (.t 27)⟩,
  ⟨(some 3), none, .mov (.c (.int .i64 (-1)))⟩]
@[go_sem] def scriptingref32_Reads_r13 : List AI := [
  ⟨(some 29), none, .bin .eql (.t 8) (.c (.int .i64 10))⟩,
  ⟨(some 28), none, .mov (.t 29)⟩]
@[go_sem] def scriptingref32_Reads_r14 : List AI := [
  ⟨(some 30), none, .faddr 1 (.t 1)⟩,
  ⟨(some 31), none, .load 1 false (.t 30)⟩,
  ⟨(some 32), none, .faddr 2 (.t 1)⟩,
  ⟨(some 33), none, .load 1 false (.t 32)⟩,
  ⟨(some 34), none, .faddr 3 (.t 1)⟩,
  ⟨(some 35), none, .load 1 false (.t 34)⟩,
  ⟨(some 36), none, .mkrow 380036 1 [(.t 31), (.t 33), (.t 35)]⟩,
  ⟨(some 37), none, .call 53 [(.t 36)]⟩,
  ⟨(some 2), none, .mov (.t 37)⟩,
  ⟨(some 3), none, .mov (.c (.int .i64 (-1)))⟩]
@[go_sem] def scriptingref32_Reads_r15 : List AI := [
  ⟨(some 39), none, .bin .eql (.t 8) (.c (.int .i64 15))⟩,
  ⟨(some 38), none, .mov (.t 39)⟩]
@[go_sem] def scriptingref32_Reads_r16 : List AI := [
  ⟨(some 40), none, .bin .eql (.t 8) (.c (.int .i64 28))⟩,
  ⟨(some 38), none, .mov (.t 40)⟩]
@[go_sem] def scriptingref32_Reads_r17 : List AI := [
  ⟨(some 41), none, .faddr 1 (.t 1)⟩,
  ⟨(some 42), none, .load 1 false (.t 41)⟩,
  ⟨(some 43), none, .mkrow 380043 1 [(.t 42)]⟩,
  ⟨(some 44), none, .call 53 [(.t 43)]⟩,
  ⟨(some 2), none, .mov (.t 44)⟩,
  ⟨(some 3), none, .mov (.c (.int .i64 (-1)))⟩]
@[go_sem] def scriptingref32_Reads_r18 : List AI := [
  ⟨(some 46), none, .bin .eql (.t 8) (.c (.int .i64 16))⟩,
  ⟨(some 45), none, .mov (.t 46)⟩]
@[go_sem] def scriptingref32_Reads_r19 : List AI := [
  ⟨(some 47), none, .bin .eql (.t 8) (.c (.int .i64 17))⟩,
  ⟨(some 45), none, .mov (.t 47)⟩]
@[go_sem] def scriptingref32_Reads_r20 : List AI := [
  ⟨(some 48), none, .bin .eql (.t 8) (.c (.int .i64 21))⟩,
  ⟨(some 45), none, .mov (.t 48)⟩]
@[go_sem] def scriptingref32_Reads_r21 : List AI := [
  ⟨(some 49), none, .faddr 1 (.t 1)⟩,
  ⟨(some 50), none, .load 1 false (.t 49)⟩,
  ⟨(some 51), none, .mkrow 380051 1 [(.t 50)]⟩,
  ⟨(some 52), none, .faddr 1 (.t 1)⟩,
  ⟨(some 53), none, .load 1 false (.t 52)⟩,
  ⟨(some 54), none, .bin .add (.t 53) (.c (.int .i64 1))⟩,
  ⟨(some 55), none, .faddr 2 (.t 1)⟩,
  ⟨(some 56), none, .load 1 false (.t 55)⟩,
  ⟨(some 57), none, .call 54 [(.t 51), (.t 54), (.t 56)]⟩,
  ⟨(some 58), none, .ext 0 (.t 57)⟩,
  ⟨(some 59), none, .ext 1 (.t 57)⟩,
  ⟨(some 2), none, .mov (.t 58)⟩,
  ⟨(some 3), none, .mov (.t 59)⟩]
@[go_sem] def scriptingref32_Reads_r22 : List AI := [
  ⟨(some 61), none, .bin .eql (.t 8) (.c (.int .i64 18))⟩,
  ⟨(some 60), none, .mov (.t 61)⟩]
@[go_sem] def scriptingref32_Reads_r23 : List AI := [
  ⟨(some 62), none, .faddr 1 (.t 1)⟩,
  ⟨(some 63), none, .load 1 false (.t 62)⟩,
  ⟨(some 64), none, .faddr 2 (.t 1)⟩,
  ⟨(some 65), none, .load 1 false (.t 64)⟩,
  ⟨(some 66), none, .call 54 [(.c .nils), (.t 63), (.t 65)]⟩,
  ⟨(some 67), none, .ext 0 (.t 66)⟩,
  ⟨(some 68), none, .ext 1 (.t 66)⟩,
  ⟨(some 2), none, .mov (.t 67)⟩,
  ⟨(some 3), none, .mov (.t 68)⟩]
@[go_sem] def scriptingref32_Reads_r24 : List AI := [
  ⟨(some 70), none, .bin .eql (.t 8) (.c (.int .i64 23))⟩,
  ⟨(some 69), none, .mov (.t 70)⟩]
@[go_sem] def scriptingref32_Reads_r25 : List AI := [
  ⟨(some 71), none, .bin .eql (.t 8) (.c (.int .i64 24))⟩,
  ⟨(some 69), none, .mov (.t 71)⟩]
@[go_sem] def scriptingref32_Reads_r26 : List AI := [
  ⟨(some 72), none, .bin .eql (.t 8) (.c (.int .i64 25))⟩,
  ⟨(some 69), none, .mov (.t 72)⟩]
@[go_sem] def scriptingref32_Reads_r27 : List AI := [
  ⟨(some 73), none, .faddr 1 (.t 1)⟩,
  ⟨(some 74), none, .load 1 false (.t 73)⟩,
  ⟨(some 75), none, .faddr 1 (.t 1)⟩,
  ⟨(some 76), none, .load 1 false (.t 75)⟩,
  ⟨(some 77), none, .bin .add (.t 76) (.c (.int .i64 1))⟩,
  ⟨(some 78), none, .faddr 1 (.t 1)⟩,
  ⟨(some 79), none, .load 1 false (.t 78)⟩,
  ⟨(some 80), none, .bin .add (.t 79) (.c (.int .i64 2))⟩,
  ⟨(some 81), none, .mkrow 380081 1 [(.t 74), (.t 77), (.t 80)]⟩,
  ⟨(some 82), none, .call 53 [(.t 81)]⟩,
  ⟨(some 2), none, .mov (.t 82)⟩,
  ⟨(some 3), none, .mov (.c (.int .i64 (-1)))⟩]
@[go_sem] def scriptingref32_Reads_r28 : List AI := [
  ⟨(some 84), none, .bin .eql (.t 8) (.c (.int .i64 26))⟩,
  ⟨(some 83), none, .mov (.t 84)⟩]
@[go_sem] def scriptingref32_Reads_r29 : List AI := [
  ⟨(some 85), none, .faddr 1 (.t 1)⟩,
  ⟨(some 86), none, .load 1 false (.t 85)⟩,
  ⟨(some 87), none, .bin .add (.t 86) (.c (.int .i64 3))⟩,
  ⟨(some 88), none, .mkrow 380088 1 [(.t 87)]⟩,
  ⟨(some 89), none, .call 53 [(.t 88)]⟩,
  ⟨(some 2), none, .mov (.t 89)⟩,
  ⟨(some 3), none, .mov (.c (.int .i64 (-1)))⟩]
@[go_sem] def scriptingref32_Reads_r30 : List AI := [
  ⟨(some 2), none, .mov (.c .nils)⟩,
  ⟨(some 3), none, .mov (.c (.int .i64 (-1)))⟩]
@[go_sem] def scriptingref32_Reads_c : AC := .seq (.ops [scriptingref32_Reads_r0]) (.seq (.seq (.ops [scriptingref32_Reads_r1]) (.cond (.t 6) (.seq (.ops [scriptingref32_Reads_r2]) (.ret)) (.skip))) (.seq (.seq (.ops [scriptingref32_Reads_r3]) (.block 0 (.seq (.seq (.ops [scriptingref32_Reads_r4]) (.cond (.t 9) (.skip) (.seq (.ops [scriptingref32_Reads_r5]) (.cond (.t 9) (.skip) (.seq (.ops [scriptingref32_Reads_r6]) (.cond (.t 9) (.skip) (.seq (.ops [scriptingref32_Reads_r7]) (.cond (.t 9) (.skip) (.ops [scriptingref32_Reads_r8]))))))))) (.cond (.t 9) (.seq (.ops [scriptingref32_Reads_r9]) (.ret)) (.seq (.seq (.ops [scriptingref32_Reads_r10]) (.cond (.t 19) (.skip) (.ops [scriptingref32_Reads_r11]))) (.cond (.t 19) (.seq (.ops [scriptingref32_Reads_r12]) (.ret)) (.seq (.ops [scriptingref32_Reads_r13]) (.cond (.t 28) (.seq (.ops [scriptingref32_Reads_r14]) (.ret)) (.seq (.seq (.ops [scriptingref32_Reads_r15]) (.cond (.t 38) (.skip) (.ops [scriptingref32_Reads_r16]))) (.cond (.t 38) (.seq (.ops [scriptingref32_Reads_r17]) (.ret)) (.seq (.seq (.ops [scriptingref32_Reads_r18]) (.cond (.t 45) (.skip) (.seq (.ops [scriptingref32_Reads_r19]) (.cond (.t 45) (.skip) (.ops [scriptingref32_Reads_r20]))))) (.cond (.t 45) (.seq (.ops [scriptingref32_Reads_r21]) (.ret)) (.seq (.ops [scriptingref32_Reads_r22]) (.cond (.t 60) (.seq (.ops [scriptingref32_Reads_r23]) (.ret)) (.seq (.seq (.ops [scriptingref32_Reads_r24]) (.cond (.t 69) (.skip) (.seq (.ops [scriptingref32_Reads_r25]) (.cond (.t 69) (.skip) (.ops [scriptingref32_Reads_r26]))))) (.cond (.t 69) (.seq (.ops [scriptingref32_Reads_r27]) (.ret)) (.seq (.ops [scriptingref32_Reads_r28]) (.cond (.t 83) (.seq (.ops [scriptingref32_Reads_r29]) (.ret)) (.skip))))))))))))))))))) (.seq (.ops [scriptingref32_Reads_r30]) (.ret))))
theorem scriptingref32_Reads_ok : compF Tryd.prog 38 = some (90, scriptingref32_Reads_c, [.t 2, .t 3]) := by kernel_rfl

@[go_sem] def scriptingref35_marks_r0 : List AI := [
  ⟨(some 6), none, .mov (.c .nils)⟩]
@[go_sem] def scriptingref35_marks_r1 : List AI := [
  ⟨(some 10), none, .mov (.t 0)⟩,
  ⟨(some 11), none, .mksl 390011 [(.bool false)] (.t 10)⟩,
  ⟨(some 7), none, .mov (.t 11)⟩]
@[go_sem] def scriptingref35_marks_r2 : List AI := [
  ⟨(some 8), none, .mov (.c (.int .i64 0))⟩]
@[go_sem] def scriptingref35_marks_r3 : List AI := [
  ⟨(some 12), none, .mov (.t 8)⟩,
  ⟨(some 13), none, .mov (.t 1)⟩,
  ⟨(some 14), none, .len 0 (.t 13)⟩,
  ⟨(some 15), none, .bin .lss (.t 12) (.t 14)⟩]
@[go_sem] def scriptingref35_marks_r4 : List AI := [
  ⟨(some 18), none, .mov (.t 1)⟩,
  ⟨(some 19), none, .mov (.t 8)⟩,
  ⟨(some 20), none, .iaddr 1 (.t 18) (.t 19)⟩,
  ⟨(some 21), none, .load 1 false (.t 20)⟩,
  ⟨(some 22), none, .bin .geq (.t 21) (.c (.int .i64 0))⟩,
  ⟨(some 23), none, .mov (.t 22)⟩,
  ⟨(some 24), (some (23, true)), .mov (.t 1)⟩,
  ⟨(some 25), (some (23, true)), .mov (.t 8)⟩,
  ⟨(some 26), (some (23, true)), .iaddr 1 (.t 24) (.t 25)⟩,
  ⟨(some 27), (some (23, true)), .load 1 false (.t 26)⟩,
  ⟨(some 28), (some (23, true)), .mov (.t 0)⟩,
  ⟨(some 29), (some (23, true)), .bin .lss (.t 27) (.t 28)⟩,
  ⟨(some 30), none, .pick (.t 23) (.t 29) (.c (.bool false))⟩]
@[go_sem] def scriptingref35_marks_r5 : List AI := [
  ⟨(some 31), none, .mov (.t 7)⟩,
  ⟨(some 32), none, .mov (.t 1)⟩,
  ⟨(some 33), none, .mov (.t 8)⟩,
  ⟨(some 34), none, .iaddr 1 (.t 32) (.t 33)⟩,
  ⟨(some 35), none, .load 1 false (.t 34)⟩,
  ⟨(some 36), none, .iaddr 1 (.t 31) (.t 35)⟩,
  ⟨none, none, .store 1 (.t 36) (.c (.bool true))⟩]
@[go_sem] def scriptingref35_marks_r6 : List AI := [
  ⟨(some 16), none, .mov (.t 8)⟩,
  ⟨(some 17), none, .bin .add (.t 16) (.c (.int .i64 1))⟩,
  ⟨(some 8), none, .mov (.t 17)⟩]
def scriptingref35_marks_l0 : AC := .seq (.seq (.ops [scriptingref35_marks_r3]) (.cond (.t 15) (.skip) (.exit 0))) (.seq (.block 1 (.seq (.ops [scriptingref35_marks_r4]) (.cond (.t 30) (.ops [scriptingref35_marks_r5]) (.skip)))) (.ops [scriptingref35_marks_r6]))
theorem scriptingref35_marks_l0_eq : scriptingref35_marks_l0 = .seq (.seq (.ops [scriptingref35_marks_r3]) (.cond (.t 15) (.skip) (.exit 0))) (.seq (.block 1 (.seq (.ops [scriptingref35_marks_r4]) (.cond (.t 30) (.ops [scriptingref35_marks_r5]) (.skip)))) (.ops [scriptingref35_marks_r6])) := rfl
@[go_sem] def scriptingref35_marks_r7 : List AI := [
  ⟨(some 37), none, .mov (.t 2)⟩,
  ⟨(some 9), none, .mov (.t 37)⟩]
@[go_sem] def scriptingref35_marks_r8 : List AI := [
  ⟨(some 38), none, .mov (.t 9)⟩,
  ⟨(some 39), none, .bin .geq (.t 38) (.c (.int .i64 0))⟩,
  ⟨(some 40), none, .mov (.t 39)⟩,
  ⟨(some 41), (some (40, true)), .mov (.t 9)⟩,
  ⟨(some 42), (some (40, true)), .mov (.t 0)⟩,
  ⟨(some 43), (some (40, true)), .bin .lss (.t 41) (.t 42)⟩,
  ⟨(some 44), none, .pick (.t 40) (.t 43) (.c (.bool false))⟩]
@[go_sem] def scriptingref35_marks_r9 : List AI := [
  ⟨(some 47), none, .mov (.t 7)⟩,
  ⟨(some 48), none, .mov (.t 9)⟩,
  ⟨(some 49), none, .iaddr 1 (.t 47) (.t 48)⟩,
  ⟨none, none, .store 1 (.t 49) (.c (.bool true))⟩]
@[go_sem] def scriptingref35_marks_r10 : List AI := [
  ⟨(some 45), none, .mov (.t 9)⟩,
  ⟨(some 46), none, .bin .add (.t 45) (.c (.int .i64 1))⟩,
  ⟨(some 9), none, .mov (.t 46)⟩]
def scriptingref35_marks_l1 : AC := .seq (.seq (.ops [scriptingref35_marks_r8]) (.cond (.t 44) (.skip) (.exit 2))) (.seq (.block 3 (.ops [scriptingref35_marks_r9])) (.ops [scriptingref35_marks_r10]))
theorem scriptingref35_marks_l1_eq : scriptingref35_marks_l1 = .seq (.seq (.ops [scriptingref35_marks_r8]) (.cond (.t 44) (.skip) (.exit 2))) (.seq (.block 3 (.ops [scriptingref35_marks_r9])) (.ops [scriptingref35_marks_r10])) := rfl
@[go_sem] def scriptingref35_marks_r11 : List AI := [
  ⟨(some 50), none, .mov (.t 7)⟩,
  ⟨(some 6), none, .mov (.t 50)⟩]
@[go_sem] def scriptingref35_marks_c : AC := .seq (.ops [scriptingref35_marks_r0]) (.seq (.ops [scriptingref35_marks_r1]) (.seq (.seq (.ops [scriptingref35_marks_r2]) (.block 0 (.loop scriptingref35_marks_l0))) (.seq (.seq (.ops [scriptingref35_marks_r7]) (.block 2 (.loop scriptingref35_marks_l1))) (.seq (.ops [scriptingref35_marks_r11]) (.ret)))))
theorem scriptingref35_marks_ok : compF Tryd.prog 39 = some (51, scriptingref35_marks_c, [.t 6]) := by kernel_rfl

@[go_sem] def scriptingref32_Target_r0 : List AI := [
  ⟨(some 1), none, .box 400001 5 (.t 0)⟩,
  ⟨(some 2), none, .mov (.c (.int .i64 0))⟩,
  ⟨(some 3), none, .mov (.c (.bool false))⟩]
@[go_sem] def scriptingref32_Target_r1 : List AI := [
  ⟨(some 4), none, .faddr 0 (.t 1)⟩,
  ⟨(some 5), none, .load 1 false (.t 4)⟩]
@[go_sem] def scriptingref32_Target_r2 : List AI := [
  ⟨(some 7), none, .bin .eql (.t 5) (.c (.int .i64 14))⟩,
  ⟨(some 6), none, .mov (.t 7)⟩]
@[go_sem] def scriptingref32_Target_r3 : List AI := [
  ⟨(some 8), none, .bin .eql (.t 5) (.c (.int .i64 15))⟩,
  ⟨(some 6), none, .mov (.t 8)⟩]
@[go_sem] def scriptingref32_Target_r4 : List AI := [
  ⟨(some 9), none, .bin .eql (.t 5) (.c (.int .i64 23))⟩,
  ⟨(some 6), none, .mov (.t 9)⟩]
@[go_sem] def scriptingref32_Target_r5 : List AI := [
  ⟨(some 10), none, .bin .eql (.t 5) (.c (.int .i64 24))⟩,
  ⟨(some 6), none, .mov (.t 10)⟩]
@[go_sem] def scriptingref32_Target_r6 : List AI := [
  ⟨(some 11), none, .bin .eql (.t 5) (.c (.int .i64 26))⟩,
  ⟨(some 6), none, .mov (.t 11)⟩]
@[go_sem] def scriptingref32_Target_r7 : List AI := [
  ⟨(some 12), none, .faddr 2 (.t 1)⟩,
  ⟨(some 13), none, .load 1 false (.t 12)⟩,
  ⟨(some 2), none, .mov (.t 13)⟩,
  ⟨(some 3), none, .mov (.c (.bool true))⟩]
@[go_sem] def scriptingref32_Target_r8 : List AI := [
  ⟨(some 2), none, .mov (.c (.int .i64 0))⟩,
  ⟨(some 3), none, .mov (.c (.bool false))⟩]
@[go_sem] def scriptingref32_Target_c : AC := .seq (.ops [scriptingref32_Target_r0]) (.seq (.seq (.ops [scriptingref32_Target_r1]) (.block 0 (.seq (.seq (.ops [scriptingref32_Target_r2]) (.cond (.t 6) (.skip) (.seq (.ops [scriptingref32_Target_r3]) (.cond (.t 6) (.skip) (.seq (.ops [scriptingref32_Target_r4]) (.cond (.t 6) (.skip) (.seq (.ops [scriptingref32_Target_r5]) (.cond (.t 6) (.skip) (.ops [scriptingref32_Target_r6]))))))))) (.cond (.t 6) (.seq (.ops [scriptingref32_Target_r7]) (.ret)) (.skip))))) (.seq (.ops [scriptingref32_Target_r8]) (.ret)))
theorem scriptingref32_Target_ok : compF Tryd.prog 40 = some (14, scriptingref32_Target_c, [.t 2, .t 3]) := by kernel_rfl

@[go_sem] def scriptingref32_Falls_r0 : List AI := [
  ⟨(some 1), none, .box 410001 5 (.t 0)⟩,
  ⟨(some 2), none, .mov (.c (.bool false))⟩]
@[go_sem] def scriptingref32_Falls_r1 : List AI := [
  ⟨(some 3), none, .faddr 0 (.t 1)⟩,
  ⟨(some 4), none, .load 1 false (.t 3)⟩,
  ⟨(some 5), none, .bin .neq (.t 4) (.c (.int .i64 14))⟩,
  ⟨(some 6), none, .mov (.t 5)⟩,
  ⟨(some 7), (some (6, true)), .faddr 0 (.t 1)⟩,
  ⟨(some 8), (some (6, true)), .load 1 false (.t 7)⟩,
  ⟨(some 9), (some (6, true)), .bin .neq (.t 8) (.c (.int .i64 17))⟩,
  ⟨(some 10), none, .pick (.t 6) (.t 9) (.c (.bool false))⟩,
  ⟨(some 11), none, .mov (.t 10)⟩,
  ⟨(some 12), (some (11, true)), .faddr 0 (.t 1)⟩,
  ⟨(some 13), (some (11, true)), .load 1 false (.t 12)⟩,
  ⟨(some 14), (some (11, true)), .bin .neq (.t 13) (.c (.int .i64 18))⟩,
  ⟨(some 15), none, .pick (.t 11) (.t 14) (.c (.bool false))⟩,
  ⟨(some 2), none, .mov (.t 15)⟩]
@[go_sem] def scriptingref32_Falls_c : AC := .seq (.ops [scriptingref32_Falls_r0]) (.seq (.ops [scriptingref32_Falls_r1]) (.ret))
theorem scriptingref32_Falls_ok : compF Tryd.prog 41 = some (16, scriptingref32_Falls_c, [.t 2]) := by kernel_rfl

@[go_sem] def scriptingref35_Put_r0 : List AI := [
  ⟨(some 4), none, .mov (.c .nils)⟩]
@[go_sem] def scriptingref35_Put_r1 : List AI := [
  ⟨(some 8), none, .mkrow 420008 1 []⟩,
  ⟨(some 5), none, .mov (.t 8)⟩]
@[go_sem] def scriptingref35_Put_r2 : List AI := [
  ⟨(some 6), none, .mov (.c (.bool false))⟩]
@[go_sem] def scriptingref35_Put_r3 : List AI := [
  ⟨(some 7), none, .mov (.c (.int .i64 0))⟩]
@[go_sem] def scriptingref35_Put_r4 : List AI := [
  ⟨(some 9), none, .mov (.t 7)⟩,
  ⟨(some 10), none, .mov (.t 0)⟩,
  ⟨(some 11), none, .len 0 (.t 10)⟩,
  ⟨(some 12), none, .bin .lss (.t 9) (.t 11)⟩]
@[go_sem] def scriptingref35_Put_r5 : List AI := [
  ⟨(some 15), none, .mov (.t 6)⟩,
  ⟨(some 16), none, .un .not (.t 15)⟩,
  ⟨(some 17), none, .mov (.t 16)⟩,
  ⟨(some 18), (some (17, true)), .mov (.t 0)⟩,
  ⟨(some 19), (some (17, true)), .mov (.t 7)⟩,
  ⟨(some 20), (some (17, true)), .iaddr 1 (.t 18) (.t 19)⟩,
  ⟨(some 21), (some (17, true)), .load 1 false (.t 20)⟩,
  ⟨(some 22), (some (17, true)), .mov (.t 1)⟩,
  ⟨(some 23), (some (17, true)), .bin .geq (.t 21) (.t 22)⟩,
  ⟨(some 24), none, .pick (.t 17) (.t 23) (.c (.bool false))⟩]
@[go_sem] def scriptingref35_Put_r6 : List AI := [
  ⟨(some 25), none, .mov (.t 5)⟩,
  ⟨(some 26), none, .mov (.t 1)⟩,
  ⟨(some 27), none, .mkisl 1 [(.t 26)]⟩,
  ⟨(some 28), none, .app 420028 1 (.t 25) (.t 27)⟩,
  ⟨(some 5), none, .mov (.t 28)⟩]
@[go_sem] def scriptingref35_Put_r7 : List AI := [
  ⟨(some 6), none, .mov (.c (.bool true))⟩]
@[go_sem] def scriptingref35_Put_r8 : List AI := [
  ⟨(some 29), none, .mov (.t 0)⟩,
  ⟨(some 30), none, .mov (.t 7)⟩,
  ⟨(some 31), none, .iaddr 1 (.t 29) (.t 30)⟩,
  ⟨(some 32), none, .load 1 false (.t 31)⟩,
  ⟨(some 33), none, .mov (.t 1)⟩,
  ⟨(some 34), none, .bin .neq (.t 32) (.t 33)⟩]
@[go_sem] def scriptingref35_Put_r9 : List AI := [
  ⟨(some 35), none, .mov (.t 5)⟩,
  ⟨(some 36), none, .mov (.t 0)⟩,
  ⟨(some 37), none, .mov (.t 7)⟩,
  ⟨(some 38), none, .iaddr 1 (.t 36) (.t 37)⟩,
  ⟨(some 39), none, .load 1 false (.t 38)⟩,
  ⟨(some 40), none, .mkisl 1 [(.t 39)]⟩,
  ⟨(some 41), none, .app 420041 1 (.t 35) (.t 40)⟩,
  ⟨(some 5), none, .mov (.t 41)⟩]
@[go_sem] def scriptingref35_Put_r10 : List AI := [
  ⟨(some 13), none, .mov (.t 7)⟩,
  ⟨(some 14), none, .bin .add (.t 13) (.c (.int .i64 1))⟩,
  ⟨(some 7), none, .mov (.t 14)⟩]
def scriptingref35_Put_l0 : AC := .seq (.seq (.ops [scriptingref35_Put_r4]) (.cond (.t 12) (.skip) (.exit 0))) (.seq (.block 1 (.seq (.seq (.ops [scriptingref35_Put_r5]) (.cond (.t 24) (.seq (.ops [scriptingref35_Put_r6]) (.ops [scriptingref35_Put_r7])) (.skip))) (.seq (.ops [scriptingref35_Put_r8]) (.cond (.t 34) (.ops [scriptingref35_Put_r9]) (.skip))))) (.ops [scriptingref35_Put_r10]))
theorem scriptingref35_Put_l0_eq : scriptingref35_Put_l0 = .seq (.seq (.ops [scriptingref35_Put_r4]) (.cond (.t 12) (.skip) (.exit 0))) (.seq (.block 1 (.seq (.seq (.ops [scriptingref35_Put_r5]) (.cond (.t 24) (.seq (.ops [scriptingref35_Put_r6]) (.ops [scriptingref35_Put_r7])) (.skip))) (.seq (.ops [scriptingref35_Put_r8]) (.cond (.t 34) (.ops [scriptingref35_Put_r9]) (.skip))))) (.ops [scriptingref35_Put_r10])) := rfl
@[go_sem] def scriptingref35_Put_r11 : List AI := [
  ⟨(some 42), none, .mov (.t 6)⟩,
  ⟨(some 43), none, .un .not (.t 42)⟩]
@[go_sem] def scriptingref35_Put_r12 : List AI := [
  ⟨(some 44), none, .mov (.t 5)⟩,
  ⟨(some 45), none, .mov (.t 1)⟩,
  ⟨(some 46), none, .mkisl 1 [(.t 45)]⟩,
  ⟨(some 47), none, .app 420047 1 (.t 44) (.t 46)⟩,
  ⟨(some 5), none, .mov (.t 47)⟩]
@[go_sem] def scriptingref35_Put_r13 : List AI := [
  ⟨(some 48), none, .mov (.t 5)⟩,
  ⟨(some 4), none, .mov (.t 48)⟩]
@[go_sem] def scriptingref35_Put_c : AC := .seq (.ops [scriptingref35_Put_r0]) (.seq (.ops [scriptingref35_Put_r1]) (.seq (.ops [scriptingref35_Put_r2]) (.seq (.seq (.ops [scriptingref35_Put_r3]) (.block 0 (.loop scriptingref35_Put_l0))) (.seq (.seq (.ops [scriptingref35_Put_r11]) (.cond (.t 43) (.ops [scriptingref35_Put_r12]) (.skip))) (.seq (.ops [scriptingref35_Put_r13]) (.ret))))))
theorem scriptingref35_Put_ok : compF Tryd.prog 42 = some (49, scriptingref35_Put_c, [.t 4]) := by kernel_rfl

end Go.Proofs.YtdnpnbenahpllaaDoor
