/-
  The code of the functions that this seat reaches, translated into abstract code (printed by a program, each proved to be the translation). No condition.
-/
import Derived.Test.YtdnpnbenahpllaaDoorCodeA
import Derived.Test.YtdnpnbenahpllaaDoorChecked
set_option maxRecDepth 1000000
namespace Go.Proofs.YtdnpnbenahpllaaDoor
open Go.Abs
@[go_sem] def scriptingref32_Writes_r0 : List AI := [
  ⟨(some 1), none, .box 430001 5 (.t 0)⟩,
  ⟨(some 2), none, .mov (.c .nils)⟩,
  ⟨(some 3), none, .mov (.c (.int .i64 0))⟩]
@[go_sem] def scriptingref32_Writes_r1 : List AI := [
  ⟨(some 4), none, .load 5 true (.t 1)⟩,
  ⟨(some 5), none, .call 35 [(.t 4)]⟩,
  ⟨(some 6), none, .bin .neq (.t 5) (.c (.int .i64 0))⟩]
@[go_sem] def scriptingref32_Writes_r2 : List AI := [
  ⟨(some 2), none, .mov (.c .nils)⟩,
  ⟨(some 3), none, .mov (.c (.int .i64 (-1)))⟩]
@[go_sem] def scriptingref32_Writes_r3 : List AI := [
  ⟨(some 7), none, .faddr 0 (.t 1)⟩,
  ⟨(some 8), none, .load 1 false (.t 7)⟩]
@[go_sem] def scriptingref32_Writes_r4 : List AI := [
  ⟨(some 10), none, .bin .eql (.t 8) (.c (.int .i64 1))⟩,
  ⟨(some 9), none, .mov (.t 10)⟩]
@[go_sem] def scriptingref32_Writes_r5 : List AI := [
  ⟨(some 11), none, .bin .eql (.t 8) (.c (.int .i64 2))⟩,
  ⟨(some 9), none, .mov (.t 11)⟩]
@[go_sem] def scriptingref32_Writes_r6 : List AI := [
  ⟨(some 12), none, .bin .eql (.t 8) (.c (.int .i64 4))⟩,
  ⟨(some 9), none, .mov (.t 12)⟩]
@[go_sem] def scriptingref32_Writes_r7 : List AI := [
  ⟨(some 13), none, .bin .eql (.t 8) (.c (.int .i64 5))⟩,
  ⟨(some 9), none, .mov (.t 13)⟩]
@[go_sem] def scriptingref32_Writes_r8 : List AI := [
  ⟨(some 14), none, .bin .eql (.t 8) (.c (.int .i64 7))⟩,
  ⟨(some 9), none, .mov (.t 14)⟩]
@[go_sem] def scriptingref32_Writes_r9 : List AI := [
  ⟨(some 15), none, .bin .eql (.t 8) (.c (.int .i64 9))⟩,
  ⟨(some 9), none, .mov (.t 15)⟩]
@[go_sem] def scriptingref32_Writes_r10 : List AI := [
  ⟨(some 16), none, .bin .eql (.t 8) (.c (.int .i64 12))⟩,
  ⟨(some 9), none, .mov (.t 16)⟩]
@[go_sem] def scriptingref32_Writes_r11 : List AI := [
  ⟨(some 17), none, .bin .eql (.t 8) (.c (.int .i64 13))⟩,
  ⟨(some 9), none, .mov (.t 17)⟩]
@[go_sem] def scriptingref32_Writes_r12 : List AI := [
  ⟨(some 18), none, .bin .eql (.t 8) (.c (.int .i64 20))⟩,
  ⟨(some 9), none, .mov (.t 18)⟩]
@[go_sem] def scriptingref32_Writes_r13 : List AI := [
  ⟨(some 19), none, .bin .eql (.t 8) (.c (.int .i64 22))⟩,
  ⟨(some 9), none, .mov (.t 19)⟩]
@[go_sem] def scriptingref32_Writes_r14 : List AI := [
  ⟨(some 20), none, .faddr 1 (.t 1)⟩,
  ⟨(some 21), none, .load 1 false (.t 20)⟩,
  ⟨(some 22), none, .mkrow 430022 1 [(.t 21)]⟩,
  ⟨(some 23), none, .call 53 [(.t 22)]⟩,
  ⟨(some 2), none, .mov (.t 23)⟩,
  ⟨(some 3), none, .mov (.c (.int .i64 (-1)))⟩]
@[go_sem] def scriptingref32_Writes_r15 : List AI := [
  ⟨(some 25), none, .bin .eql (.t 8) (.c (.int .i64 3))⟩,
  ⟨(some 24), none, .mov (.t 25)⟩]
@[go_sem] def scriptingref32_Writes_r16 : List AI := [
  ⟨(some 26), none, .faddr 1 (.t 1)⟩,
  ⟨(some 27), none, .load 1 false (.t 26)⟩,
  ⟨(some 28), none, .faddr 2 (.t 1)⟩,
  ⟨(some 29), none, .load 1 false (.t 28)⟩,
  ⟨(some 30), none, .faddr 1 (.t 1)⟩,
  ⟨(some 31), none, .load 1 false (.t 30)⟩,
  ⟨(some 32), none, .bin .sub (.t 29) (.t 31)⟩,
  ⟨(some 33), none, .bin .add (.t 32) (.c (.int .i64 1))⟩,
  ⟨(some 34), none, .call 55 [(.c .nils), (.t 27), (.t 33)]⟩,
  ⟨(some 2), none, .mov (.t 34)⟩,
  ⟨(some 3), none, .mov (.c (.int .i64 (-1)))⟩]
@[go_sem] def scriptingref32_Writes_r17 : List AI := [
  ⟨(some 36), none, .bin .eql (.t 8) (.c (.int .i64 11))⟩,
  ⟨(some 35), none, .mov (.t 36)⟩]
@[go_sem] def scriptingref32_Writes_r18 : List AI := [
  ⟨(some 37), none, .faddr 1 (.t 1)⟩,
  ⟨(some 38), none, .load 1 false (.t 37)⟩,
  ⟨(some 39), none, .faddr 1 (.t 1)⟩,
  ⟨(some 40), none, .load 1 false (.t 39)⟩,
  ⟨(some 41), none, .bin .add (.t 40) (.c (.int .i64 1))⟩,
  ⟨(some 42), none, .mkrow 430042 1 [(.t 38), (.t 41)]⟩,
  ⟨(some 43), none, .call 53 [(.t 42)]⟩,
  ⟨(some 2), none, .mov (.t 43)⟩,
  ⟨(some 3), none, .mov (.c (.int .i64 (-1)))⟩]
@[go_sem] def scriptingref32_Writes_r19 : List AI := [
  ⟨(some 45), none, .bin .eql (.t 8) (.c (.int .i64 16))⟩,
  ⟨(some 44), none, .mov (.t 45)⟩]
@[go_sem] def scriptingref32_Writes_r20 : List AI := [
  ⟨(some 46), none, .faddr 1 (.t 1)⟩,
  ⟨(some 47), none, .load 1 false (.t 46)⟩,
  ⟨(some 48), none, .faddr 3 (.t 1)⟩,
  ⟨(some 49), none, .load 1 false (.t 48)⟩,
  ⟨(some 50), none, .call 54 [(.c .nils), (.t 47), (.t 49)]⟩,
  ⟨(some 51), none, .ext 0 (.t 50)⟩,
  ⟨(some 52), none, .ext 1 (.t 50)⟩,
  ⟨(some 2), none, .mov (.t 51)⟩,
  ⟨(some 3), none, .mov (.t 52)⟩]
@[go_sem] def scriptingref32_Writes_r21 : List AI := [
  ⟨(some 54), none, .bin .eql (.t 8) (.c (.int .i64 19))⟩,
  ⟨(some 53), none, .mov (.t 54)⟩]
@[go_sem] def scriptingref32_Writes_r22 : List AI := [
  ⟨(some 55), none, .faddr 1 (.t 1)⟩,
  ⟨(some 56), none, .load 1 false (.t 55)⟩,
  ⟨(some 57), none, .faddr 2 (.t 1)⟩,
  ⟨(some 58), none, .load 1 false (.t 57)⟩,
  ⟨(some 59), none, .call 54 [(.c .nils), (.t 56), (.t 58)]⟩,
  ⟨(some 60), none, .ext 0 (.t 59)⟩,
  ⟨(some 61), none, .ext 1 (.t 59)⟩,
  ⟨(some 2), none, .mov (.t 60)⟩,
  ⟨(some 3), none, .mov (.t 61)⟩]
@[go_sem] def scriptingref32_Writes_r23 : List AI := [
  ⟨(some 63), none, .bin .eql (.t 8) (.c (.int .i64 23))⟩,
  ⟨(some 62), none, .mov (.t 63)⟩]
@[go_sem] def scriptingref32_Writes_r24 : List AI := [
  ⟨(some 64), none, .faddr 1 (.t 1)⟩,
  ⟨(some 65), none, .load 1 false (.t 64)⟩,
  ⟨(some 66), none, .bin .add (.t 65) (.c (.int .i64 3))⟩,
  ⟨(some 67), none, .mkrow 430067 1 [(.t 66)]⟩,
  ⟨(some 68), none, .call 53 [(.t 67)]⟩,
  ⟨(some 2), none, .mov (.t 68)⟩,
  ⟨(some 3), none, .mov (.c (.int .i64 (-1)))⟩]
@[go_sem] def scriptingref32_Writes_r25 : List AI := [
  ⟨(some 70), none, .bin .eql (.t 8) (.c (.int .i64 24))⟩,
  ⟨(some 69), none, .mov (.t 70)⟩]
@[go_sem] def scriptingref32_Writes_r26 : List AI := [
  ⟨(some 71), none, .faddr 1 (.t 1)⟩,
  ⟨(some 72), none, .load 1 false (.t 71)⟩,
  ⟨(some 73), none, .faddr 1 (.t 1)⟩,
  ⟨(some 74), none, .load 1 false (.t 73)⟩,
  ⟨(some 75), none, .bin .add (.t 74) (.c (.int .i64 3))⟩,
  ⟨(some 76), none, .mkrow 430076 1 [(.t 72), (.t 75)]⟩,
  ⟨(some 77), none, .call 53 [(.t 76)]⟩,
  ⟨(some 2), none, .mov (.t 77)⟩,
  ⟨(some 3), none, .mov (.c (.int .i64 (-1)))⟩]
@[go_sem] def scriptingref32_Writes_r27 : List AI := [
  ⟨(some 79), none, .bin .eql (.t 8) (.c (.int .i64 25))⟩,
  ⟨(some 78), none, .mov (.t 79)⟩]
@[go_sem] def scriptingref32_Writes_r28 : List AI := [
  ⟨(some 80), none, .faddr 1 (.t 1)⟩,
  ⟨(some 81), none, .load 1 false (.t 80)⟩,
  ⟨(some 82), none, .bin .add (.t 81) (.c (.int .i64 3))⟩,
  ⟨(some 83), none, .faddr 3 (.t 1)⟩,
  ⟨(some 84), none, .load 1 false (.t 83)⟩,
  ⟨(some 85), none, .call 55 [(.c .nils), (.t 82), (.t 84)]⟩,
  ⟨(some 2), none, .mov (.t 85)⟩,
  ⟨(some 3), none, .mov (.c (.int .i64 (-1)))⟩]
@[go_sem] def scriptingref32_Writes_r29 : List AI := [
  ⟨(some 87), none, .bin .eql (.t 8) (.c (.int .i64 26))⟩,
  ⟨(some 86), none, .mov (.t 87)⟩]
@[go_sem] def scriptingref32_Writes_r30 : List AI := [
  ⟨(some 88), none, .faddr 1 (.t 1)⟩,
  ⟨(some 89), none, .load 1 false (.t 88)⟩,
  ⟨(some 90), none, .bin .add (.t 89) (.c (.int .i64 2))⟩,
  ⟨(some 91), none, .mkrow 430091 1 [(.t 90)]⟩,
  ⟨(some 92), none, .call 53 [(.t 91)]⟩,
  ⟨(some 2), none, .mov (.t 92)⟩,
  ⟨(some 3), none, .mov (.c (.int .i64 (-1)))⟩]
@[go_sem] def scriptingref32_Writes_r31 : List AI := [
  ⟨(some 2), none, .mov (.c .nils)⟩,
  ⟨(some 3), none, .mov (.c (.int .i64 (-1)))⟩]
@[go_sem] def scriptingref32_Writes_c : AC := .seq (.ops [scriptingref32_Writes_r0]) (.seq (.seq (.ops [scriptingref32_Writes_r1]) (.cond (.t 6) (.seq (.ops [scriptingref32_Writes_r2]) (.ret)) (.skip))) (.seq (.seq (.ops [scriptingref32_Writes_r3]) (.block 0 (.seq (.seq (.ops [scriptingref32_Writes_r4]) (.cond (.t 9) (.skip) (.seq (.ops [scriptingref32_Writes_r5]) (.cond (.t 9) (.skip) (.seq (.ops [scriptingref32_Writes_r6]) (.cond (.t 9) (.skip) (.seq (.ops [scriptingref32_Writes_r7]) (.cond (.t 9) (.skip) (.seq (.ops [scriptingref32_Writes_r8]) (.cond (.t 9) (.skip) (.seq (.ops [scriptingref32_Writes_r9]) (.cond (.t 9) (.skip) (.seq (.ops [scriptingref32_Writes_r10]) (.cond (.t 9) (.skip) (.seq (.ops [scriptingref32_Writes_r11]) (.cond (.t 9) (.skip) (.seq (.ops [scriptingref32_Writes_r12]) (.cond (.t 9) (.skip) (.ops [scriptingref32_Writes_r13]))))))))))))))))))) (.cond (.t 9) (.seq (.ops [scriptingref32_Writes_r14]) (.ret)) (.seq (.ops [scriptingref32_Writes_r15]) (.cond (.t 24) (.seq (.ops [scriptingref32_Writes_r16]) (.ret)) (.seq (.ops [scriptingref32_Writes_r17]) (.cond (.t 35) (.seq (.ops [scriptingref32_Writes_r18]) (.ret)) (.seq (.ops [scriptingref32_Writes_r19]) (.cond (.t 44) (.seq (.ops [scriptingref32_Writes_r20]) (.ret)) (.seq (.ops [scriptingref32_Writes_r21]) (.cond (.t 53) (.seq (.ops [scriptingref32_Writes_r22]) (.ret)) (.seq (.ops [scriptingref32_Writes_r23]) (.cond (.t 62) (.seq (.ops [scriptingref32_Writes_r24]) (.ret)) (.seq (.ops [scriptingref32_Writes_r25]) (.cond (.t 69) (.seq (.ops [scriptingref32_Writes_r26]) (.ret)) (.seq (.ops [scriptingref32_Writes_r27]) (.cond (.t 78) (.seq (.ops [scriptingref32_Writes_r28]) (.ret)) (.seq (.ops [scriptingref32_Writes_r29]) (.cond (.t 86) (.seq (.ops [scriptingref32_Writes_r30]) (.ret)) (.skip))))))))))))))))))))) (.seq (.ops [scriptingref32_Writes_r31]) (.ret))))
theorem scriptingref32_Writes_ok : compF Tryd.prog 43 = some (93, scriptingref32_Writes_c, [.t 2, .t 3]) := by kernel_rfl

@[go_sem] def slices_pdqsortOrdered_int_r0 : List AI := [
  ⟨(some 8), none, .mov (.c (.bool true))⟩]
@[go_sem] def slices_pdqsortOrdered_int_r1 : List AI := [
  ⟨(some 9), none, .mov (.c (.bool true))⟩]
@[go_sem] def slices_pdqsortOrdered_int_r2 : List AI := [
  ⟨(some 19), none, .mov (.t 2)⟩,
  ⟨(some 20), none, .mov (.t 1)⟩,
  ⟨(some 21), none, .bin .sub (.t 19) (.t 20)⟩,
  ⟨(some 10), none, .mov (.t 21)⟩]
@[go_sem] def slices_pdqsortOrdered_int_r3 : List AI := [
  ⟨(some 22), none, .mov (.t 10)⟩,
  ⟨(some 23), none, .bin .leq (.t 22) (.c (.int .i64 12))⟩]
@[go_sem] def slices_pdqsortOrdered_int_r4 : List AI := [
  ⟨(some 24), none, .mov (.t 0)⟩,
  ⟨(some 25), none, .mov (.t 1)⟩,
  ⟨(some 26), none, .mov (.t 2)⟩,
  ⟨(some 27), none, .call 56 [(.t 24), (.t 25), (.t 26)]⟩]
@[go_sem] def slices_pdqsortOrdered_int_r5 : List AI := [
  ⟨(some 28), none, .mov (.t 3)⟩,
  ⟨(some 29), none, .bin .eql (.t 28) (.c (.int .i64 0))⟩]
@[go_sem] def slices_pdqsortOrdered_int_r6 : List AI := [
  ⟨(some 30), none, .mov (.t 0)⟩,
  ⟨(some 31), none, .mov (.t 1)⟩,
  ⟨(some 32), none, .mov (.t 2)⟩,
  ⟨(some 33), none, .call 57 [(.t 30), (.t 31), (.t 32)]⟩]
@[go_sem] def slices_pdqsortOrdered_int_r7 : List AI := [
  ⟨(some 34), none, .mov (.t 8)⟩,
  ⟨(some 35), none, .un .not (.t 34)⟩]
@[go_sem] def slices_pdqsortOrdered_int_r8 : List AI := [
  ⟨(some 36), none, .mov (.t 0)⟩,
  ⟨(some 37), none, .mov (.t 1)⟩,
  ⟨(some 38), none, .mov (.t 2)⟩,
  ⟨(some 39), none, .call 58 [(.t 36), (.t 37), (.t 38)]⟩]
@[go_sem] def slices_pdqsortOrdered_int_r9 : List AI := [
  ⟨(some 40), none, .mov (.t 3)⟩,
  ⟨(some 41), none, .bin .sub (.t 40) (.c (.int .i64 1))⟩,
  ⟨(some 3), none, .mov (.t 41)⟩]
@[go_sem] def slices_pdqsortOrdered_int_r10 : List AI := [
  ⟨(some 43), none, .mov (.t 0)⟩,
  ⟨(some 44), none, .mov (.t 1)⟩,
  ⟨(some 45), none, .mov (.t 2)⟩,
  ⟨(some 46), none, .call 59 [(.t 43), (.t 44), (.t 45)]⟩,
  ⟨(some 42), none, .mov (.t 46)⟩,
  ⟨(some 47), none, .ext 0 (.t 42)⟩,
  ⟨(some 48), none, .ext 1 (.t 42)⟩,
  ⟨(some 11), none, .mov (.t 47)⟩,
  ⟨(some 12), none, .mov (.t 48)⟩]
@[go_sem] def slices_pdqsortOrdered_int_r11 : List AI := [
  ⟨(some 49), none, .mov (.t 12)⟩,
  ⟨(some 50), none, .bin .eql (.t 49) (.c (.int .i64 2))⟩]
@[go_sem] def slices_pdqsortOrdered_int_r12 : List AI := [
  ⟨(some 51), none, .mov (.t 0)⟩,
  ⟨(some 52), none, .mov (.t 1)⟩,
  ⟨(some 53), none, .mov (.t 2)⟩,
  ⟨(some 54), none, .call 60 [(.t 51), (.t 52), (.t 53)]⟩]
@[go_sem] def slices_pdqsortOrdered_int_r13 : List AI := [
  ⟨(some 55), none, .mov (.t 2)⟩,
  ⟨(some 56), none, .bin .sub (.t 55) (.c (.int .i64 1))⟩,
  ⟨(some 57), none, .mov (.t 11)⟩,
  ⟨(some 58), none, .mov (.t 1)⟩,
  ⟨(some 59), none, .bin .sub (.t 57) (.t 58)⟩,
  ⟨(some 60), none, .bin .sub (.t 56) (.t 59)⟩,
  ⟨(some 11), none, .mov (.t 60)⟩]
@[go_sem] def slices_pdqsortOrdered_int_r14 : List AI := [
  ⟨(some 12), none, .mov (.c (.int .i64 1))⟩]
@[go_sem] def slices_pdqsortOrdered_int_r15 : List AI := [
  ⟨(some 61), none, .mov (.t 8)⟩,
  ⟨(some 62), none, .mov (.t 61)⟩,
  ⟨(some 63), (some (62, true)), .mov (.t 9)⟩,
  ⟨(some 64), none, .pick (.t 62) (.t 63) (.c (.bool false))⟩,
  ⟨(some 65), none, .mov (.t 64)⟩,
  ⟨(some 66), (some (65, true)), .mov (.t 12)⟩,
  ⟨(some 67), (some (65, true)), .bin .eql (.t 66) (.c (.int .i64 1))⟩,
  ⟨(some 68), none, .pick (.t 65) (.t 67) (.c (.bool false))⟩]
@[go_sem] def slices_pdqsortOrdered_int_r16 : List AI := [
  ⟨(some 69), none, .mov (.t 0)⟩,
  ⟨(some 70), none, .mov (.t 1)⟩,
  ⟨(some 71), none, .mov (.t 2)⟩,
  ⟨(some 72), none, .call 61 [(.t 69), (.t 70), (.t 71)]⟩]
@[go_sem] def slices_pdqsortOrdered_int_r17 : List AI := [
  ⟨(some 73), none, .mov (.t 1)⟩,
  ⟨(some 74), none, .bin .gtr (.t 73) (.c (.int .i64 0))⟩,
  ⟨(some 75), none, .mov (.t 74)⟩,
  ⟨(some 76), (some (75, true)), .mov (.t 0)⟩,
  ⟨(some 77), (some (75, true)), .mov (.t 1)⟩,
  ⟨(some 78), (some (75, true)), .bin .sub (.t 77) (.c (.int .i64 1))⟩,
  ⟨(some 79), (some (75, true)), .iaddr 1 (.t 76) (.t 78)⟩,
  ⟨(some 80), (some (75, true)), .load 1 false (.t 79)⟩,
  ⟨(some 81), (some (75, true)), .mov (.t 0)⟩,
  ⟨(some 82), (some (75, true)), .mov (.t 11)⟩,
  ⟨(some 83), (some (75, true)), .iaddr 1 (.t 81) (.t 82)⟩,
  ⟨(some 84), (some (75, true)), .load 1 false (.t 83)⟩,
  ⟨(some 85), (some (75, true)), .call 62 [(.t 80), (.t 84)]⟩,
  ⟨(some 86), (some (75, true)), .un .not (.t 85)⟩,
  ⟨(some 87), none, .pick (.t 75) (.t 86) (.c (.bool false))⟩]
@[go_sem] def slices_pdqsortOrdered_int_r18 : List AI := [
  ⟨(some 88), none, .mov (.t 0)⟩,
  ⟨(some 89), none, .mov (.t 1)⟩,
  ⟨(some 90), none, .mov (.t 2)⟩,
  ⟨(some 91), none, .mov (.t 11)⟩,
  ⟨(some 92), none, .call 63 [(.t 88), (.t 89), (.t 90), (.t 91)]⟩,
  ⟨(some 13), none, .mov (.t 92)⟩]
@[go_sem] def slices_pdqsortOrdered_int_r19 : List AI := [
  ⟨(some 93), none, .mov (.t 13)⟩,
  ⟨(some 1), none, .mov (.t 93)⟩]
@[go_sem] def slices_pdqsortOrdered_int_r20 : List AI := [
  ⟨(some 95), none, .mov (.t 0)⟩,
  ⟨(some 96), none, .mov (.t 1)⟩,
  ⟨(some 97), none, .mov (.t 2)⟩,
  ⟨(some 98), none, .mov (.t 11)⟩,
  ⟨(some 99), none, .call 64 [(.t 95), (.t 96), (.t 97), (.t 98)]⟩,
  ⟨(some 94), none, .mov (.t 99)⟩,
  ⟨(some 100), none, .ext 0 (.t 94)⟩,
  ⟨(some 101), none, .ext 1 (.t 94)⟩,
  ⟨(some 14), none, .mov (.t 100)⟩,
  ⟨(some 15), none, .mov (.t 101)⟩]
@[go_sem] def slices_pdqsortOrdered_int_r21 : List AI := [
  ⟨(some 102), none, .mov (.t 15)⟩,
  ⟨(some 9), none, .mov (.t 102)⟩]
@[go_sem] def slices_pdqsortOrdered_int_r22 : List AI := [
  ⟨(some 103), none, .mov (.t 14)⟩,
  ⟨(some 104), none, .mov (.t 1)⟩,
  ⟨(some 105), none, .bin .sub (.t 103) (.t 104)⟩,
  ⟨(some 106), none, .mov (.t 2)⟩,
  ⟨(some 107), none, .mov (.t 14)⟩,
  ⟨(some 108), none, .bin .sub (.t 106) (.t 107)⟩,
  ⟨(some 16), none, .mov (.t 105)⟩,
  ⟨(some 17), none, .mov (.t 108)⟩]
@[go_sem] def slices_pdqsortOrdered_int_r23 : List AI := [
  ⟨(some 109), none, .mov (.t 10)⟩,
  ⟨(some 110), none, .bin .quo (.t 109) (.c (.int .i64 8))⟩,
  ⟨(some 18), none, .mov (.t 110)⟩]
@[go_sem] def slices_pdqsortOrdered_int_r24 : List AI := [
  ⟨(some 111), none, .mov (.t 16)⟩,
  ⟨(some 112), none, .mov (.t 17)⟩,
  ⟨(some 113), none, .bin .lss (.t 111) (.t 112)⟩]
@[go_sem] def slices_pdqsortOrdered_int_r25 : List AI := [
  ⟨(some 114), none, .mov (.t 16)⟩,
  ⟨(some 115), none, .mov (.t 18)⟩,
  ⟨(some 116), none, .bin .geq (.t 114) (.t 115)⟩,
  ⟨(some 8), none, .mov (.t 116)⟩]
@[go_sem] def slices_pdqsortOrdered_int_r26 : List AI := [
  ⟨(some 117), none, .mov (.t 0)⟩,
  ⟨(some 118), none, .mov (.t 1)⟩,
  ⟨(some 119), none, .mov (.t 14)⟩,
  ⟨(some 120), none, .mov (.t 3)⟩,
  ⟨(some 121), none, .call 44 [(.t 117), (.t 118), (.t 119), (.t 120)]⟩]
@[go_sem] def slices_pdqsortOrdered_int_r27 : List AI := [
  ⟨(some 122), none, .mov (.t 14)⟩,
  ⟨(some 123), none, .bin .add (.t 122) (.c (.int .i64 1))⟩,
  ⟨(some 1), none, .mov (.t 123)⟩]
@[go_sem] def slices_pdqsortOrdered_int_r28 : List AI := [
  ⟨(some 124), none, .mov (.t 17)⟩,
  ⟨(some 125), none, .mov (.t 18)⟩,
  ⟨(some 126), none, .bin .geq (.t 124) (.t 125)⟩,
  ⟨(some 8), none, .mov (.t 126)⟩]
@[go_sem] def slices_pdqsortOrdered_int_r29 : List AI := [
  ⟨(some 127), none, .mov (.t 0)⟩,
  ⟨(some 128), none, .mov (.t 14)⟩,
  ⟨(some 129), none, .bin .add (.t 128) (.c (.int .i64 1))⟩,
  ⟨(some 130), none, .mov (.t 2)⟩,
  ⟨(some 131), none, .mov (.t 3)⟩,
  ⟨(some 132), none, .call 44 [(.t 127), (.t 129), (.t 130), (.t 131)]⟩]
@[go_sem] def slices_pdqsortOrdered_int_r30 : List AI := [
  ⟨(some 133), none, .mov (.t 14)⟩,
  ⟨(some 2), none, .mov (.t 133)⟩]
def slices_pdqsortOrdered_int_l0 : AC := .block 1 (.seq (.ops [slices_pdqsortOrdered_int_r2]) (.seq (.seq (.ops [slices_pdqsortOrdered_int_r3]) (.cond (.t 23) (.seq (.ops [slices_pdqsortOrdered_int_r4]) (.ret)) (.skip))) (.seq (.seq (.ops [slices_pdqsortOrdered_int_r5]) (.cond (.t 29) (.seq (.ops [slices_pdqsortOrdered_int_r6]) (.ret)) (.skip))) (.seq (.seq (.ops [slices_pdqsortOrdered_int_r7]) (.cond (.t 35) (.seq (.ops [slices_pdqsortOrdered_int_r8]) (.ops [slices_pdqsortOrdered_int_r9])) (.skip))) (.seq (.ops [slices_pdqsortOrdered_int_r10]) (.seq (.seq (.ops [slices_pdqsortOrdered_int_r11]) (.cond (.t 50) (.seq (.ops [slices_pdqsortOrdered_int_r12]) (.seq (.ops [slices_pdqsortOrdered_int_r13]) (.ops [slices_pdqsortOrdered_int_r14]))) (.skip))) (.seq (.seq (.ops [slices_pdqsortOrdered_int_r15]) (.cond (.t 68) (.seq (.ops [slices_pdqsortOrdered_int_r16]) (.cond (.t 72) (.ret) (.skip))) (.skip))) (.seq (.seq (.ops [slices_pdqsortOrdered_int_r17]) (.cond (.t 87) (.seq (.ops [slices_pdqsortOrdered_int_r18]) (.seq (.ops [slices_pdqsortOrdered_int_r19]) (.exit 1))) (.skip))) (.seq (.ops [slices_pdqsortOrdered_int_r20]) (.seq (.ops [slices_pdqsortOrdered_int_r21]) (.seq (.ops [slices_pdqsortOrdered_int_r22]) (.seq (.ops [slices_pdqsortOrdered_int_r23]) (.seq (.ops [slices_pdqsortOrdered_int_r24]) (.cond (.t 113) (.seq (.ops [slices_pdqsortOrdered_int_r25]) (.seq (.ops [slices_pdqsortOrdered_int_r26]) (.ops [slices_pdqsortOrdered_int_r27]))) (.seq (.ops [slices_pdqsortOrdered_int_r28]) (.seq (.ops [slices_pdqsortOrdered_int_r29]) (.ops [slices_pdqsortOrdered_int_r30])))))))))))))))))
theorem slices_pdqsortOrdered_int_l0_eq : slices_pdqsortOrdered_int_l0 = .block 1 (.seq (.ops [slices_pdqsortOrdered_int_r2]) (.seq (.seq (.ops [slices_pdqsortOrdered_int_r3]) (.cond (.t 23) (.seq (.ops [slices_pdqsortOrdered_int_r4]) (.ret)) (.skip))) (.seq (.seq (.ops [slices_pdqsortOrdered_int_r5]) (.cond (.t 29) (.seq (.ops [slices_pdqsortOrdered_int_r6]) (.ret)) (.skip))) (.seq (.seq (.ops [slices_pdqsortOrdered_int_r7]) (.cond (.t 35) (.seq (.ops [slices_pdqsortOrdered_int_r8]) (.ops [slices_pdqsortOrdered_int_r9])) (.skip))) (.seq (.ops [slices_pdqsortOrdered_int_r10]) (.seq (.seq (.ops [slices_pdqsortOrdered_int_r11]) (.cond (.t 50) (.seq (.ops [slices_pdqsortOrdered_int_r12]) (.seq (.ops [slices_pdqsortOrdered_int_r13]) (.ops [slices_pdqsortOrdered_int_r14]))) (.skip))) (.seq (.seq (.ops [slices_pdqsortOrdered_int_r15]) (.cond (.t 68) (.seq (.ops [slices_pdqsortOrdered_int_r16]) (.cond (.t 72) (.ret) (.skip))) (.skip))) (.seq (.seq (.ops [slices_pdqsortOrdered_int_r17]) (.cond (.t 87) (.seq (.ops [slices_pdqsortOrdered_int_r18]) (.seq (.ops [slices_pdqsortOrdered_int_r19]) (.exit 1))) (.skip))) (.seq (.ops [slices_pdqsortOrdered_int_r20]) (.seq (.ops [slices_pdqsortOrdered_int_r21]) (.seq (.ops [slices_pdqsortOrdered_int_r22]) (.seq (.ops [slices_pdqsortOrdered_int_r23]) (.seq (.ops [slices_pdqsortOrdered_int_r24]) (.cond (.t 113) (.seq (.ops [slices_pdqsortOrdered_int_r25]) (.seq (.ops [slices_pdqsortOrdered_int_r26]) (.ops [slices_pdqsortOrdered_int_r27]))) (.seq (.ops [slices_pdqsortOrdered_int_r28]) (.seq (.ops [slices_pdqsortOrdered_int_r29]) (.ops [slices_pdqsortOrdered_int_r30]))))))))))))))))) := rfl
@[go_sem] def slices_pdqsortOrdered_int_c : AC := .seq (.ops [slices_pdqsortOrdered_int_r0]) (.seq (.ops [slices_pdqsortOrdered_int_r1]) (.block 0 (.loop slices_pdqsortOrdered_int_l0)))
theorem slices_pdqsortOrdered_int_ok : compF Tryd.prog 44 = some (134, slices_pdqsortOrdered_int_c, []) := by kernel_rfl

@[go_sem] def math_bits_Len_r0 : List AI := [
  ⟨(some 2), none, .mov (.c (.int .i64 0))⟩]
@[go_sem] def math_bits_Len_r1 : List AI := [
  ⟨(some 3), none, .mov (.t 0)⟩,
  ⟨(some 4), none, .conv .u32 (.t 3)⟩,
  ⟨(some 5), none, .call 65 [(.t 4)]⟩,
  ⟨(some 2), none, .mov (.t 5)⟩]
@[go_sem] def math_bits_Len_r2 : List AI := [
  ⟨(some 6), none, .mov (.t 0)⟩,
  ⟨(some 7), none, .call 66 [(.t 6)]⟩,
  ⟨(some 2), none, .mov (.t 7)⟩]
@[go_sem] def math_bits_Len_c : AC := .seq (.ops [math_bits_Len_r0]) (.seq (.cond (.c (.bool false)) (.seq (.ops [math_bits_Len_r1]) (.ret)) (.skip)) (.seq (.ops [math_bits_Len_r2]) (.ret)))
theorem math_bits_Len_ok : compF Tryd.prog 45 = some (8, math_bits_Len_c, [.t 2]) := by kernel_rfl

@[go_sem] def opcode_of_r0 : List AI := [
  ⟨(some 2), none, .box 460002 6 (.c (.agg [(.str []), (.int .i64 0), (.int .i64 0), (.int .i64 0), (.int .i64 0), (.int .i64 0)]))⟩,
  ⟨(some 3), none, .mov (.c (.bool false))⟩]
@[go_sem] def opcode_of_r1 : List AI := [
  ⟨(some 6), none, .call 67 [(.c (.str [109, 111, 118, 101, 32, 99, 111, 110, 115, 116, 32, 110, 105, 108, 32, 98, 111, 111, 108, 32, 117, 112, 103, 101, 116, 32, 117, 112, 115, 101, 116, 32, 103, 108, 111, 98, 97, 108, 32, 115, 101, 116, 103, 108, 111, 98, 32, 103, 101, 116, 32, 115, 101, 116, 32, 115, 101, 108, 102, 32, 117, 110, 97, 114, 121, 32, 98, 105, 110, 97, 114, 121, 32, 106, 117, 109, 112, 32, 116, 101, 115, 116, 32, 99, 97, 108, 108, 32, 116, 97, 105, 108, 32, 114, 101, 116, 117, 114, 110, 32, 118, 97, 114, 97, 114, 103, 32, 116, 97, 98, 108, 101, 32, 97, 112, 112, 101, 110, 100, 32, 99, 108, 111, 115, 117, 114, 101, 32, 112, 114, 101, 112, 32, 108, 111, 111, 112, 32, 105, 116, 101, 114, 32, 110, 101, 120, 116, 32, 99, 108, 111, 115, 101, 32, 109, 97, 114, 107, 32, 115, 116, 97, 116]))]⟩,
  ⟨(some 4), none, .mov (.t 6)⟩]
@[go_sem] def opcode_of_r2 : List AI := [
  ⟨(some 7), none, .mov (.t 0)⟩,
  ⟨(some 8), none, .bin .lss (.t 7) (.c (.int .i64 1))⟩,
  ⟨(some 9), none, .mov (.t 8)⟩,
  ⟨(some 10), (some (9, false)), .mov (.t 0)⟩,
  ⟨(some 11), (some (9, false)), .mov (.t 4)⟩,
  ⟨(some 12), (some (9, false)), .len 0 (.t 11)⟩,
  ⟨(some 13), (some (9, false)), .bin .gtr (.t 10) (.t 12)⟩,
  ⟨(some 14), none, .pick (.t 9) (.c (.bool true)) (.t 13)⟩]
@[go_sem] def opcode_of_r3 : List AI := [
  ⟨(some 15), none, .build [(.str []), (.int .i64 0), (.int .i64 0), (.int .i64 0), (.int .i64 0), (.int .i64 0)] []⟩,
  ⟨none, none, .store 6 (.t 2) (.t 15)⟩,
  ⟨(some 3), none, .mov (.c (.bool false))⟩]
@[go_sem] def opcode_of_r4 : List AI := [
  ⟨(some 16), none, .mov (.t 0)⟩,
  ⟨(some 17), none, .call 68 [(.t 16)]⟩,
  ⟨(some 5), none, .box 460005 6 (.c (.agg [(.str []), (.int .i64 0), (.int .i64 0), (.int .i64 0), (.int .i64 0), (.int .i64 0)]))⟩,
  ⟨none, none, .store 6 (.t 5) (.t 17)⟩]
@[go_sem] def opcode_of_r5 : List AI := [
  ⟨(some 18), none, .mov (.t 4)⟩,
  ⟨(some 19), none, .mov (.t 0)⟩,
  ⟨(some 20), none, .bin .sub (.t 19) (.c (.int .i64 1))⟩,
  ⟨(some 21), none, .iaddr 1 (.t 18) (.t 20)⟩,
  ⟨(some 22), none, .load 1 false (.t 21)⟩,
  ⟨(some 23), none, .faddr 0 (.t 5)⟩,
  ⟨none, none, .store 1 (.t 23) (.t 22)⟩]
@[go_sem] def opcode_of_r6 : List AI := [
  ⟨(some 24), none, .load 6 true (.t 5)⟩,
  ⟨none, none, .store 6 (.t 2) (.t 24)⟩,
  ⟨(some 3), none, .mov (.c (.bool true))⟩]
@[go_sem] def opcode_of_c : AC := .seq (.ops [opcode_of_r0]) (.seq (.ops [opcode_of_r1]) (.seq (.seq (.ops [opcode_of_r2]) (.cond (.t 14) (.seq (.ops [opcode_of_r3]) (.ret)) (.skip))) (.seq (.ops [opcode_of_r4]) (.seq (.ops [opcode_of_r5]) (.seq (.ops [opcode_of_r6]) (.ret))))))
theorem opcode_of_ok : compF Tryd.prog 46 = some (25, opcode_of_c, [.c 2 6 true, .t 3]) := by kernel_rfl

@[go_sem] def opcode_fields_r0 : List AI := [
  ⟨(some 2), none, .box 470002 6 (.t 0)⟩,
  ⟨(some 3), none, .box 470003 5 (.t 1)⟩,
  ⟨(some 4), none, .box 470004 4 (.c (.agg [(.int .i64 0), (.int .i64 0), (.int .i64 0), (.int .i64 0)]))⟩,
  ⟨(some 5), none, .box 470005 4 (.c (.agg [(.int .i64 0), (.int .i64 0), (.int .i64 0), (.int .i64 0)]))⟩]
@[go_sem] def opcode_fields_r1_0 : List AI := [
  ⟨(some 6), none, .faddr 1 (.t 2)⟩,
  ⟨(some 7), none, .load 1 false (.t 6)⟩,
  ⟨(some 8), none, .faddr 2 (.t 2)⟩,
  ⟨(some 9), none, .load 1 false (.t 8)⟩,
  ⟨(some 10), none, .faddr 3 (.t 2)⟩,
  ⟨(some 11), none, .load 1 false (.t 10)⟩,
  ⟨(some 12), none, .faddr 4 (.t 2)⟩,
  ⟨(some 13), none, .load 1 false (.t 12)⟩,
  ⟨(some 14), none, .build [(.int .i64 0), (.int .i64 0), (.int .i64 0), (.int .i64 0)] [(0, 1, (.t 7)), (1, 1, (.t 9)), (2, 1, (.t 11)), (3, 1, (.t 13))]⟩,
  ⟨(some 15), none, .faddr 1 (.t 3)⟩,
  ⟨(some 16), none, .load 1 false (.t 15)⟩,
  ⟨(some 17), none, .faddr 2 (.t 3)⟩,
  ⟨(some 18), none, .load 1 false (.t 17)⟩,
  ⟨(some 19), none, .faddr 3 (.t 3)⟩,
  ⟨(some 20), none, .load 1 false (.t 19)⟩,
  ⟨(some 21), none, .faddr 4 (.t 3)⟩,
  ⟨(some 22), none, .load 1 false (.t 21)⟩,
  ⟨(some 23), none, .build [(.int .i64 0), (.int .i64 0), (.int .i64 0), (.int .i64 0)] [(0, 1, (.t 16)), (1, 1, (.t 18)), (2, 1, (.t 20)), (3, 1, (.t 22))]⟩,
  ⟨none, none, .store 4 (.t 4) (.t 14)⟩,
  ⟨none, none, .store 4 (.t 5) (.t 23)⟩]
@[go_sem] def opcode_fields_r1_1 : List AI := [
  ⟨(some 6), none, .faddr 1 (.t 2)⟩,
  ⟨(some 7), none, .load 1 false (.t 6)⟩,
  ⟨(some 8), none, .faddr 2 (.t 2)⟩,
  ⟨(some 9), none, .load 1 false (.t 8)⟩,
  ⟨(some 10), none, .faddr 3 (.t 2)⟩,
  ⟨(some 11), none, .load 1 false (.t 10)⟩,
  ⟨(some 12), none, .faddr 4 (.t 2)⟩,
  ⟨(some 13), none, .load 1 false (.t 12)⟩,
  ⟨(some 14), none, .build [(.int .i64 0), (.int .i64 0), (.int .i64 0), (.int .i64 0)] [(0, 1, (.t 7)), (1, 1, (.t 9)), (2, 1, (.t 11)), (3, 1, (.t 13))]⟩,
  ⟨(some 15), none, .faddr 1 (.t 3)⟩,
  ⟨(some 16), none, .load 1 false (.t 15)⟩,
  ⟨(some 17), none, .faddr 2 (.t 3)⟩,
  ⟨(some 18), none, .load 1 false (.t 17)⟩,
  ⟨(some 19), none, .faddr 3 (.t 3)⟩,
  ⟨(some 20), none, .load 1 false (.t 19)⟩,
  ⟨(some 21), none, .faddr 4 (.t 3)⟩,
  ⟨none, none, .store 4 (.t 4) (.t 14)⟩,
  ⟨(some 22), none, .load 1 false (.t 21)⟩,
  ⟨(some 23), none, .build [(.int .i64 0), (.int .i64 0), (.int .i64 0), (.int .i64 0)] [(0, 1, (.t 16)), (1, 1, (.t 18)), (2, 1, (.t 20)), (3, 1, (.t 22))]⟩,
  ⟨none, none, .store 4 (.t 5) (.t 23)⟩]
@[go_sem] def opcode_fields_r1_2 : List AI := [
  ⟨(some 6), none, .faddr 1 (.t 2)⟩,
  ⟨(some 7), none, .load 1 false (.t 6)⟩,
  ⟨(some 8), none, .faddr 2 (.t 2)⟩,
  ⟨(some 9), none, .load 1 false (.t 8)⟩,
  ⟨(some 10), none, .faddr 3 (.t 2)⟩,
  ⟨(some 11), none, .load 1 false (.t 10)⟩,
  ⟨(some 12), none, .faddr 4 (.t 2)⟩,
  ⟨(some 13), none, .load 1 false (.t 12)⟩,
  ⟨(some 14), none, .build [(.int .i64 0), (.int .i64 0), (.int .i64 0), (.int .i64 0)] [(0, 1, (.t 7)), (1, 1, (.t 9)), (2, 1, (.t 11)), (3, 1, (.t 13))]⟩,
  ⟨(some 15), none, .faddr 1 (.t 3)⟩,
  ⟨(some 16), none, .load 1 false (.t 15)⟩,
  ⟨(some 17), none, .faddr 2 (.t 3)⟩,
  ⟨(some 18), none, .load 1 false (.t 17)⟩,
  ⟨(some 19), none, .faddr 3 (.t 3)⟩,
  ⟨(some 21), none, .faddr 4 (.t 3)⟩,
  ⟨(some 22), none, .load 1 false (.t 21)⟩,
  ⟨none, none, .store 4 (.t 4) (.t 14)⟩,
  ⟨(some 20), none, .load 1 false (.t 19)⟩,
  ⟨(some 23), none, .build [(.int .i64 0), (.int .i64 0), (.int .i64 0), (.int .i64 0)] [(0, 1, (.t 16)), (1, 1, (.t 18)), (2, 1, (.t 20)), (3, 1, (.t 22))]⟩,
  ⟨none, none, .store 4 (.t 5) (.t 23)⟩]
@[go_sem] def opcode_fields_r1_3 : List AI := [
  ⟨(some 6), none, .faddr 1 (.t 2)⟩,
  ⟨(some 7), none, .load 1 false (.t 6)⟩,
  ⟨(some 8), none, .faddr 2 (.t 2)⟩,
  ⟨(some 9), none, .load 1 false (.t 8)⟩,
  ⟨(some 10), none, .faddr 3 (.t 2)⟩,
  ⟨(some 11), none, .load 1 false (.t 10)⟩,
  ⟨(some 12), none, .faddr 4 (.t 2)⟩,
  ⟨(some 13), none, .load 1 false (.t 12)⟩,
  ⟨(some 14), none, .build [(.int .i64 0), (.int .i64 0), (.int .i64 0), (.int .i64 0)] [(0, 1, (.t 7)), (1, 1, (.t 9)), (2, 1, (.t 11)), (3, 1, (.t 13))]⟩,
  ⟨(some 15), none, .faddr 1 (.t 3)⟩,
  ⟨(some 16), none, .load 1 false (.t 15)⟩,
  ⟨(some 17), none, .faddr 2 (.t 3)⟩,
  ⟨(some 18), none, .load 1 false (.t 17)⟩,
  ⟨(some 19), none, .faddr 3 (.t 3)⟩,
  ⟨(some 21), none, .faddr 4 (.t 3)⟩,
  ⟨none, none, .store 4 (.t 4) (.t 14)⟩,
  ⟨(some 20), none, .load 1 false (.t 19)⟩,
  ⟨(some 22), none, .load 1 false (.t 21)⟩,
  ⟨(some 23), none, .build [(.int .i64 0), (.int .i64 0), (.int .i64 0), (.int .i64 0)] [(0, 1, (.t 16)), (1, 1, (.t 18)), (2, 1, (.t 20)), (3, 1, (.t 22))]⟩,
  ⟨none, none, .store 4 (.t 5) (.t 23)⟩]
@[go_sem] def opcode_fields_r1_4 : List AI := [
  ⟨(some 6), none, .faddr 1 (.t 2)⟩,
  ⟨(some 7), none, .load 1 false (.t 6)⟩,
  ⟨(some 8), none, .faddr 2 (.t 2)⟩,
  ⟨(some 9), none, .load 1 false (.t 8)⟩,
  ⟨(some 10), none, .faddr 3 (.t 2)⟩,
  ⟨(some 11), none, .load 1 false (.t 10)⟩,
  ⟨(some 12), none, .faddr 4 (.t 2)⟩,
  ⟨(some 13), none, .load 1 false (.t 12)⟩,
  ⟨(some 14), none, .build [(.int .i64 0), (.int .i64 0), (.int .i64 0), (.int .i64 0)] [(0, 1, (.t 7)), (1, 1, (.t 9)), (2, 1, (.t 11)), (3, 1, (.t 13))]⟩,
  ⟨(some 15), none, .faddr 1 (.t 3)⟩,
  ⟨(some 16), none, .load 1 false (.t 15)⟩,
  ⟨(some 17), none, .faddr 2 (.t 3)⟩,
  ⟨(some 19), none, .faddr 3 (.t 3)⟩,
  ⟨(some 20), none, .load 1 false (.t 19)⟩,
  ⟨(some 21), none, .faddr 4 (.t 3)⟩,
  ⟨(some 22), none, .load 1 false (.t 21)⟩,
  ⟨none, none, .store 4 (.t 4) (.t 14)⟩,
  ⟨(some 18), none, .load 1 false (.t 17)⟩,
  ⟨(some 23), none, .build [(.int .i64 0), (.int .i64 0), (.int .i64 0), (.int .i64 0)] [(0, 1, (.t 16)), (1, 1, (.t 18)), (2, 1, (.t 20)), (3, 1, (.t 22))]⟩,
  ⟨none, none, .store 4 (.t 5) (.t 23)⟩]
@[go_sem] def opcode_fields_r1_5 : List AI := [
  ⟨(some 6), none, .faddr 1 (.t 2)⟩,
  ⟨(some 7), none, .load 1 false (.t 6)⟩,
  ⟨(some 8), none, .faddr 2 (.t 2)⟩,
  ⟨(some 9), none, .load 1 false (.t 8)⟩,
  ⟨(some 10), none, .faddr 3 (.t 2)⟩,
  ⟨(some 11), none, .load 1 false (.t 10)⟩,
  ⟨(some 12), none, .faddr 4 (.t 2)⟩,
  ⟨(some 13), none, .load 1 false (.t 12)⟩,
  ⟨(some 14), none, .build [(.int .i64 0), (.int .i64 0), (.int .i64 0), (.int .i64 0)] [(0, 1, (.t 7)), (1, 1, (.t 9)), (2, 1, (.t 11)), (3, 1, (.t 13))]⟩,
  ⟨(some 15), none, .faddr 1 (.t 3)⟩,
  ⟨(some 16), none, .load 1 false (.t 15)⟩,
  ⟨(some 17), none, .faddr 2 (.t 3)⟩,
  ⟨(some 19), none, .faddr 3 (.t 3)⟩,
  ⟨(some 20), none, .load 1 false (.t 19)⟩,
  ⟨(some 21), none, .faddr 4 (.t 3)⟩,
  ⟨none, none, .store 4 (.t 4) (.t 14)⟩,
  ⟨(some 18), none, .load 1 false (.t 17)⟩,
  ⟨(some 22), none, .load 1 false (.t 21)⟩,
  ⟨(some 23), none, .build [(.int .i64 0), (.int .i64 0), (.int .i64 0), (.int .i64 0)] [(0, 1, (.t 16)), (1, 1, (.t 18)), (2, 1, (.t 20)), (3, 1, (.t 22))]⟩,
  ⟨none, none, .store 4 (.t 5) (.t 23)⟩]
@[go_sem] def opcode_fields_r1_6 : List AI := [
  ⟨(some 6), none, .faddr 1 (.t 2)⟩,
  ⟨(some 7), none, .load 1 false (.t 6)⟩,
  ⟨(some 8), none, .faddr 2 (.t 2)⟩,
  ⟨(some 9), none, .load 1 false (.t 8)⟩,
  ⟨(some 10), none, .faddr 3 (.t 2)⟩,
  ⟨(some 11), none, .load 1 false (.t 10)⟩,
  ⟨(some 12), none, .faddr 4 (.t 2)⟩,
  ⟨(some 13), none, .load 1 false (.t 12)⟩,
  ⟨(some 14), none, .build [(.int .i64 0), (.int .i64 0), (.int .i64 0), (.int .i64 0)] [(0, 1, (.t 7)), (1, 1, (.t 9)), (2, 1, (.t 11)), (3, 1, (.t 13))]⟩,
  ⟨(some 15), none, .faddr 1 (.t 3)⟩,
  ⟨(some 16), none, .load 1 false (.t 15)⟩,
  ⟨(some 17), none, .faddr 2 (.t 3)⟩,
  ⟨(some 19), none, .faddr 3 (.t 3)⟩,
  ⟨(some 21), none, .faddr 4 (.t 3)⟩,
  ⟨(some 22), none, .load 1 false (.t 21)⟩,
  ⟨none, none, .store 4 (.t 4) (.t 14)⟩,
  ⟨(some 18), none, .load 1 false (.t 17)⟩,
  ⟨(some 20), none, .load 1 false (.t 19)⟩,
  ⟨(some 23), none, .build [(.int .i64 0), (.int .i64 0), (.int .i64 0), (.int .i64 0)] [(0, 1, (.t 16)), (1, 1, (.t 18)), (2, 1, (.t 20)), (3, 1, (.t 22))]⟩,
  ⟨none, none, .store 4 (.t 5) (.t 23)⟩]
@[go_sem] def opcode_fields_r1_7 : List AI := [
  ⟨(some 6), none, .faddr 1 (.t 2)⟩,
  ⟨(some 7), none, .load 1 false (.t 6)⟩,
  ⟨(some 8), none, .faddr 2 (.t 2)⟩,
  ⟨(some 9), none, .load 1 false (.t 8)⟩,
  ⟨(some 10), none, .faddr 3 (.t 2)⟩,
  ⟨(some 11), none, .load 1 false (.t 10)⟩,
  ⟨(some 12), none, .faddr 4 (.t 2)⟩,
  ⟨(some 13), none, .load 1 false (.t 12)⟩,
  ⟨(some 14), none, .build [(.int .i64 0), (.int .i64 0), (.int .i64 0), (.int .i64 0)] [(0, 1, (.t 7)), (1, 1, (.t 9)), (2, 1, (.t 11)), (3, 1, (.t 13))]⟩,
  ⟨(some 15), none, .faddr 1 (.t 3)⟩,
  ⟨(some 16), none, .load 1 false (.t 15)⟩,
  ⟨(some 17), none, .faddr 2 (.t 3)⟩,
  ⟨(some 19), none, .faddr 3 (.t 3)⟩,
  ⟨(some 21), none, .faddr 4 (.t 3)⟩,
  ⟨none, none, .store 4 (.t 4) (.t 14)⟩,
  ⟨(some 18), none, .load 1 false (.t 17)⟩,
  ⟨(some 20), none, .load 1 false (.t 19)⟩,
  ⟨(some 22), none, .load 1 false (.t 21)⟩,
  ⟨(some 23), none, .build [(.int .i64 0), (.int .i64 0), (.int .i64 0), (.int .i64 0)] [(0, 1, (.t 16)), (1, 1, (.t 18)), (2, 1, (.t 20)), (3, 1, (.t 22))]⟩,
  ⟨none, none, .store 4 (.t 5) (.t 23)⟩]
@[go_sem] def opcode_fields_r1_8 : List AI := [
  ⟨(some 6), none, .faddr 1 (.t 2)⟩,
  ⟨(some 7), none, .load 1 false (.t 6)⟩,
  ⟨(some 8), none, .faddr 2 (.t 2)⟩,
  ⟨(some 9), none, .load 1 false (.t 8)⟩,
  ⟨(some 10), none, .faddr 3 (.t 2)⟩,
  ⟨(some 11), none, .load 1 false (.t 10)⟩,
  ⟨(some 12), none, .faddr 4 (.t 2)⟩,
  ⟨(some 13), none, .load 1 false (.t 12)⟩,
  ⟨(some 14), none, .build [(.int .i64 0), (.int .i64 0), (.int .i64 0), (.int .i64 0)] [(0, 1, (.t 7)), (1, 1, (.t 9)), (2, 1, (.t 11)), (3, 1, (.t 13))]⟩,
  ⟨(some 15), none, .faddr 1 (.t 3)⟩,
  ⟨(some 17), none, .faddr 2 (.t 3)⟩,
  ⟨(some 18), none, .load 1 false (.t 17)⟩,
  ⟨(some 19), none, .faddr 3 (.t 3)⟩,
  ⟨(some 20), none, .load 1 false (.t 19)⟩,
  ⟨(some 21), none, .faddr 4 (.t 3)⟩,
  ⟨(some 22), none, .load 1 false (.t 21)⟩,
  ⟨none, none, .store 4 (.t 4) (.t 14)⟩,
  ⟨(some 16), none, .load 1 false (.t 15)⟩,
  ⟨(some 23), none, .build [(.int .i64 0), (.int .i64 0), (.int .i64 0), (.int .i64 0)] [(0, 1, (.t 16)), (1, 1, (.t 18)), (2, 1, (.t 20)), (3, 1, (.t 22))]⟩,
  ⟨none, none, .store 4 (.t 5) (.t 23)⟩]
@[go_sem] def opcode_fields_r1_9 : List AI := [
  ⟨(some 6), none, .faddr 1 (.t 2)⟩,
  ⟨(some 7), none, .load 1 false (.t 6)⟩,
  ⟨(some 8), none, .faddr 2 (.t 2)⟩,
  ⟨(some 9), none, .load 1 false (.t 8)⟩,
  ⟨(some 10), none, .faddr 3 (.t 2)⟩,
  ⟨(some 11), none, .load 1 false (.t 10)⟩,
  ⟨(some 12), none, .faddr 4 (.t 2)⟩,
  ⟨(some 13), none, .load 1 false (.t 12)⟩,
  ⟨(some 14), none, .build [(.int .i64 0), (.int .i64 0), (.int .i64 0), (.int .i64 0)] [(0, 1, (.t 7)), (1, 1, (.t 9)), (2, 1, (.t 11)), (3, 1, (.t 13))]⟩,
  ⟨(some 15), none, .faddr 1 (.t 3)⟩,
  ⟨(some 17), none, .faddr 2 (.t 3)⟩,
  ⟨(some 18), none, .load 1 false (.t 17)⟩,
  ⟨(some 19), none, .faddr 3 (.t 3)⟩,
  ⟨(some 20), none, .load 1 false (.t 19)⟩,
  ⟨(some 21), none, .faddr 4 (.t 3)⟩,
  ⟨none, none, .store 4 (.t 4) (.t 14)⟩,
  ⟨(some 16), none, .load 1 false (.t 15)⟩,
  ⟨(some 22), none, .load 1 false (.t 21)⟩,
  ⟨(some 23), none, .build [(.int .i64 0), (.int .i64 0), (.int .i64 0), (.int .i64 0)] [(0, 1, (.t 16)), (1, 1, (.t 18)), (2, 1, (.t 20)), (3, 1, (.t 22))]⟩,
  ⟨none, none, .store 4 (.t 5) (.t 23)⟩]
@[go_sem] def opcode_fields_r1_10 : List AI := [
  ⟨(some 6), none, .faddr 1 (.t 2)⟩,
  ⟨(some 7), none, .load 1 false (.t 6)⟩,
  ⟨(some 8), none, .faddr 2 (.t 2)⟩,
  ⟨(some 9), none, .load 1 false (.t 8)⟩,
  ⟨(some 10), none, .faddr 3 (.t 2)⟩,
  ⟨(some 11), none, .load 1 false (.t 10)⟩,
  ⟨(some 12), none, .faddr 4 (.t 2)⟩,
  ⟨(some 13), none, .load 1 false (.t 12)⟩,
  ⟨(some 14), none, .build [(.int .i64 0), (.int .i64 0), (.int .i64 0), (.int .i64 0)] [(0, 1, (.t 7)), (1, 1, (.t 9)), (2, 1, (.t 11)), (3, 1, (.t 13))]⟩,
  ⟨(some 15), none, .faddr 1 (.t 3)⟩,
  ⟨(some 17), none, .faddr 2 (.t 3)⟩,
  ⟨(some 18), none, .load 1 false (.t 17)⟩,
  ⟨(some 19), none, .faddr 3 (.t 3)⟩,
  ⟨(some 21), none, .faddr 4 (.t 3)⟩,
  ⟨(some 22), none, .load 1 false (.t 21)⟩,
  ⟨none, none, .store 4 (.t 4) (.t 14)⟩,
  ⟨(some 16), none, .load 1 false (.t 15)⟩,
  ⟨(some 20), none, .load 1 false (.t 19)⟩,
  ⟨(some 23), none, .build [(.int .i64 0), (.int .i64 0), (.int .i64 0), (.int .i64 0)] [(0, 1, (.t 16)), (1, 1, (.t 18)), (2, 1, (.t 20)), (3, 1, (.t 22))]⟩,
  ⟨none, none, .store 4 (.t 5) (.t 23)⟩]
@[go_sem] def opcode_fields_r1_11 : List AI := [
  ⟨(some 6), none, .faddr 1 (.t 2)⟩,
  ⟨(some 7), none, .load 1 false (.t 6)⟩,
  ⟨(some 8), none, .faddr 2 (.t 2)⟩,
  ⟨(some 9), none, .load 1 false (.t 8)⟩,
  ⟨(some 10), none, .faddr 3 (.t 2)⟩,
  ⟨(some 11), none, .load 1 false (.t 10)⟩,
  ⟨(some 12), none, .faddr 4 (.t 2)⟩,
  ⟨(some 13), none, .load 1 false (.t 12)⟩,
  ⟨(some 14), none, .build [(.int .i64 0), (.int .i64 0), (.int .i64 0), (.int .i64 0)] [(0, 1, (.t 7)), (1, 1, (.t 9)), (2, 1, (.t 11)), (3, 1, (.t 13))]⟩,
  ⟨(some 15), none, .faddr 1 (.t 3)⟩,
  ⟨(some 17), none, .faddr 2 (.t 3)⟩,
  ⟨(some 18), none, .load 1 false (.t 17)⟩,
  ⟨(some 19), none, .faddr 3 (.t 3)⟩,
  ⟨(some 21), none, .faddr 4 (.t 3)⟩,
  ⟨none, none, .store 4 (.t 4) (.t 14)⟩,
  ⟨(some 16), none, .load 1 false (.t 15)⟩,
  ⟨(some 20), none, .load 1 false (.t 19)⟩,
  ⟨(some 22), none, .load 1 false (.t 21)⟩,
  ⟨(some 23), none, .build [(.int .i64 0), (.int .i64 0), (.int .i64 0), (.int .i64 0)] [(0, 1, (.t 16)), (1, 1, (.t 18)), (2, 1, (.t 20)), (3, 1, (.t 22))]⟩,
  ⟨none, none, .store 4 (.t 5) (.t 23)⟩]
@[go_sem] def opcode_fields_r1_12 : List AI := [
  ⟨(some 6), none, .faddr 1 (.t 2)⟩,
  ⟨(some 7), none, .load 1 false (.t 6)⟩,
  ⟨(some 8), none, .faddr 2 (.t 2)⟩,
  ⟨(some 9), none, .load 1 false (.t 8)⟩,
  ⟨(some 10), none, .faddr 3 (.t 2)⟩,
  ⟨(some 11), none, .load 1 false (.t 10)⟩,
  ⟨(some 12), none, .faddr 4 (.t 2)⟩,
  ⟨(some 13), none, .load 1 false (.t 12)⟩,
  ⟨(some 14), none, .build [(.int .i64 0), (.int .i64 0), (.int .i64 0), (.int .i64 0)] [(0, 1, (.t 7)), (1, 1, (.t 9)), (2, 1, (.t 11)), (3, 1, (.t 13))]⟩,
  ⟨(some 15), none, .faddr 1 (.t 3)⟩,
  ⟨(some 17), none, .faddr 2 (.t 3)⟩,
  ⟨(some 19), none, .faddr 3 (.t 3)⟩,
  ⟨(some 20), none, .load 1 false (.t 19)⟩,
  ⟨(some 21), none, .faddr 4 (.t 3)⟩,
  ⟨(some 22), none, .load 1 false (.t 21)⟩,
  ⟨none, none, .store 4 (.t 4) (.t 14)⟩,
  ⟨(some 16), none, .load 1 false (.t 15)⟩,
  ⟨(some 18), none, .load 1 false (.t 17)⟩,
  ⟨(some 23), none, .build [(.int .i64 0), (.int .i64 0), (.int .i64 0), (.int .i64 0)] [(0, 1, (.t 16)), (1, 1, (.t 18)), (2, 1, (.t 20)), (3, 1, (.t 22))]⟩,
  ⟨none, none, .store 4 (.t 5) (.t 23)⟩]
@[go_sem] def opcode_fields_r1_13 : List AI := [
  ⟨(some 6), none, .faddr 1 (.t 2)⟩,
  ⟨(some 7), none, .load 1 false (.t 6)⟩,
  ⟨(some 8), none, .faddr 2 (.t 2)⟩,
  ⟨(some 9), none, .load 1 false (.t 8)⟩,
  ⟨(some 10), none, .faddr 3 (.t 2)⟩,
  ⟨(some 11), none, .load 1 false (.t 10)⟩,
  ⟨(some 12), none, .faddr 4 (.t 2)⟩,
  ⟨(some 13), none, .load 1 false (.t 12)⟩,
  ⟨(some 14), none, .build [(.int .i64 0), (.int .i64 0), (.int .i64 0), (.int .i64 0)] [(0, 1, (.t 7)), (1, 1, (.t 9)), (2, 1, (.t 11)), (3, 1, (.t 13))]⟩,
  ⟨(some 15), none, .faddr 1 (.t 3)⟩,
  ⟨(some 17), none, .faddr 2 (.t 3)⟩,
  ⟨(some 19), none, .faddr 3 (.t 3)⟩,
  ⟨(some 20), none, .load 1 false (.t 19)⟩,
  ⟨(some 21), none, .faddr 4 (.t 3)⟩,
  ⟨none, none, .store 4 (.t 4) (.t 14)⟩,
  ⟨(some 16), none, .load 1 false (.t 15)⟩,
  ⟨(some 18), none, .load 1 false (.t 17)⟩,
  ⟨(some 22), none, .load 1 false (.t 21)⟩,
  ⟨(some 23), none, .build [(.int .i64 0), (.int .i64 0), (.int .i64 0), (.int .i64 0)] [(0, 1, (.t 16)), (1, 1, (.t 18)), (2, 1, (.t 20)), (3, 1, (.t 22))]⟩,
  ⟨none, none, .store 4 (.t 5) (.t 23)⟩]
@[go_sem] def opcode_fields_r1_14 : List AI := [
  ⟨(some 6), none, .faddr 1 (.t 2)⟩,
  ⟨(some 7), none, .load 1 false (.t 6)⟩,
  ⟨(some 8), none, .faddr 2 (.t 2)⟩,
  ⟨(some 9), none, .load 1 false (.t 8)⟩,
  ⟨(some 10), none, .faddr 3 (.t 2)⟩,
  ⟨(some 11), none, .load 1 false (.t 10)⟩,
  ⟨(some 12), none, .faddr 4 (.t 2)⟩,
  ⟨(some 13), none, .load 1 false (.t 12)⟩,
  ⟨(some 14), none, .build [(.int .i64 0), (.int .i64 0), (.int .i64 0), (.int .i64 0)] [(0, 1, (.t 7)), (1, 1, (.t 9)), (2, 1, (.t 11)), (3, 1, (.t 13))]⟩,
  ⟨(some 15), none, .faddr 1 (.t 3)⟩,
  ⟨(some 17), none, .faddr 2 (.t 3)⟩,
  ⟨(some 19), none, .faddr 3 (.t 3)⟩,
  ⟨(some 21), none, .faddr 4 (.t 3)⟩,
  ⟨(some 22), none, .load 1 false (.t 21)⟩,
  ⟨none, none, .store 4 (.t 4) (.t 14)⟩,
  ⟨(some 16), none, .load 1 false (.t 15)⟩,
  ⟨(some 18), none, .load 1 false (.t 17)⟩,
  ⟨(some 20), none, .load 1 false (.t 19)⟩,
  ⟨(some 23), none, .build [(.int .i64 0), (.int .i64 0), (.int .i64 0), (.int .i64 0)] [(0, 1, (.t 16)), (1, 1, (.t 18)), (2, 1, (.t 20)), (3, 1, (.t 22))]⟩,
  ⟨none, none, .store 4 (.t 5) (.t 23)⟩]
@[go_sem] def opcode_fields_r1_15 : List AI := [
  ⟨(some 6), none, .faddr 1 (.t 2)⟩,
  ⟨(some 7), none, .load 1 false (.t 6)⟩,
  ⟨(some 8), none, .faddr 2 (.t 2)⟩,
  ⟨(some 9), none, .load 1 false (.t 8)⟩,
  ⟨(some 10), none, .faddr 3 (.t 2)⟩,
  ⟨(some 11), none, .load 1 false (.t 10)⟩,
  ⟨(some 12), none, .faddr 4 (.t 2)⟩,
  ⟨(some 13), none, .load 1 false (.t 12)⟩,
  ⟨(some 14), none, .build [(.int .i64 0), (.int .i64 0), (.int .i64 0), (.int .i64 0)] [(0, 1, (.t 7)), (1, 1, (.t 9)), (2, 1, (.t 11)), (3, 1, (.t 13))]⟩,
  ⟨(some 15), none, .faddr 1 (.t 3)⟩,
  ⟨(some 17), none, .faddr 2 (.t 3)⟩,
  ⟨(some 19), none, .faddr 3 (.t 3)⟩,
  ⟨(some 21), none, .faddr 4 (.t 3)⟩,
  ⟨none, none, .store 4 (.t 4) (.t 14)⟩,
  ⟨(some 16), none, .load 1 false (.t 15)⟩,
  ⟨(some 18), none, .load 1 false (.t 17)⟩,
  ⟨(some 20), none, .load 1 false (.t 19)⟩,
  ⟨(some 22), none, .load 1 false (.t 21)⟩,
  ⟨(some 23), none, .build [(.int .i64 0), (.int .i64 0), (.int .i64 0), (.int .i64 0)] [(0, 1, (.t 16)), (1, 1, (.t 18)), (2, 1, (.t 20)), (3, 1, (.t 22))]⟩,
  ⟨none, none, .store 4 (.t 5) (.t 23)⟩]
@[go_sem] def opcode_fields_c : AC := .seq (.ops [opcode_fields_r0]) (.seq (.ops [opcode_fields_r1_0, opcode_fields_r1_1, opcode_fields_r1_2, opcode_fields_r1_3, opcode_fields_r1_4, opcode_fields_r1_5, opcode_fields_r1_6, opcode_fields_r1_7, opcode_fields_r1_8, opcode_fields_r1_9, opcode_fields_r1_10, opcode_fields_r1_11, opcode_fields_r1_12, opcode_fields_r1_13, opcode_fields_r1_14, opcode_fields_r1_15]) (.ret))
theorem opcode_fields_ok : compF Tryd.prog 47 = some (24, opcode_fields_c, [.c 4 4 true, .c 5 4 true]) := by kernel_rfl

@[go_sem] def opcode_between_r0 : List AI := [
  ⟨(some 2), none, .mov (.c (.int .i64 0))⟩,
  ⟨(some 3), none, .mov (.c (.int .i64 0))⟩]
@[go_sem] def opcode_between_r1 : List AI := [
  ⟨(some 4), none, .mov (.t 0)⟩]
@[go_sem] def opcode_between_r2 : List AI := [
  ⟨(some 6), none, .bin .eql (.t 4) (.c (.int .i64 1))⟩,
  ⟨(some 5), none, .mov (.t 6)⟩]
@[go_sem] def opcode_between_r3 : List AI := [
  ⟨(some 2), none, .mov (.c (.int .i64 0))⟩,
  ⟨(some 3), none, .mov (.c (.int .i64 4095))⟩]
@[go_sem] def opcode_between_r4 : List AI := [
  ⟨(some 8), none, .bin .eql (.t 4) (.c (.int .i64 2))⟩,
  ⟨(some 7), none, .mov (.t 8)⟩]
@[go_sem] def opcode_between_r5 : List AI := [
  ⟨(some 2), none, .mov (.c (.int .i64 0))⟩,
  ⟨(some 3), none, .mov (.c (.int .i64 4095))⟩]
@[go_sem] def opcode_between_r6 : List AI := [
  ⟨(some 10), none, .bin .eql (.t 4) (.c (.int .i64 3))⟩,
  ⟨(some 9), none, .mov (.t 10)⟩]
@[go_sem] def opcode_between_r7 : List AI := [
  ⟨(some 2), none, .mov (.c (.int .i64 0))⟩,
  ⟨(some 3), none, .mov (.c (.int .i64 59))⟩]
@[go_sem] def opcode_between_r8 : List AI := [
  ⟨(some 12), none, .bin .eql (.t 4) (.c (.int .i64 4))⟩,
  ⟨(some 11), none, .mov (.t 12)⟩]
@[go_sem] def opcode_between_r9 : List AI := [
  ⟨(some 2), none, .mov (.c (.int .i64 0))⟩,
  ⟨(some 3), none, .mov (.c (.int .i64 1023))⟩]
@[go_sem] def opcode_between_r10 : List AI := [
  ⟨(some 14), none, .bin .eql (.t 4) (.c (.int .i64 5))⟩,
  ⟨(some 13), none, .mov (.t 14)⟩]
@[go_sem] def opcode_between_r11 : List AI := [
  ⟨(some 2), none, .mov (.c (.int .i64 0))⟩,
  ⟨(some 3), none, .mov (.c (.int .i64 16383))⟩]
@[go_sem] def opcode_between_r12 : List AI := [
  ⟨(some 16), none, .bin .eql (.t 4) (.c (.int .i64 6))⟩,
  ⟨(some 15), none, .mov (.t 16)⟩]
@[go_sem] def opcode_between_r13 : List AI := [
  ⟨(some 2), none, .mov (.c (.int .i64 (-1)))⟩,
  ⟨(some 3), none, .mov (.c (.int .i64 200))⟩]
@[go_sem] def opcode_between_r14 : List AI := [
  ⟨(some 18), none, .bin .eql (.t 4) (.c (.int .i64 7))⟩,
  ⟨(some 17), none, .mov (.t 18)⟩]
@[go_sem] def opcode_between_r15 : List AI := [
  ⟨(some 2), none, .mov (.c (.int .i64 (-1)))⟩,
  ⟨(some 3), none, .mov (.c (.int .i64 4096))⟩]
@[go_sem] def opcode_between_r16 : List AI := [
  ⟨(some 20), none, .bin .eql (.t 4) (.c (.int .i64 8))⟩,
  ⟨(some 19), none, .mov (.t 20)⟩]
@[go_sem] def opcode_between_r17 : List AI := [
  ⟨(some 2), none, .mov (.c (.int .i64 0))⟩,
  ⟨(some 3), none, .mov (.c (.int .i64 1))⟩]
@[go_sem] def opcode_between_r18 : List AI := [
  ⟨(some 22), none, .bin .eql (.t 4) (.c (.int .i64 9))⟩,
  ⟨(some 21), none, .mov (.t 22)⟩]
@[go_sem] def opcode_between_r19 : List AI := [
  ⟨(some 2), none, .mov (.c (.int .i64 20))⟩,
  ⟨(some 3), none, .mov (.c (.int .i64 23))⟩]
@[go_sem] def opcode_between_r20 : List AI := [
  ⟨(some 24), none, .bin .eql (.t 4) (.c (.int .i64 10))⟩,
  ⟨(some 23), none, .mov (.t 24)⟩]
@[go_sem] def opcode_between_r21 : List AI := [
  ⟨(some 2), none, .mov (.c (.int .i64 1))⟩,
  ⟨(some 3), none, .mov (.c (.int .i64 19))⟩]
@[go_sem] def opcode_between_r22 : List AI := [
  ⟨(some 26), none, .bin .eql (.t 4) (.c (.int .i64 11))⟩,
  ⟨(some 25), none, .mov (.t 26)⟩]
@[go_sem] def opcode_between_r23 : List AI := [
  ⟨(some 2), none, .mov (.c (.int .i64 1))⟩,
  ⟨(some 3), none, .mov (.c (.int .i64 200))⟩]
@[go_sem] def opcode_between_r24 : List AI := [
  ⟨(some 28), none, .bin .eql (.t 4) (.c (.int .i64 12))⟩,
  ⟨(some 27), none, .mov (.t 28)⟩]
@[go_sem] def opcode_between_r25 : List AI := [
  ⟨(some 2), none, .mov (.c (.int .i64 1))⟩,
  ⟨(some 3), none, .mov (.c (.int .i64 32767))⟩]
@[go_sem] def opcode_between_r26 : List AI := [
  ⟨(some 2), none, .mov (.c (.int .i64 0))⟩,
  ⟨(some 3), none, .mov (.c (.int .i64 0))⟩]
@[go_sem] def opcode_between_c : AC := .seq (.ops [opcode_between_r0]) (.seq (.seq (.ops [opcode_between_r1]) (.block 0 (.seq (.ops [opcode_between_r2]) (.cond (.t 5) (.seq (.ops [opcode_between_r3]) (.ret)) (.seq (.ops [opcode_between_r4]) (.cond (.t 7) (.seq (.ops [opcode_between_r5]) (.ret)) (.seq (.ops [opcode_between_r6]) (.cond (.t 9) (.seq (.ops [opcode_between_r7]) (.ret)) (.seq (.ops [opcode_between_r8]) (.cond (.t 11) (.seq (.ops [opcode_between_r9]) (.ret)) (.seq (.ops [opcode_between_r10]) (.cond (.t 13) (.seq (.ops [opcode_between_r11]) (.ret)) (.seq (.ops [opcode_between_r12]) (.cond (.t 15) (.seq (.ops [opcode_between_r13]) (.ret)) (.seq (.ops [opcode_between_r14]) (.cond (.t 17) (.seq (.ops [opcode_between_r15]) (.ret)) (.seq (.ops [opcode_between_r16]) (.cond (.t 19) (.seq (.ops [opcode_between_r17]) (.ret)) (.seq (.ops [opcode_between_r18]) (.cond (.t 21) (.seq (.ops [opcode_between_r19]) (.ret)) (.seq (.ops [opcode_between_r20]) (.cond (.t 23) (.seq (.ops [opcode_between_r21]) (.ret)) (.seq (.ops [opcode_between_r22]) (.cond (.t 25) (.seq (.ops [opcode_between_r23]) (.ret)) (.seq (.ops [opcode_between_r24]) (.cond (.t 27) (.seq (.ops [opcode_between_r25]) (.ret)) (.skip))))))))))))))))))))))))))) (.seq (.ops [opcode_between_r26]) (.ret)))
theorem opcode_between_ok : compF Tryd.prog 48 = some (29, opcode_between_c, [.t 2, .t 3]) := by kernel_rfl

@[go_sem] def opcode_last_r0 : List AI := [
  ⟨(some 2), none, .box 490002 6 (.t 0)⟩,
  ⟨(some 3), none, .box 490003 5 (.t 1)⟩,
  ⟨(some 4), none, .mov (.c (.int .i64 0))⟩]
@[go_sem] def opcode_last_r1 : List AI := [
  ⟨(some 6), none, .faddr 1 (.t 3)⟩,
  ⟨(some 7), none, .load 1 false (.t 6)⟩,
  ⟨(some 8), none, .faddr 5 (.t 2)⟩,
  ⟨(some 9), none, .load 1 false (.t 8)⟩,
  ⟨(some 10), none, .bin .add (.t 7) (.t 9)⟩,
  ⟨(some 5), none, .mov (.t 10)⟩]
@[go_sem] def opcode_last_r2 : List AI := [
  ⟨(some 11), none, .faddr 0 (.t 3)⟩,
  ⟨(some 12), none, .load 1 false (.t 11)⟩]
@[go_sem] def opcode_last_r3 : List AI := [
  ⟨(some 14), none, .bin .eql (.t 12) (.c (.int .i64 16))⟩,
  ⟨(some 13), none, .mov (.t 14)⟩]
@[go_sem] def opcode_last_r4 : List AI := [
  ⟨(some 15), none, .faddr 1 (.t 3)⟩,
  ⟨(some 16), none, .load 1 false (.t 15)⟩,
  ⟨(some 17), none, .faddr 2 (.t 3)⟩,
  ⟨(some 18), none, .load 1 false (.t 17)⟩,
  ⟨(some 19), none, .bin .add (.t 16) (.t 18)⟩,
  ⟨(some 20), none, .faddr 1 (.t 3)⟩,
  ⟨(some 21), none, .load 1 false (.t 20)⟩,
  ⟨(some 22), none, .faddr 3 (.t 3)⟩,
  ⟨(some 23), none, .load 1 false (.t 22)⟩,
  ⟨(some 24), none, .bin .add (.t 21) (.t 23)⟩,
  ⟨(some 25), none, .bin .sub (.t 24) (.c (.int .i64 1))⟩,
  ⟨(some 26), none, .mm true [(.t 19), (.t 25)]⟩,
  ⟨(some 5), none, .mov (.t 26)⟩]
@[go_sem] def opcode_last_r5 : List AI := [
  ⟨(some 28), none, .bin .eql (.t 12) (.c (.int .i64 17))⟩,
  ⟨(some 27), none, .mov (.t 28)⟩]
@[go_sem] def opcode_last_r6 : List AI := [
  ⟨(some 29), none, .bin .eql (.t 12) (.c (.int .i64 21))⟩,
  ⟨(some 27), none, .mov (.t 29)⟩]
@[go_sem] def opcode_last_r7 : List AI := [
  ⟨(some 30), none, .faddr 1 (.t 3)⟩,
  ⟨(some 31), none, .load 1 false (.t 30)⟩,
  ⟨(some 32), none, .faddr 2 (.t 3)⟩,
  ⟨(some 33), none, .load 1 false (.t 32)⟩,
  ⟨(some 34), none, .bin .add (.t 31) (.t 33)⟩,
  ⟨(some 5), none, .mov (.t 34)⟩]
@[go_sem] def opcode_last_r8 : List AI := [
  ⟨(some 36), none, .bin .eql (.t 12) (.c (.int .i64 18))⟩,
  ⟨(some 35), none, .mov (.t 36)⟩]
@[go_sem] def opcode_last_r9 : List AI := [
  ⟨(some 37), none, .bin .eql (.t 12) (.c (.int .i64 19))⟩,
  ⟨(some 35), none, .mov (.t 37)⟩]
@[go_sem] def opcode_last_r10 : List AI := [
  ⟨(some 38), none, .faddr 1 (.t 3)⟩,
  ⟨(some 39), none, .load 1 false (.t 38)⟩,
  ⟨(some 40), none, .faddr 2 (.t 3)⟩,
  ⟨(some 41), none, .load 1 false (.t 40)⟩,
  ⟨(some 42), none, .bin .add (.t 39) (.t 41)⟩,
  ⟨(some 43), none, .bin .sub (.t 42) (.c (.int .i64 1))⟩,
  ⟨(some 5), none, .mov (.t 43)⟩]
@[go_sem] def opcode_last_r11 : List AI := [
  ⟨(some 45), none, .bin .eql (.t 12) (.c (.int .i64 25))⟩,
  ⟨(some 44), none, .mov (.t 45)⟩]
@[go_sem] def opcode_last_r12 : List AI := [
  ⟨(some 46), none, .faddr 1 (.t 3)⟩,
  ⟨(some 47), none, .load 1 false (.t 46)⟩,
  ⟨(some 48), none, .bin .add (.t 47) (.c (.int .i64 2))⟩,
  ⟨(some 49), none, .faddr 3 (.t 3)⟩,
  ⟨(some 50), none, .load 1 false (.t 49)⟩,
  ⟨(some 51), none, .bin .add (.t 48) (.t 50)⟩,
  ⟨(some 5), none, .mov (.t 51)⟩]
@[go_sem] def opcode_last_r13 : List AI := [
  ⟨(some 52), none, .mov (.t 5)⟩,
  ⟨(some 4), none, .mov (.t 52)⟩]
@[go_sem] def opcode_last_c : AC := .seq (.ops [opcode_last_r0]) (.seq (.ops [opcode_last_r1]) (.seq (.seq (.ops [opcode_last_r2]) (.block 0 (.seq (.ops [opcode_last_r3]) (.cond (.t 13) (.ops [opcode_last_r4]) (.seq (.seq (.ops [opcode_last_r5]) (.cond (.t 27) (.skip) (.ops [opcode_last_r6]))) (.cond (.t 27) (.ops [opcode_last_r7]) (.seq (.seq (.ops [opcode_last_r8]) (.cond (.t 35) (.skip) (.ops [opcode_last_r9]))) (.cond (.t 35) (.ops [opcode_last_r10]) (.seq (.ops [opcode_last_r11]) (.cond (.t 44) (.ops [opcode_last_r12]) (.skip))))))))))) (.seq (.ops [opcode_last_r13]) (.ret))))
theorem opcode_last_ok : compF Tryd.prog 49 = some (53, opcode_last_c, [.t 4]) := by kernel_rfl

@[go_sem] def scriptingref32_data_r0 : List AI := [
  ⟨(some 2), none, .box 500002 13 (.c (.agg [(.str []), (.bool false), (.bool false), (.bool false), (.bool false), (.int .i64 0), (.int .i64 0), (.int .i64 0), (.int .i64 0), (.int .i64 0), (.int .i64 0), (.int .i64 0), (.int .i64 0)]))⟩]
@[go_sem] def scriptingref32_data_r1 : List AI := [
  ⟨(some 5), none, .build [(.int .i64 0), (.int .i64 0)] [(0, 1, (.c (.int .i64 0))), (1, 1, (.c (.int .i64 4095)))]⟩,
  ⟨(some 3), none, .box 500003 2 (.c (.agg [(.int .i64 0), (.int .i64 0)]))⟩,
  ⟨none, none, .store 2 (.t 3) (.t 5)⟩]
@[go_sem] def scriptingref32_data_r2 : List AI := [
  ⟨(some 6), none, .mov (.t 0)⟩]
@[go_sem] def scriptingref32_data_r3 : List AI := [
  ⟨(some 8), none, .bin .eql (.t 6) (.c (.int .i64 1))⟩,
  ⟨(some 7), none, .mov (.t 8)⟩]
@[go_sem] def scriptingref32_data_r4 : List AI := [
  ⟨(some 9), none, .call 69 [(.c (.str [109, 111, 118, 101])), (.c (.int .i64 4095)), (.c (.int .i64 0)), (.c (.int .i64 4095))]⟩,
  ⟨none, none, .store 13 (.t 2) (.t 9)⟩]
@[go_sem] def scriptingref32_data_r5 : List AI := [
  ⟨(some 11), none, .bin .eql (.t 6) (.c (.int .i64 2))⟩,
  ⟨(some 10), none, .mov (.t 11)⟩]
@[go_sem] def scriptingref32_data_r6 : List AI := [
  ⟨(some 12), none, .call 69 [(.c (.str [99, 111, 110, 115, 116])), (.c (.int .i64 4095)), (.c (.int .i64 0)), (.c (.int .i64 4095))]⟩,
  ⟨none, none, .store 13 (.t 2) (.t 12)⟩]
@[go_sem] def scriptingref32_data_r7 : List AI := [
  ⟨(some 14), none, .bin .eql (.t 6) (.c (.int .i64 3))⟩,
  ⟨(some 13), none, .mov (.t 14)⟩]
@[go_sem] def scriptingref32_data_r8 : List AI := [
  ⟨(some 15), none, .call 69 [(.c (.str [110, 105, 108])), (.c (.int .i64 4095)), (.c (.int .i64 0)), (.c (.int .i64 4095))]⟩,
  ⟨none, none, .store 13 (.t 2) (.t 15)⟩]
@[go_sem] def scriptingref32_data_r9 : List AI := [
  ⟨(some 17), none, .bin .eql (.t 6) (.c (.int .i64 4))⟩,
  ⟨(some 16), none, .mov (.t 17)⟩]
@[go_sem] def scriptingref32_data_r10 : List AI := [
  ⟨(some 18), none, .call 69 [(.c (.str [98, 111, 111, 108])), (.c (.int .i64 4095)), (.c (.int .i64 0)), (.c (.int .i64 1))]⟩,
  ⟨none, none, .store 13 (.t 2) (.t 18)⟩]
@[go_sem] def scriptingref32_data_r11 : List AI := [
  ⟨(some 20), none, .bin .eql (.t 6) (.c (.int .i64 5))⟩,
  ⟨(some 19), none, .mov (.t 20)⟩]
@[go_sem] def scriptingref32_data_r12 : List AI := [
  ⟨(some 21), none, .call 69 [(.c (.str [117, 112, 103, 101, 116])), (.c (.int .i64 4095)), (.c (.int .i64 0)), (.c (.int .i64 59))]⟩,
  ⟨none, none, .store 13 (.t 2) (.t 21)⟩]
@[go_sem] def scriptingref32_data_r13 : List AI := [
  ⟨(some 23), none, .bin .eql (.t 6) (.c (.int .i64 6))⟩,
  ⟨(some 22), none, .mov (.t 23)⟩]
@[go_sem] def scriptingref32_data_r14 : List AI := [
  ⟨(some 24), none, .call 69 [(.c (.str [117, 112, 115, 101, 116])), (.c (.int .i64 59)), (.c (.int .i64 0)), (.c (.int .i64 4095))]⟩,
  ⟨none, none, .store 13 (.t 2) (.t 24)⟩]
@[go_sem] def scriptingref32_data_r15 : List AI := [
  ⟨(some 26), none, .bin .eql (.t 6) (.c (.int .i64 7))⟩,
  ⟨(some 25), none, .mov (.t 26)⟩]
@[go_sem] def scriptingref32_data_r16 : List AI := [
  ⟨(some 27), none, .call 69 [(.c (.str [103, 108, 111, 98, 97, 108])), (.c (.int .i64 4095)), (.c (.int .i64 0)), (.c (.int .i64 4095))]⟩,
  ⟨none, none, .store 13 (.t 2) (.t 27)⟩]
@[go_sem] def scriptingref32_data_r17 : List AI := [
  ⟨(some 29), none, .bin .eql (.t 6) (.c (.int .i64 8))⟩,
  ⟨(some 28), none, .mov (.t 29)⟩]
@[go_sem] def scriptingref32_data_r18 : List AI := [
  ⟨(some 30), none, .call 69 [(.c (.str [115, 101, 116, 103, 108, 111, 98])), (.c (.int .i64 4095)), (.c (.int .i64 0)), (.c (.int .i64 4095))]⟩,
  ⟨none, none, .store 13 (.t 2) (.t 30)⟩]
@[go_sem] def scriptingref32_data_r19 : List AI := [
  ⟨(some 32), none, .bin .eql (.t 6) (.c (.int .i64 9))⟩,
  ⟨(some 31), none, .mov (.t 32)⟩]
@[go_sem] def scriptingref32_data_r20 : List AI := [
  ⟨(some 33), none, .load 2 true (.t 3)⟩,
  ⟨(some 34), none, .load 2 true (.t 3)⟩,
  ⟨(some 35), none, .call 70 [(.c (.str [103, 101, 116])), (.c (.int .i64 4095)), (.t 33), (.t 34)]⟩,
  ⟨none, none, .store 13 (.t 2) (.t 35)⟩]
@[go_sem] def scriptingref32_data_r21 : List AI := [
  ⟨(some 37), none, .bin .eql (.t 6) (.c (.int .i64 10))⟩,
  ⟨(some 36), none, .mov (.t 37)⟩]
@[go_sem] def scriptingref32_data_r22 : List AI := [
  ⟨(some 38), none, .load 2 true (.t 3)⟩,
  ⟨(some 39), none, .load 2 true (.t 3)⟩,
  ⟨(some 40), none, .call 70 [(.c (.str [115, 101, 116])), (.c (.int .i64 4095)), (.t 38), (.t 39)]⟩,
  ⟨none, none, .store 13 (.t 2) (.t 40)⟩]
@[go_sem] def scriptingref32_data_r23 : List AI := [
  ⟨(some 42), none, .bin .eql (.t 6) (.c (.int .i64 11))⟩,
  ⟨(some 41), none, .mov (.t 42)⟩]
@[go_sem] def scriptingref32_data_r24 : List AI := [
  ⟨(some 43), none, .load 2 true (.t 3)⟩,
  ⟨(some 44), none, .build [(.int .i64 0), (.int .i64 0)] [(0, 1, (.c (.int .i64 0))), (1, 1, (.c (.int .i64 4095)))]⟩,
  ⟨(some 45), none, .call 70 [(.c (.str [115, 101, 108, 102])), (.c (.int .i64 4094)), (.t 43), (.t 44)]⟩,
  ⟨none, none, .store 13 (.t 2) (.t 45)⟩]
@[go_sem] def scriptingref32_data_r25 : List AI := [
  ⟨(some 47), none, .bin .eql (.t 6) (.c (.int .i64 12))⟩,
  ⟨(some 46), none, .mov (.t 47)⟩]
@[go_sem] def scriptingref32_data_r26 : List AI := [
  ⟨(some 48), none, .load 2 true (.t 3)⟩,
  ⟨(some 49), none, .build [(.int .i64 0), (.int .i64 0)] [(0, 1, (.c (.int .i64 20))), (1, 1, (.c (.int .i64 23)))]⟩,
  ⟨(some 50), none, .call 70 [(.c (.str [117, 110, 97, 114, 121])), (.c (.int .i64 4095)), (.t 48), (.t 49)]⟩,
  ⟨none, none, .store 13 (.t 2) (.t 50)⟩]
@[go_sem] def scriptingref32_data_r27 : List AI := [
  ⟨(some 52), none, .bin .eql (.t 6) (.c (.int .i64 13))⟩,
  ⟨(some 51), none, .mov (.t 52)⟩]
@[go_sem] def scriptingref32_data_r28 : List AI := [
  ⟨(some 53), none, .load 2 true (.t 3)⟩,
  ⟨(some 54), none, .load 2 true (.t 3)⟩,
  ⟨(some 55), none, .call 70 [(.c (.str [98, 105, 110, 97, 114, 121])), (.c (.int .i64 4095)), (.t 53), (.t 54)]⟩,
  ⟨(some 4), none, .box 500004 13 (.c (.agg [(.str []), (.bool false), (.bool false), (.bool false), (.bool false), (.int .i64 0), (.int .i64 0), (.int .i64 0), (.int .i64 0), (.int .i64 0), (.int .i64 0), (.int .i64 0), (.int .i64 0)]))⟩,
  ⟨none, none, .store 13 (.t 4) (.t 55)⟩]
@[go_sem] def scriptingref32_data_r29 : List AI := [
  ⟨(some 56), none, .faddr 1 (.t 4)⟩,
  ⟨(some 57), none, .iaddrA 4 1 (.t 56) (.c (.int .i64 3))⟩,
  ⟨none, none, .store 1 (.t 57) (.c (.bool true))⟩]
@[go_sem] def scriptingref32_data_r30 : List AI := [
  ⟨(some 58), none, .faddr 5 (.t 4)⟩,
  ⟨(some 59), none, .iaddrA 4 1 (.t 58) (.c (.int .i64 3))⟩,
  ⟨none, none, .store 1 (.t 59) (.c (.int .i64 1))⟩]
@[go_sem] def scriptingref32_data_r31 : List AI := [
  ⟨(some 60), none, .faddr 9 (.t 4)⟩,
  ⟨(some 61), none, .iaddrA 4 1 (.t 60) (.c (.int .i64 3))⟩,
  ⟨none, none, .store 1 (.t 61) (.c (.int .i64 19))⟩]
@[go_sem] def scriptingref32_data_r32 : List AI := [
  ⟨(some 62), none, .load 13 true (.t 4)⟩,
  ⟨none, none, .store 13 (.t 2) (.t 62)⟩]
@[go_sem] def scriptingref32_data_r33 : List AI := [
  ⟨(some 63), none, .mov (.t 0)⟩,
  ⟨(some 64), none, .call 71 [(.t 63)]⟩,
  ⟨none, none, .store 13 (.t 2) (.t 64)⟩]
@[go_sem] def scriptingref32_data_c : AC := .seq (.ops [scriptingref32_data_r0]) (.seq (.ops [scriptingref32_data_r1]) (.seq (.seq (.ops [scriptingref32_data_r2]) (.block 0 (.seq (.ops [scriptingref32_data_r3]) (.cond (.t 7) (.seq (.ops [scriptingref32_data_r4]) (.ret)) (.seq (.ops [scriptingref32_data_r5]) (.cond (.t 10) (.seq (.ops [scriptingref32_data_r6]) (.ret)) (.seq (.ops [scriptingref32_data_r7]) (.cond (.t 13) (.seq (.ops [scriptingref32_data_r8]) (.ret)) (.seq (.ops [scriptingref32_data_r9]) (.cond (.t 16) (.seq (.ops [scriptingref32_data_r10]) (.ret)) (.seq (.ops [scriptingref32_data_r11]) (.cond (.t 19) (.seq (.ops [scriptingref32_data_r12]) (.ret)) (.seq (.ops [scriptingref32_data_r13]) (.cond (.t 22) (.seq (.ops [scriptingref32_data_r14]) (.ret)) (.seq (.ops [scriptingref32_data_r15]) (.cond (.t 25) (.seq (.ops [scriptingref32_data_r16]) (.ret)) (.seq (.ops [scriptingref32_data_r17]) (.cond (.t 28) (.seq (.ops [scriptingref32_data_r18]) (.ret)) (.seq (.ops [scriptingref32_data_r19]) (.cond (.t 31) (.seq (.ops [scriptingref32_data_r20]) (.ret)) (.seq (.ops [scriptingref32_data_r21]) (.cond (.t 36) (.seq (.ops [scriptingref32_data_r22]) (.ret)) (.seq (.ops [scriptingref32_data_r23]) (.cond (.t 41) (.seq (.ops [scriptingref32_data_r24]) (.ret)) (.seq (.ops [scriptingref32_data_r25]) (.cond (.t 46) (.seq (.ops [scriptingref32_data_r26]) (.ret)) (.seq (.ops [scriptingref32_data_r27]) (.cond (.t 51) (.seq (.ops [scriptingref32_data_r28]) (.seq (.ops [scriptingref32_data_r29]) (.seq (.ops [scriptingref32_data_r30]) (.seq (.ops [scriptingref32_data_r31]) (.seq (.ops [scriptingref32_data_r32]) (.ret)))))) (.skip))))))))))))))))))))))))))))) (.seq (.ops [scriptingref32_data_r33]) (.ret))))
theorem scriptingref32_data_ok : compF Tryd.prog 50 = some (65, scriptingref32_data_c, [.c 2 13 true]) := by kernel_rfl

@[go_sem] def scriptingref32_fields_r0 : List AI := [
  ⟨(some 1), none, .box 510001 5 (.t 0)⟩,
  ⟨(some 2), none, .box 510002 4 (.c (.agg [(.int .i64 0), (.int .i64 0), (.int .i64 0), (.int .i64 0)]))⟩]
@[go_sem] def scriptingref32_fields_r1 : List AI := [
  ⟨(some 3), none, .faddr 1 (.t 1)⟩,
  ⟨(some 4), none, .load 1 false (.t 3)⟩,
  ⟨(some 5), none, .faddr 2 (.t 1)⟩,
  ⟨(some 6), none, .load 1 false (.t 5)⟩,
  ⟨(some 7), none, .faddr 3 (.t 1)⟩,
  ⟨(some 8), none, .load 1 false (.t 7)⟩,
  ⟨(some 9), none, .faddr 4 (.t 1)⟩,
  ⟨(some 10), none, .load 1 false (.t 9)⟩,
  ⟨(some 11), none, .build [(.int .i64 0), (.int .i64 0), (.int .i64 0), (.int .i64 0)] [(0, 1, (.t 4)), (1, 1, (.t 6)), (2, 1, (.t 8)), (3, 1, (.t 10))]⟩,
  ⟨none, none, .store 4 (.t 2) (.t 11)⟩]
@[go_sem] def scriptingref32_fields_c : AC := .seq (.ops [scriptingref32_fields_r0]) (.seq (.ops [scriptingref32_fields_r1]) (.ret))
theorem scriptingref32_fields_ok : compF Tryd.prog 51 = some (12, scriptingref32_fields_c, [.c 2 4 true]) := by kernel_rfl

@[go_sem] def scriptingref32_limit_r0 : List AI := [
  ⟨(some 1), none, .box 520001 5 (.t 0)⟩,
  ⟨(some 2), none, .mov (.c (.int .i64 0))⟩]
@[go_sem] def scriptingref32_limit_r1 : List AI := [
  ⟨(some 3), none, .faddr 0 (.t 1)⟩,
  ⟨(some 4), none, .load 1 false (.t 3)⟩]
@[go_sem] def scriptingref32_limit_r2 : List AI := [
  ⟨(some 6), none, .bin .eql (.t 4) (.c (.int .i64 16))⟩,
  ⟨(some 5), none, .mov (.t 6)⟩]
@[go_sem] def scriptingref32_limit_r3 : List AI := [
  ⟨(some 7), none, .faddr 1 (.t 1)⟩,
  ⟨(some 8), none, .load 1 false (.t 7)⟩,
  ⟨(some 9), none, .faddr 2 (.t 1)⟩,
  ⟨(some 10), none, .load 1 false (.t 9)⟩,
  ⟨(some 11), none, .mm true [(.t 10), (.c (.int .i64 0))]⟩,
  ⟨(some 12), none, .bin .add (.t 8) (.t 11)⟩,
  ⟨(some 13), none, .faddr 1 (.t 1)⟩,
  ⟨(some 14), none, .load 1 false (.t 13)⟩,
  ⟨(some 15), none, .faddr 3 (.t 1)⟩,
  ⟨(some 16), none, .load 1 false (.t 15)⟩,
  ⟨(some 17), none, .bin .add (.t 14) (.t 16)⟩,
  ⟨(some 18), none, .bin .sub (.t 17) (.c (.int .i64 1))⟩,
  ⟨(some 19), none, .mm true [(.t 12), (.t 18)]⟩,
  ⟨(some 2), none, .mov (.t 19)⟩]
@[go_sem] def scriptingref32_limit_r4 : List AI := [
  ⟨(some 21), none, .bin .eql (.t 4) (.c (.int .i64 17))⟩,
  ⟨(some 20), none, .mov (.t 21)⟩]
@[go_sem] def scriptingref32_limit_r5 : List AI := [
  ⟨(some 22), none, .bin .eql (.t 4) (.c (.int .i64 21))⟩,
  ⟨(some 20), none, .mov (.t 22)⟩]
@[go_sem] def scriptingref32_limit_r6 : List AI := [
  ⟨(some 23), none, .faddr 1 (.t 1)⟩,
  ⟨(some 24), none, .load 1 false (.t 23)⟩,
  ⟨(some 25), none, .faddr 2 (.t 1)⟩,
  ⟨(some 26), none, .load 1 false (.t 25)⟩,
  ⟨(some 27), none, .mm true [(.t 26), (.c (.int .i64 0))]⟩,
  ⟨(some 28), none, .bin .add (.t 24) (.t 27)⟩,
  ⟨(some 2), none, .mov (.t 28)⟩]
@[go_sem] def scriptingref32_limit_r7 : List AI := [
  ⟨(some 30), none, .bin .eql (.t 4) (.c (.int .i64 18))⟩,
  ⟨(some 29), none, .mov (.t 30)⟩]
@[go_sem] def scriptingref32_limit_r8 : List AI := [
  ⟨(some 31), none, .bin .eql (.t 4) (.c (.int .i64 19))⟩,
  ⟨(some 29), none, .mov (.t 31)⟩]
@[go_sem] def scriptingref32_limit_r9 : List AI := [
  ⟨(some 32), none, .faddr 1 (.t 1)⟩,
  ⟨(some 33), none, .load 1 false (.t 32)⟩,
  ⟨(some 34), none, .faddr 2 (.t 1)⟩,
  ⟨(some 35), none, .load 1 false (.t 34)⟩,
  ⟨(some 36), none, .bin .add (.t 33) (.t 35)⟩,
  ⟨(some 37), none, .bin .sub (.t 36) (.c (.int .i64 1))⟩,
  ⟨(some 2), none, .mov (.t 37)⟩]
@[go_sem] def scriptingref32_limit_r10 : List AI := [
  ⟨(some 39), none, .bin .eql (.t 4) (.c (.int .i64 25))⟩,
  ⟨(some 38), none, .mov (.t 39)⟩]
@[go_sem] def scriptingref32_limit_r11 : List AI := [
  ⟨(some 40), none, .faddr 1 (.t 1)⟩,
  ⟨(some 41), none, .load 1 false (.t 40)⟩,
  ⟨(some 42), none, .bin .add (.t 41) (.c (.int .i64 2))⟩,
  ⟨(some 43), none, .faddr 3 (.t 1)⟩,
  ⟨(some 44), none, .load 1 false (.t 43)⟩,
  ⟨(some 45), none, .bin .add (.t 42) (.t 44)⟩,
  ⟨(some 2), none, .mov (.t 45)⟩]
@[go_sem] def scriptingref32_limit_r12 : List AI := [
  ⟨(some 2), none, .mov (.c (.int .i64 0))⟩]
@[go_sem] def scriptingref32_limit_c : AC := .seq (.ops [scriptingref32_limit_r0]) (.seq (.seq (.ops [scriptingref32_limit_r1]) (.block 0 (.seq (.ops [scriptingref32_limit_r2]) (.cond (.t 5) (.seq (.ops [scriptingref32_limit_r3]) (.ret)) (.seq (.seq (.ops [scriptingref32_limit_r4]) (.cond (.t 20) (.skip) (.ops [scriptingref32_limit_r5]))) (.cond (.t 20) (.seq (.ops [scriptingref32_limit_r6]) (.ret)) (.seq (.seq (.ops [scriptingref32_limit_r7]) (.cond (.t 29) (.skip) (.ops [scriptingref32_limit_r8]))) (.cond (.t 29) (.seq (.ops [scriptingref32_limit_r9]) (.ret)) (.seq (.ops [scriptingref32_limit_r10]) (.cond (.t 38) (.seq (.ops [scriptingref32_limit_r11]) (.ret)) (.skip))))))))))) (.seq (.ops [scriptingref32_limit_r12]) (.ret)))
theorem scriptingref32_limit_ok : compF Tryd.prog 52 = some (46, scriptingref32_limit_c, [.t 2]) := by kernel_rfl

@[go_sem] def scriptingref32_set_r0 : List AI := [
  ⟨(some 2), none, .mov (.c .nils)⟩]
@[go_sem] def scriptingref32_set_r1 : List AI := [
  ⟨(some 5), none, .mkrow 530005 1 []⟩,
  ⟨(some 3), none, .mov (.t 5)⟩]
@[go_sem] def scriptingref32_set_r2 : List AI := [
  ⟨(some 4), none, .mov (.c (.int .i64 0))⟩]
@[go_sem] def scriptingref32_set_r3 : List AI := [
  ⟨(some 6), none, .mov (.t 4)⟩,
  ⟨(some 7), none, .mov (.t 0)⟩,
  ⟨(some 8), none, .len 0 (.t 7)⟩,
  ⟨(some 9), none, .bin .lss (.t 6) (.t 8)⟩]
@[go_sem] def scriptingref32_set_r4 : List AI := [
  ⟨(some 12), none, .mov (.t 3)⟩,
  ⟨(some 13), none, .mov (.t 0)⟩,
  ⟨(some 14), none, .mov (.t 4)⟩,
  ⟨(some 15), none, .iaddr 1 (.t 13) (.t 14)⟩,
  ⟨(some 16), none, .load 1 false (.t 15)⟩,
  ⟨(some 17), none, .call 72 [(.t 12), (.t 16)]⟩,
  ⟨(some 3), none, .mov (.t 17)⟩]
@[go_sem] def scriptingref32_set_r5 : List AI := [
  ⟨(some 10), none, .mov (.t 4)⟩,
  ⟨(some 11), none, .bin .add (.t 10) (.c (.int .i64 1))⟩,
  ⟨(some 4), none, .mov (.t 11)⟩]
def scriptingref32_set_l0 : AC := .seq (.seq (.ops [scriptingref32_set_r3]) (.cond (.t 9) (.skip) (.exit 0))) (.seq (.block 1 (.ops [scriptingref32_set_r4])) (.ops [scriptingref32_set_r5]))
theorem scriptingref32_set_l0_eq : scriptingref32_set_l0 = .seq (.seq (.ops [scriptingref32_set_r3]) (.cond (.t 9) (.skip) (.exit 0))) (.seq (.block 1 (.ops [scriptingref32_set_r4])) (.ops [scriptingref32_set_r5])) := rfl
@[go_sem] def scriptingref32_set_r6 : List AI := [
  ⟨(some 18), none, .mov (.t 3)⟩,
  ⟨(some 2), none, .mov (.t 18)⟩]
@[go_sem] def scriptingref32_set_c : AC := .seq (.ops [scriptingref32_set_r0]) (.seq (.ops [scriptingref32_set_r1]) (.seq (.seq (.ops [scriptingref32_set_r2]) (.block 0 (.loop scriptingref32_set_l0))) (.seq (.ops [scriptingref32_set_r6]) (.ret))))
theorem scriptingref32_set_ok : compF Tryd.prog 53 = some (19, scriptingref32_set_c, [.t 2]) := by kernel_rfl

@[go_sem] def scriptingref32_open_r0 : List AI := [
  ⟨(some 6), none, .mov (.c .nils)⟩,
  ⟨(some 7), none, .mov (.c (.int .i64 0))⟩]
@[go_sem] def scriptingref32_open_r1 : List AI := [
  ⟨(some 8), none, .mov (.t 2)⟩,
  ⟨(some 9), none, .bin .lss (.t 8) (.c (.int .i64 0))⟩]
@[go_sem] def scriptingref32_open_r2 : List AI := [
  ⟨(some 10), none, .mov (.t 0)⟩,
  ⟨(some 11), none, .mov (.t 1)⟩,
  ⟨(some 6), none, .mov (.t 10)⟩,
  ⟨(some 7), none, .mov (.t 11)⟩]
@[go_sem] def scriptingref32_open_r3 : List AI := [
  ⟨(some 12), none, .mov (.t 0)⟩,
  ⟨(some 13), none, .mov (.t 1)⟩,
  ⟨(some 14), none, .mov (.t 2)⟩,
  ⟨(some 15), none, .call 55 [(.t 12), (.t 13), (.t 14)]⟩,
  ⟨(some 6), none, .mov (.t 15)⟩,
  ⟨(some 7), none, .mov (.c (.int .i64 (-1)))⟩]
@[go_sem] def scriptingref32_open_c : AC := .seq (.ops [scriptingref32_open_r0]) (.seq (.seq (.ops [scriptingref32_open_r1]) (.cond (.t 9) (.seq (.ops [scriptingref32_open_r2]) (.ret)) (.skip))) (.seq (.ops [scriptingref32_open_r3]) (.ret)))
theorem scriptingref32_open_ok : compF Tryd.prog 54 = some (16, scriptingref32_open_c, [.t 6, .t 7]) := by kernel_rfl

@[go_sem] def scriptingref32_span_r0 : List AI := [
  ⟨(some 6), none, .mov (.c .nils)⟩]
@[go_sem] def scriptingref32_span_r1 : List AI := [
  ⟨(some 7), none, .mov (.c (.int .i64 0))⟩]
@[go_sem] def scriptingref32_span_r2 : List AI := [
  ⟨(some 8), none, .mov (.t 7)⟩,
  ⟨(some 9), none, .mov (.t 2)⟩,
  ⟨(some 10), none, .bin .lss (.t 8) (.t 9)⟩]
@[go_sem] def scriptingref32_span_r3 : List AI := [
  ⟨(some 13), none, .mov (.t 0)⟩,
  ⟨(some 14), none, .mov (.t 1)⟩,
  ⟨(some 15), none, .mov (.t 7)⟩,
  ⟨(some 16), none, .bin .add (.t 14) (.t 15)⟩,
  ⟨(some 17), none, .mkisl 1 [(.t 16)]⟩,
  ⟨(some 18), none, .app 550018 1 (.t 13) (.t 17)⟩,
  ⟨(some 0), none, .mov (.t 18)⟩]
@[go_sem] def scriptingref32_span_r4 : List AI := [
  ⟨(some 11), none, .mov (.t 7)⟩,
  ⟨(some 12), none, .bin .add (.t 11) (.c (.int .i64 1))⟩,
  ⟨(some 7), none, .mov (.t 12)⟩]
def scriptingref32_span_l0 : AC := .seq (.seq (.ops [scriptingref32_span_r2]) (.cond (.t 10) (.skip) (.exit 0))) (.seq (.block 1 (.ops [scriptingref32_span_r3])) (.ops [scriptingref32_span_r4]))
theorem scriptingref32_span_l0_eq : scriptingref32_span_l0 = .seq (.seq (.ops [scriptingref32_span_r2]) (.cond (.t 10) (.skip) (.exit 0))) (.seq (.block 1 (.ops [scriptingref32_span_r3])) (.ops [scriptingref32_span_r4])) := rfl
@[go_sem] def scriptingref32_span_r5 : List AI := [
  ⟨(some 19), none, .mov (.t 0)⟩,
  ⟨(some 6), none, .mov (.t 19)⟩]
@[go_sem] def scriptingref32_span_c : AC := .seq (.ops [scriptingref32_span_r0]) (.seq (.seq (.ops [scriptingref32_span_r1]) (.block 0 (.loop scriptingref32_span_l0))) (.seq (.ops [scriptingref32_span_r5]) (.ret)))
theorem scriptingref32_span_ok : compF Tryd.prog 55 = some (20, scriptingref32_span_c, [.t 6]) := by kernel_rfl

@[go_sem] def slices_insertionSortOrdered_int_r0 : List AI := [
  ⟨(some 8), none, .mov (.t 1)⟩,
  ⟨(some 9), none, .bin .add (.t 8) (.c (.int .i64 1))⟩,
  ⟨(some 6), none, .mov (.t 9)⟩]
@[go_sem] def slices_insertionSortOrdered_int_r1 : List AI := [
  ⟨(some 10), none, .mov (.t 6)⟩,
  ⟨(some 11), none, .mov (.t 2)⟩,
  ⟨(some 12), none, .bin .lss (.t 10) (.t 11)⟩]
@[go_sem] def slices_insertionSortOrdered_int_r2 : List AI := [
  ⟨(some 15), none, .mov (.t 6)⟩,
  ⟨(some 7), none, .mov (.t 15)⟩]
@[go_sem] def slices_insertionSortOrdered_int_r3 : List AI := [
  ⟨(some 16), none, .mov (.t 7)⟩,
  ⟨(some 17), none, .mov (.t 1)⟩,
  ⟨(some 18), none, .bin .gtr (.t 16) (.t 17)⟩,
  ⟨(some 19), none, .mov (.t 18)⟩,
  ⟨(some 20), (some (19, true)), .mov (.t 0)⟩,
  ⟨(some 21), (some (19, true)), .mov (.t 7)⟩,
  ⟨(some 22), (some (19, true)), .iaddr 1 (.t 20) (.t 21)⟩,
  ⟨(some 23), (some (19, true)), .load 1 false (.t 22)⟩,
  ⟨(some 24), (some (19, true)), .mov (.t 0)⟩,
  ⟨(some 25), (some (19, true)), .mov (.t 7)⟩,
  ⟨(some 26), (some (19, true)), .bin .sub (.t 25) (.c (.int .i64 1))⟩,
  ⟨(some 27), (some (19, true)), .iaddr 1 (.t 24) (.t 26)⟩,
  ⟨(some 28), (some (19, true)), .load 1 false (.t 27)⟩,
  ⟨(some 29), (some (19, true)), .call 62 [(.t 23), (.t 28)]⟩,
  ⟨(some 30), none, .pick (.t 19) (.t 29) (.c (.bool false))⟩]
@[go_sem] def slices_insertionSortOrdered_int_r4 : List AI := [
  ⟨(some 33), none, .mov (.t 0)⟩,
  ⟨(some 34), none, .mov (.t 7)⟩,
  ⟨(some 35), none, .mov (.t 0)⟩,
  ⟨(some 36), none, .mov (.t 7)⟩,
  ⟨(some 37), none, .bin .sub (.t 36) (.c (.int .i64 1))⟩,
  ⟨(some 38), none, .mov (.t 0)⟩,
  ⟨(some 39), none, .mov (.t 7)⟩,
  ⟨(some 40), none, .bin .sub (.t 39) (.c (.int .i64 1))⟩,
  ⟨(some 41), none, .iaddr 1 (.t 38) (.t 40)⟩,
  ⟨(some 42), none, .load 1 false (.t 41)⟩,
  ⟨(some 43), none, .mov (.t 0)⟩,
  ⟨(some 44), none, .mov (.t 7)⟩,
  ⟨(some 45), none, .iaddr 1 (.t 43) (.t 44)⟩,
  ⟨(some 46), none, .load 1 false (.t 45)⟩,
  ⟨(some 47), none, .iaddr 1 (.t 33) (.t 34)⟩,
  ⟨none, none, .store 1 (.t 47) (.t 42)⟩,
  ⟨(some 48), none, .iaddr 1 (.t 35) (.t 37)⟩,
  ⟨none, none, .store 1 (.t 48) (.t 46)⟩]
@[go_sem] def slices_insertionSortOrdered_int_r5 : List AI := [
  ⟨(some 31), none, .mov (.t 7)⟩,
  ⟨(some 32), none, .bin .sub (.t 31) (.c (.int .i64 1))⟩,
  ⟨(some 7), none, .mov (.t 32)⟩]
def slices_insertionSortOrdered_int_l1 : AC := .seq (.seq (.ops [slices_insertionSortOrdered_int_r3]) (.cond (.t 30) (.skip) (.exit 2))) (.seq (.block 3 (.ops [slices_insertionSortOrdered_int_r4])) (.ops [slices_insertionSortOrdered_int_r5]))
theorem slices_insertionSortOrdered_int_l1_eq : slices_insertionSortOrdered_int_l1 = .seq (.seq (.ops [slices_insertionSortOrdered_int_r3]) (.cond (.t 30) (.skip) (.exit 2))) (.seq (.block 3 (.ops [slices_insertionSortOrdered_int_r4])) (.ops [slices_insertionSortOrdered_int_r5])) := rfl
@[go_sem] def slices_insertionSortOrdered_int_r6 : List AI := [
  ⟨(some 13), none, .mov (.t 6)⟩,
  ⟨(some 14), none, .bin .add (.t 13) (.c (.int .i64 1))⟩,
  ⟨(some 6), none, .mov (.t 14)⟩]
def slices_insertionSortOrdered_int_l0 : AC := .seq (.seq (.ops [slices_insertionSortOrdered_int_r1]) (.cond (.t 12) (.skip) (.exit 0))) (.seq (.block 1 (.seq (.ops [slices_insertionSortOrdered_int_r2]) (.block 2 (.loop slices_insertionSortOrdered_int_l1)))) (.ops [slices_insertionSortOrdered_int_r6]))
theorem slices_insertionSortOrdered_int_l0_eq : slices_insertionSortOrdered_int_l0 = .seq (.seq (.ops [slices_insertionSortOrdered_int_r1]) (.cond (.t 12) (.skip) (.exit 0))) (.seq (.block 1 (.seq (.ops [slices_insertionSortOrdered_int_r2]) (.block 2 (.loop slices_insertionSortOrdered_int_l1)))) (.ops [slices_insertionSortOrdered_int_r6])) := rfl
@[go_sem] def slices_insertionSortOrdered_int_c : AC := .seq (.ops [slices_insertionSortOrdered_int_r0]) (.block 0 (.loop slices_insertionSortOrdered_int_l0))
theorem slices_insertionSortOrdered_int_ok : compF Tryd.prog 56 = some (49, slices_insertionSortOrdered_int_c, []) := by kernel_rfl

@[go_sem] def cmp_Less_int_r0 : List AI := [
  ⟨(some 4), none, .mov (.c (.bool false))⟩]
@[go_sem] def cmp_Less_int_r1 : List AI := [
  ⟨(some 5), none, .mov (.t 0)⟩,
  ⟨(some 6), none, .call 78 [(.t 5)]⟩,
  ⟨(some 7), none, .mov (.t 6)⟩,
  ⟨(some 8), (some (7, true)), .mov (.t 1)⟩,
  ⟨(some 9), (some (7, true)), .call 78 [(.t 8)]⟩,
  ⟨(some 10), (some (7, true)), .un .not (.t 9)⟩,
  ⟨(some 11), none, .pick (.t 7) (.t 10) (.c (.bool false))⟩,
  ⟨(some 12), none, .mov (.t 11)⟩,
  ⟨(some 13), (some (12, false)), .mov (.t 0)⟩,
  ⟨(some 14), (some (12, false)), .mov (.t 1)⟩,
  ⟨(some 15), (some (12, false)), .bin .lss (.t 13) (.t 14)⟩,
  ⟨(some 16), none, .pick (.t 12) (.c (.bool true)) (.t 15)⟩,
  ⟨(some 4), none, .mov (.t 16)⟩]
@[go_sem] def cmp_Less_int_c : AC := .seq (.ops [cmp_Less_int_r0]) (.seq (.ops [cmp_Less_int_r1]) (.ret))
theorem cmp_Less_int_ok : compF Tryd.prog 62 = some (17, cmp_Less_int_c, [.t 4]) := by kernel_rfl

@[go_sem] def math_bits_Len32_r0 : List AI := [
  ⟨(some 2), none, .mov (.c (.int .i64 0))⟩]
@[go_sem] def math_bits_Len32_r1 : List AI := [
  ⟨(some 3), none, .mov (.t 0)⟩,
  ⟨(some 4), none, .bin .geq (.t 3) (.c (.int .u32 65536))⟩]
@[go_sem] def math_bits_Len32_r2 : List AI := [
  ⟨(some 5), none, .mov (.t 0)⟩,
  ⟨(some 6), none, .sh false (.t 5) (.c (.int .u64 16))⟩,
  ⟨(some 0), none, .mov (.t 6)⟩]
@[go_sem] def math_bits_Len32_r3 : List AI := [
  ⟨(some 2), none, .mov (.c (.int .i64 16))⟩]
@[go_sem] def math_bits_Len32_r4 : List AI := [
  ⟨(some 7), none, .mov (.t 0)⟩,
  ⟨(some 8), none, .bin .geq (.t 7) (.c (.int .u32 256))⟩]
@[go_sem] def math_bits_Len32_r5 : List AI := [
  ⟨(some 9), none, .mov (.t 0)⟩,
  ⟨(some 10), none, .sh false (.t 9) (.c (.int .u64 8))⟩,
  ⟨(some 0), none, .mov (.t 10)⟩]
@[go_sem] def math_bits_Len32_r6 : List AI := [
  ⟨(some 11), none, .mov (.t 2)⟩,
  ⟨(some 12), none, .bin .add (.t 11) (.c (.int .i64 8))⟩,
  ⟨(some 2), none, .mov (.t 12)⟩]
@[go_sem] def math_bits_Len32_r7 : List AI := [
  ⟨(some 13), none, .mov (.t 2)⟩,
  ⟨(some 14), none, .mov (.t 0)⟩,
  ⟨(some 15), none, .conv .u8 (.t 14)⟩,
  ⟨(some 16), none, .idx (.c (.str [0, 1, 2, 2, 3, 3, 3, 3, 4, 4, 4, 4, 4, 4, 4, 4, 5, 5, 5, 5, 5, 5, 5, 5, 5, 5, 5, 5, 5, 5, 5, 5, 6, 6, 6, 6, 6, 6, 6, 6, 6, 6, 6, 6, 6, 6, 6, 6, 6, 6, 6, 6, 6, 6, 6, 6, 6, 6, 6, 6, 6, 6, 6, 6, 7, 7, 7, 7, 7, 7, 7, 7, 7, 7, 7, 7, 7, 7, 7, 7, 7, 7, 7, 7, 7, 7, 7, 7, 7, 7, 7, 7, 7, 7, 7, 7, 7, 7, 7, 7, 7, 7, 7, 7, 7, 7, 7, 7, 7, 7, 7, 7, 7, 7, 7, 7, 7, 7, 7, 7, 7, 7, 7, 7, 7, 7, 7, 7, 8, 8, 8, 8, 8, 8, 8, 8, 8, 8, 8, 8, 8, 8, 8, 8, 8, 8, 8, 8, 8, 8, 8, 8, 8, 8, 8, 8, 8, 8, 8, 8, 8, 8, 8, 8, 8, 8, 8, 8, 8, 8, 8, 8, 8, 8, 8, 8, 8, 8, 8, 8, 8, 8, 8, 8, 8, 8, 8, 8, 8, 8, 8, 8, 8, 8, 8, 8, 8, 8, 8, 8, 8, 8, 8, 8, 8, 8, 8, 8, 8, 8, 8, 8, 8, 8, 8, 8, 8, 8, 8, 8, 8, 8, 8, 8, 8, 8, 8, 8, 8, 8, 8, 8, 8, 8, 8, 8, 8, 8, 8, 8, 8, 8, 8, 8, 8, 8, 8, 8, 8, 8, 8, 8, 8, 8, 8, 8])) (.t 15)⟩,
  ⟨(some 17), none, .conv .i64 (.t 16)⟩,
  ⟨(some 18), none, .bin .add (.t 13) (.t 17)⟩,
  ⟨(some 2), none, .mov (.t 18)⟩]
@[go_sem] def math_bits_Len32_c : AC := .seq (.ops [math_bits_Len32_r0]) (.seq (.seq (.ops [math_bits_Len32_r1]) (.cond (.t 4) (.seq (.ops [math_bits_Len32_r2]) (.ops [math_bits_Len32_r3])) (.skip))) (.seq (.seq (.ops [math_bits_Len32_r4]) (.cond (.t 8) (.seq (.ops [math_bits_Len32_r5]) (.ops [math_bits_Len32_r6])) (.skip))) (.seq (.ops [math_bits_Len32_r7]) (.ret))))
theorem math_bits_Len32_ok : compF Tryd.prog 65 = some (19, math_bits_Len32_c, [.t 2]) := by kernel_rfl

@[go_sem] def math_bits_Len64_r0 : List AI := [
  ⟨(some 2), none, .mov (.c (.int .i64 0))⟩]
@[go_sem] def math_bits_Len64_r1 : List AI := [
  ⟨(some 3), none, .mov (.t 0)⟩,
  ⟨(some 4), none, .bin .geq (.t 3) (.c (.int .u64 4294967296))⟩]
@[go_sem] def math_bits_Len64_r2 : List AI := [
  ⟨(some 5), none, .mov (.t 0)⟩,
  ⟨(some 6), none, .sh false (.t 5) (.c (.int .u64 32))⟩,
  ⟨(some 0), none, .mov (.t 6)⟩]
@[go_sem] def math_bits_Len64_r3 : List AI := [
  ⟨(some 2), none, .mov (.c (.int .i64 32))⟩]
@[go_sem] def math_bits_Len64_r4 : List AI := [
  ⟨(some 7), none, .mov (.t 0)⟩,
  ⟨(some 8), none, .bin .geq (.t 7) (.c (.int .u64 65536))⟩]
@[go_sem] def math_bits_Len64_r5 : List AI := [
  ⟨(some 9), none, .mov (.t 0)⟩,
  ⟨(some 10), none, .sh false (.t 9) (.c (.int .u64 16))⟩,
  ⟨(some 0), none, .mov (.t 10)⟩]
@[go_sem] def math_bits_Len64_r6 : List AI := [
  ⟨(some 11), none, .mov (.t 2)⟩,
  ⟨(some 12), none, .bin .add (.t 11) (.c (.int .i64 16))⟩,
  ⟨(some 2), none, .mov (.t 12)⟩]
@[go_sem] def math_bits_Len64_r7 : List AI := [
  ⟨(some 13), none, .mov (.t 0)⟩,
  ⟨(some 14), none, .bin .geq (.t 13) (.c (.int .u64 256))⟩]
@[go_sem] def math_bits_Len64_r8 : List AI := [
  ⟨(some 15), none, .mov (.t 0)⟩,
  ⟨(some 16), none, .sh false (.t 15) (.c (.int .u64 8))⟩,
  ⟨(some 0), none, .mov (.t 16)⟩]
@[go_sem] def math_bits_Len64_r9 : List AI := [
  ⟨(some 17), none, .mov (.t 2)⟩,
  ⟨(some 18), none, .bin .add (.t 17) (.c (.int .i64 8))⟩,
  ⟨(some 2), none, .mov (.t 18)⟩]
@[go_sem] def math_bits_Len64_r10 : List AI := [
  ⟨(some 19), none, .mov (.t 2)⟩,
  ⟨(some 20), none, .mov (.t 0)⟩,
  ⟨(some 21), none, .conv .u8 (.t 20)⟩,
  ⟨(some 22), none, .idx (.c (.str [0, 1, 2, 2, 3, 3, 3, 3, 4, 4, 4, 4, 4, 4, 4, 4, 5, 5, 5, 5, 5, 5, 5, 5, 5, 5, 5, 5, 5, 5, 5, 5, 6, 6, 6, 6, 6, 6, 6, 6, 6, 6, 6, 6, 6, 6, 6, 6, 6, 6, 6, 6, 6, 6, 6, 6, 6, 6, 6, 6, 6, 6, 6, 6, 7, 7, 7, 7, 7, 7, 7, 7, 7, 7, 7, 7, 7, 7, 7, 7, 7, 7, 7, 7, 7, 7, 7, 7, 7, 7, 7, 7, 7, 7, 7, 7, 7, 7, 7, 7, 7, 7, 7, 7, 7, 7, 7, 7, 7, 7, 7, 7, 7, 7, 7, 7, 7, 7, 7, 7, 7, 7, 7, 7, 7, 7, 7, 7, 8, 8, 8, 8, 8, 8, 8, 8, 8, 8, 8, 8, 8, 8, 8, 8, 8, 8, 8, 8, 8, 8, 8, 8, 8, 8, 8, 8, 8, 8, 8, 8, 8, 8, 8, 8, 8, 8, 8, 8, 8, 8, 8, 8, 8, 8, 8, 8, 8, 8, 8, 8, 8, 8, 8, 8, 8, 8, 8, 8, 8, 8, 8, 8, 8, 8, 8, 8, 8, 8, 8, 8, 8, 8, 8, 8, 8, 8, 8, 8, 8, 8, 8, 8, 8, 8, 8, 8, 8, 8, 8, 8, 8, 8, 8, 8, 8, 8, 8, 8, 8, 8, 8, 8, 8, 8, 8, 8, 8, 8, 8, 8, 8, 8, 8, 8, 8, 8, 8, 8, 8, 8, 8, 8, 8, 8, 8, 8])) (.t 21)⟩,
  ⟨(some 23), none, .conv .i64 (.t 22)⟩,
  ⟨(some 24), none, .bin .add (.t 19) (.t 23)⟩,
  ⟨(some 2), none, .mov (.t 24)⟩]
@[go_sem] def math_bits_Len64_c : AC := .seq (.ops [math_bits_Len64_r0]) (.seq (.seq (.ops [math_bits_Len64_r1]) (.cond (.t 4) (.seq (.ops [math_bits_Len64_r2]) (.ops [math_bits_Len64_r3])) (.skip))) (.seq (.seq (.ops [math_bits_Len64_r4]) (.cond (.t 8) (.seq (.ops [math_bits_Len64_r5]) (.ops [math_bits_Len64_r6])) (.skip))) (.seq (.seq (.ops [math_bits_Len64_r7]) (.cond (.t 14) (.seq (.ops [math_bits_Len64_r8]) (.ops [math_bits_Len64_r9])) (.skip))) (.seq (.ops [math_bits_Len64_r10]) (.ret)))))
theorem math_bits_Len64_ok : compF Tryd.prog 66 = some (25, math_bits_Len64_c, [.t 2]) := by kernel_rfl

@[go_sem] def strings_Fields_r0 : List AI := [
  ⟨(some 2), none, .mov (.c .nils)⟩]
@[go_sem] def strings_Fields_r1 : List AI := [
  ⟨(some 3), none, .mov (.c (.int .i64 0))⟩]
@[go_sem] def strings_Fields_r2 : List AI := [
  ⟨(some 4), none, .mov (.c (.int .i64 1))⟩]
@[go_sem] def strings_Fields_r3 : List AI := [
  ⟨(some 5), none, .mov (.c (.int .u8 0))⟩]
@[go_sem] def strings_Fields_r4 : List AI := [
  ⟨(some 6), none, .mov (.c (.int .i64 0))⟩]
@[go_sem] def strings_Fields_r5 : List AI := [
  ⟨(some 13), none, .mov (.t 6)⟩,
  ⟨(some 14), none, .mov (.t 0)⟩,
  ⟨(some 15), none, .len 1 (.t 14)⟩,
  ⟨(some 16), none, .bin .lss (.t 13) (.t 15)⟩]
@[go_sem] def strings_Fields_r6 : List AI := [
  ⟨(some 19), none, .mov (.t 0)⟩,
  ⟨(some 20), none, .mov (.t 6)⟩,
  ⟨(some 21), none, .idx (.t 19) (.t 20)⟩,
  ⟨(some 7), none, .mov (.t 21)⟩]
@[go_sem] def strings_Fields_r7 : List AI := [
  ⟨(some 22), none, .mov (.t 5)⟩,
  ⟨(some 23), none, .mov (.t 7)⟩,
  ⟨(some 24), none, .bin .or (.t 22) (.t 23)⟩,
  ⟨(some 5), none, .mov (.t 24)⟩]
@[go_sem] def strings_Fields_r8 : List AI := [
  ⟨(some 25), none, .mov (.t 7)⟩,
  ⟨(some 26), none, .iaddrA 256 1 (.g 0) (.t 25)⟩,
  ⟨(some 27), none, .load 1 false (.t 26)⟩,
  ⟨(some 28), none, .conv .i64 (.t 27)⟩,
  ⟨(some 8), none, .mov (.t 28)⟩]
@[go_sem] def strings_Fields_r9 : List AI := [
  ⟨(some 29), none, .mov (.t 3)⟩,
  ⟨(some 30), none, .mov (.t 4)⟩,
  ⟨(some 31), none, .mov (.t 8)⟩,
  ⟨(some 32), none, .un .xor (.t 31)⟩,
  ⟨(some 33), none, .bin .and (.t 30) (.t 32)⟩,
  ⟨(some 34), none, .bin .add (.t 29) (.t 33)⟩,
  ⟨(some 3), none, .mov (.t 34)⟩]
@[go_sem] def strings_Fields_r10 : List AI := [
  ⟨(some 35), none, .mov (.t 8)⟩,
  ⟨(some 4), none, .mov (.t 35)⟩]
@[go_sem] def strings_Fields_r11 : List AI := [
  ⟨(some 17), none, .mov (.t 6)⟩,
  ⟨(some 18), none, .bin .add (.t 17) (.c (.int .i64 1))⟩,
  ⟨(some 6), none, .mov (.t 18)⟩]
def strings_Fields_l0 : AC := .seq (.seq (.ops [strings_Fields_r5]) (.cond (.t 16) (.skip) (.exit 0))) (.seq (.block 1 (.seq (.ops [strings_Fields_r6]) (.seq (.ops [strings_Fields_r7]) (.seq (.ops [strings_Fields_r8]) (.seq (.ops [strings_Fields_r9]) (.ops [strings_Fields_r10])))))) (.ops [strings_Fields_r11]))
theorem strings_Fields_l0_eq : strings_Fields_l0 = .seq (.seq (.ops [strings_Fields_r5]) (.cond (.t 16) (.skip) (.exit 0))) (.seq (.block 1 (.seq (.ops [strings_Fields_r6]) (.seq (.ops [strings_Fields_r7]) (.seq (.ops [strings_Fields_r8]) (.seq (.ops [strings_Fields_r9]) (.ops [strings_Fields_r10])))))) (.ops [strings_Fields_r11])) := rfl
@[go_sem] def strings_Fields_r12 : List AI := [
  ⟨(some 36), none, .mov (.t 5)⟩,
  ⟨(some 37), none, .bin .geq (.t 36) (.c (.int .u8 128))⟩]
@[go_sem] def strings_Fields_r13 : List AI := [
  ⟨(some 38), none, .mov (.t 0)⟩,
  ⟨(some 39), none, .call 79 [(.t 38), (.f 80)]⟩,
  ⟨(some 2), none, .mov (.t 39)⟩]
@[go_sem] def strings_Fields_r14 : List AI := [
  ⟨(some 40), none, .mov (.t 3)⟩,
  ⟨(some 41), none, .mksl 670041 [(.str [])] (.t 40)⟩,
  ⟨(some 9), none, .mov (.t 41)⟩]
@[go_sem] def strings_Fields_r15 : List AI := [
  ⟨(some 10), none, .mov (.c (.int .i64 0))⟩]
@[go_sem] def strings_Fields_r16 : List AI := [
  ⟨(some 11), none, .mov (.c (.int .i64 0))⟩]
@[go_sem] def strings_Fields_r17 : List AI := [
  ⟨(some 12), none, .mov (.c (.int .i64 0))⟩]
@[go_sem] def strings_Fields_r18 : List AI := [
  ⟨(some 42), none, .mov (.t 12)⟩,
  ⟨(some 43), none, .mov (.t 0)⟩,
  ⟨(some 44), none, .len 1 (.t 43)⟩,
  ⟨(some 45), none, .bin .lss (.t 42) (.t 44)⟩,
  ⟨(some 46), none, .mov (.t 45)⟩,
  ⟨(some 47), (some (46, true)), .mov (.t 0)⟩,
  ⟨(some 48), (some (46, true)), .mov (.t 12)⟩,
  ⟨(some 49), (some (46, true)), .idx (.t 47) (.t 48)⟩,
  ⟨(some 50), (some (46, true)), .iaddrA 256 1 (.g 0) (.t 49)⟩,
  ⟨(some 51), (some (46, true)), .load 1 false (.t 50)⟩,
  ⟨(some 52), (some (46, true)), .bin .neq (.t 51) (.c (.int .u8 0))⟩,
  ⟨(some 53), none, .pick (.t 46) (.t 52) (.c (.bool false))⟩]
@[go_sem] def strings_Fields_r19 : List AI := [
  ⟨(some 54), none, .mov (.t 12)⟩,
  ⟨(some 55), none, .bin .add (.t 54) (.c (.int .i64 1))⟩,
  ⟨(some 12), none, .mov (.t 55)⟩]
def strings_Fields_l1 : AC := .seq (.seq (.ops [strings_Fields_r18]) (.cond (.t 53) (.skip) (.exit 2))) (.block 3 (.ops [strings_Fields_r19]))
theorem strings_Fields_l1_eq : strings_Fields_l1 = .seq (.seq (.ops [strings_Fields_r18]) (.cond (.t 53) (.skip) (.exit 2))) (.block 3 (.ops [strings_Fields_r19])) := rfl
@[go_sem] def strings_Fields_r20 : List AI := [
  ⟨(some 56), none, .mov (.t 12)⟩,
  ⟨(some 11), none, .mov (.t 56)⟩]
@[go_sem] def strings_Fields_r21 : List AI := [
  ⟨(some 57), none, .mov (.t 12)⟩,
  ⟨(some 58), none, .mov (.t 0)⟩,
  ⟨(some 59), none, .len 1 (.t 58)⟩,
  ⟨(some 60), none, .bin .lss (.t 57) (.t 59)⟩]
@[go_sem] def strings_Fields_r22 : List AI := [
  ⟨(some 61), none, .mov (.t 0)⟩,
  ⟨(some 62), none, .mov (.t 12)⟩,
  ⟨(some 63), none, .idx (.t 61) (.t 62)⟩,
  ⟨(some 64), none, .iaddrA 256 1 (.g 0) (.t 63)⟩,
  ⟨(some 65), none, .load 1 false (.t 64)⟩,
  ⟨(some 66), none, .bin .eql (.t 65) (.c (.int .u8 0))⟩]
@[go_sem] def strings_Fields_r23 : List AI := [
  ⟨(some 67), none, .mov (.t 12)⟩,
  ⟨(some 68), none, .bin .add (.t 67) (.c (.int .i64 1))⟩,
  ⟨(some 12), none, .mov (.t 68)⟩]
@[go_sem] def strings_Fields_r24 : List AI := [
  ⟨(some 69), none, .mov (.t 9)⟩,
  ⟨(some 70), none, .mov (.t 10)⟩,
  ⟨(some 71), none, .mov (.t 0)⟩,
  ⟨(some 72), none, .mov (.t 11)⟩,
  ⟨(some 73), none, .mov (.t 12)⟩,
  ⟨(some 74), none, .sls (.t 71) (some (.t 72)) (some (.t 73))⟩,
  ⟨(some 75), none, .iaddr 1 (.t 69) (.t 70)⟩,
  ⟨none, none, .store 1 (.t 75) (.t 74)⟩]
@[go_sem] def strings_Fields_r25 : List AI := [
  ⟨(some 76), none, .mov (.t 10)⟩,
  ⟨(some 77), none, .bin .add (.t 76) (.c (.int .i64 1))⟩,
  ⟨(some 10), none, .mov (.t 77)⟩]
@[go_sem] def strings_Fields_r26 : List AI := [
  ⟨(some 78), none, .mov (.t 12)⟩,
  ⟨(some 79), none, .bin .add (.t 78) (.c (.int .i64 1))⟩,
  ⟨(some 12), none, .mov (.t 79)⟩]
@[go_sem] def strings_Fields_r27 : List AI := [
  ⟨(some 80), none, .mov (.t 12)⟩,
  ⟨(some 81), none, .mov (.t 0)⟩,
  ⟨(some 82), none, .len 1 (.t 81)⟩,
  ⟨(some 83), none, .bin .lss (.t 80) (.t 82)⟩,
  ⟨(some 84), none, .mov (.t 83)⟩,
  ⟨(some 85), (some (84, true)), .mov (.t 0)⟩,
  ⟨(some 86), (some (84, true)), .mov (.t 12)⟩,
  ⟨(some 87), (some (84, true)), .idx (.t 85) (.t 86)⟩,
  ⟨(some 88), (some (84, true)), .iaddrA 256 1 (.g 0) (.t 87)⟩,
  ⟨(some 89), (some (84, true)), .load 1 false (.t 88)⟩,
  ⟨(some 90), (some (84, true)), .bin .neq (.t 89) (.c (.int .u8 0))⟩,
  ⟨(some 91), none, .pick (.t 84) (.t 90) (.c (.bool false))⟩]
@[go_sem] def strings_Fields_r28 : List AI := [
  ⟨(some 92), none, .mov (.t 12)⟩,
  ⟨(some 93), none, .bin .add (.t 92) (.c (.int .i64 1))⟩,
  ⟨(some 12), none, .mov (.t 93)⟩]
def strings_Fields_l3 : AC := .seq (.seq (.ops [strings_Fields_r27]) (.cond (.t 91) (.skip) (.exit 6))) (.block 7 (.ops [strings_Fields_r28]))
theorem strings_Fields_l3_eq : strings_Fields_l3 = .seq (.seq (.ops [strings_Fields_r27]) (.cond (.t 91) (.skip) (.exit 6))) (.block 7 (.ops [strings_Fields_r28])) := rfl
@[go_sem] def strings_Fields_r29 : List AI := [
  ⟨(some 94), none, .mov (.t 12)⟩,
  ⟨(some 11), none, .mov (.t 94)⟩]
def strings_Fields_l2 : AC := .seq (.seq (.ops [strings_Fields_r21]) (.cond (.t 60) (.skip) (.exit 4))) (.block 5 (.seq (.seq (.ops [strings_Fields_r22]) (.cond (.t 66) (.seq (.ops [strings_Fields_r23]) (.exit 5)) (.skip))) (.seq (.ops [strings_Fields_r24]) (.seq (.ops [strings_Fields_r25]) (.seq (.ops [strings_Fields_r26]) (.seq (.block 6 (.loop strings_Fields_l3)) (.ops [strings_Fields_r29])))))))
theorem strings_Fields_l2_eq : strings_Fields_l2 = .seq (.seq (.ops [strings_Fields_r21]) (.cond (.t 60) (.skip) (.exit 4))) (.block 5 (.seq (.seq (.ops [strings_Fields_r22]) (.cond (.t 66) (.seq (.ops [strings_Fields_r23]) (.exit 5)) (.skip))) (.seq (.ops [strings_Fields_r24]) (.seq (.ops [strings_Fields_r25]) (.seq (.ops [strings_Fields_r26]) (.seq (.block 6 (.loop strings_Fields_l3)) (.ops [strings_Fields_r29]))))))) := rfl
@[go_sem] def strings_Fields_r30 : List AI := [
  ⟨(some 95), none, .mov (.t 11)⟩,
  ⟨(some 96), none, .mov (.t 0)⟩,
  ⟨(some 97), none, .len 1 (.t 96)⟩,
  ⟨(some 98), none, .bin .lss (.t 95) (.t 97)⟩]
@[go_sem] def strings_Fields_r31 : List AI := [
  ⟨(some 99), none, .mov (.t 9)⟩,
  ⟨(some 100), none, .mov (.t 10)⟩,
  ⟨(some 101), none, .mov (.t 0)⟩,
  ⟨(some 102), none, .mov (.t 11)⟩,
  ⟨(some 103), none, .sls (.t 101) (some (.t 102)) none⟩,
  ⟨(some 104), none, .iaddr 1 (.t 99) (.t 100)⟩,
  ⟨none, none, .store 1 (.t 104) (.t 103)⟩]
@[go_sem] def strings_Fields_r32 : List AI := [
  ⟨(some 105), none, .mov (.t 9)⟩,
  ⟨(some 2), none, .mov (.t 105)⟩]
@[go_sem] def strings_Fields_c : AC := .seq (.ops [strings_Fields_r0]) (.seq (.ops [strings_Fields_r1]) (.seq (.ops [strings_Fields_r2]) (.seq (.ops [strings_Fields_r3]) (.seq (.seq (.ops [strings_Fields_r4]) (.block 0 (.loop strings_Fields_l0))) (.seq (.seq (.ops [strings_Fields_r12]) (.cond (.t 37) (.seq (.ops [strings_Fields_r13]) (.ret)) (.skip))) (.seq (.ops [strings_Fields_r14]) (.seq (.ops [strings_Fields_r15]) (.seq (.ops [strings_Fields_r16]) (.seq (.ops [strings_Fields_r17]) (.seq (.block 2 (.loop strings_Fields_l1)) (.seq (.ops [strings_Fields_r20]) (.seq (.block 4 (.loop strings_Fields_l2)) (.seq (.seq (.ops [strings_Fields_r30]) (.cond (.t 98) (.ops [strings_Fields_r31]) (.skip))) (.seq (.ops [strings_Fields_r32]) (.ret)))))))))))))))
theorem strings_Fields_ok : compF Tryd.prog 67 = some (106, strings_Fields_c, [.t 2]) := by kernel_rfl

@[go_sem] def opcode_shape_r0 : List AI := [
  ⟨(some 2), none, .box 680002 6 (.c (.agg [(.str []), (.int .i64 0), (.int .i64 0), (.int .i64 0), (.int .i64 0), (.int .i64 0)]))⟩]
@[go_sem] def opcode_shape_r1 : List AI := [
  ⟨(some 3), none, .mov (.t 0)⟩]
@[go_sem] def opcode_shape_r2 : List AI := [
  ⟨(some 5), none, .bin .eql (.t 3) (.c (.int .i64 1))⟩,
  ⟨(some 4), none, .mov (.t 5)⟩]
@[go_sem] def opcode_shape_r3 : List AI := [
  ⟨(some 6), none, .build [(.str []), (.int .i64 0), (.int .i64 0), (.int .i64 0), (.int .i64 0), (.int .i64 0)] [(1, 1, (.c (.int .i64 1))), (2, 1, (.c (.int .i64 1)))]⟩,
  ⟨none, none, .store 6 (.t 2) (.t 6)⟩]
@[go_sem] def opcode_shape_r4 : List AI := [
  ⟨(some 8), none, .bin .eql (.t 3) (.c (.int .i64 2))⟩,
  ⟨(some 7), none, .mov (.t 8)⟩]
@[go_sem] def opcode_shape_r5 : List AI := [
  ⟨(some 9), none, .bin .eql (.t 3) (.c (.int .i64 7))⟩,
  ⟨(some 7), none, .mov (.t 9)⟩]
@[go_sem] def opcode_shape_r6 : List AI := [
  ⟨(some 10), none, .build [(.str []), (.int .i64 0), (.int .i64 0), (.int .i64 0), (.int .i64 0), (.int .i64 0)] [(1, 1, (.c (.int .i64 1))), (2, 1, (.c (.int .i64 2)))]⟩,
  ⟨none, none, .store 6 (.t 2) (.t 10)⟩]
@[go_sem] def opcode_shape_r7 : List AI := [
  ⟨(some 12), none, .bin .eql (.t 3) (.c (.int .i64 3))⟩,
  ⟨(some 11), none, .mov (.t 12)⟩]
@[go_sem] def opcode_shape_r8 : List AI := [
  ⟨(some 13), none, .build [(.str []), (.int .i64 0), (.int .i64 0), (.int .i64 0), (.int .i64 0), (.int .i64 0)] [(1, 1, (.c (.int .i64 1))), (2, 1, (.c (.int .i64 1)))]⟩,
  ⟨none, none, .store 6 (.t 2) (.t 13)⟩]
@[go_sem] def opcode_shape_r9 : List AI := [
  ⟨(some 15), none, .bin .eql (.t 3) (.c (.int .i64 4))⟩,
  ⟨(some 14), none, .mov (.t 15)⟩]
@[go_sem] def opcode_shape_r10 : List AI := [
  ⟨(some 16), none, .build [(.str []), (.int .i64 0), (.int .i64 0), (.int .i64 0), (.int .i64 0), (.int .i64 0)] [(1, 1, (.c (.int .i64 1))), (2, 1, (.c (.int .i64 8)))]⟩,
  ⟨none, none, .store 6 (.t 2) (.t 16)⟩]
@[go_sem] def opcode_shape_r11 : List AI := [
  ⟨(some 18), none, .bin .eql (.t 3) (.c (.int .i64 5))⟩,
  ⟨(some 17), none, .mov (.t 18)⟩]
@[go_sem] def opcode_shape_r12 : List AI := [
  ⟨(some 19), none, .build [(.str []), (.int .i64 0), (.int .i64 0), (.int .i64 0), (.int .i64 0), (.int .i64 0)] [(1, 1, (.c (.int .i64 1))), (2, 1, (.c (.int .i64 3)))]⟩,
  ⟨none, none, .store 6 (.t 2) (.t 19)⟩]
@[go_sem] def opcode_shape_r13 : List AI := [
  ⟨(some 21), none, .bin .eql (.t 3) (.c (.int .i64 6))⟩,
  ⟨(some 20), none, .mov (.t 21)⟩]
@[go_sem] def opcode_shape_r14 : List AI := [
  ⟨(some 22), none, .build [(.str []), (.int .i64 0), (.int .i64 0), (.int .i64 0), (.int .i64 0), (.int .i64 0)] [(1, 1, (.c (.int .i64 3))), (2, 1, (.c (.int .i64 1)))]⟩,
  ⟨none, none, .store 6 (.t 2) (.t 22)⟩]
@[go_sem] def opcode_shape_r15 : List AI := [
  ⟨(some 24), none, .bin .eql (.t 3) (.c (.int .i64 8))⟩,
  ⟨(some 23), none, .mov (.t 24)⟩]
@[go_sem] def opcode_shape_r16 : List AI := [
  ⟨(some 25), none, .build [(.str []), (.int .i64 0), (.int .i64 0), (.int .i64 0), (.int .i64 0), (.int .i64 0)] [(1, 1, (.c (.int .i64 2))), (2, 1, (.c (.int .i64 1)))]⟩,
  ⟨none, none, .store 6 (.t 2) (.t 25)⟩]
@[go_sem] def opcode_shape_r17 : List AI := [
  ⟨(some 27), none, .bin .eql (.t 3) (.c (.int .i64 9))⟩,
  ⟨(some 26), none, .mov (.t 27)⟩]
@[go_sem] def opcode_shape_r18 : List AI := [
  ⟨(some 28), none, .bin .eql (.t 3) (.c (.int .i64 10))⟩,
  ⟨(some 26), none, .mov (.t 28)⟩]
@[go_sem] def opcode_shape_r19 : List AI := [
  ⟨(some 29), none, .build [(.str []), (.int .i64 0), (.int .i64 0), (.int .i64 0), (.int .i64 0), (.int .i64 0)] [(1, 1, (.c (.int .i64 1))), (2, 1, (.c (.int .i64 1))), (3, 1, (.c (.int .i64 1)))]⟩,
  ⟨none, none, .store 6 (.t 2) (.t 29)⟩]
@[go_sem] def opcode_shape_r20 : List AI := [
  ⟨(some 31), none, .bin .eql (.t 3) (.c (.int .i64 11))⟩,
  ⟨(some 30), none, .mov (.t 31)⟩]
@[go_sem] def opcode_shape_r21 : List AI := [
  ⟨(some 32), none, .build [(.str []), (.int .i64 0), (.int .i64 0), (.int .i64 0), (.int .i64 0), (.int .i64 0)] [(1, 1, (.c (.int .i64 1))), (2, 1, (.c (.int .i64 1))), (3, 1, (.c (.int .i64 2))), (5, 1, (.c (.int .i64 1)))]⟩,
  ⟨none, none, .store 6 (.t 2) (.t 32)⟩]
@[go_sem] def opcode_shape_r22 : List AI := [
  ⟨(some 34), none, .bin .eql (.t 3) (.c (.int .i64 12))⟩,
  ⟨(some 33), none, .mov (.t 34)⟩]
@[go_sem] def opcode_shape_r23 : List AI := [
  ⟨(some 35), none, .build [(.str []), (.int .i64 0), (.int .i64 0), (.int .i64 0), (.int .i64 0), (.int .i64 0)] [(1, 1, (.c (.int .i64 1))), (2, 1, (.c (.int .i64 1))), (3, 1, (.c (.int .i64 9)))]⟩,
  ⟨none, none, .store 6 (.t 2) (.t 35)⟩]
@[go_sem] def opcode_shape_r24 : List AI := [
  ⟨(some 37), none, .bin .eql (.t 3) (.c (.int .i64 13))⟩,
  ⟨(some 36), none, .mov (.t 37)⟩]
@[go_sem] def opcode_shape_r25 : List AI := [
  ⟨(some 38), none, .build [(.str []), (.int .i64 0), (.int .i64 0), (.int .i64 0), (.int .i64 0), (.int .i64 0)] [(1, 1, (.c (.int .i64 1))), (2, 1, (.c (.int .i64 1))), (3, 1, (.c (.int .i64 1))), (4, 1, (.c (.int .i64 10)))]⟩,
  ⟨none, none, .store 6 (.t 2) (.t 38)⟩]
@[go_sem] def opcode_shape_r26 : List AI := [
  ⟨(some 40), none, .bin .eql (.t 3) (.c (.int .i64 14))⟩,
  ⟨(some 39), none, .mov (.t 40)⟩]
@[go_sem] def opcode_shape_r27 : List AI := [
  ⟨(some 41), none, .build [(.str []), (.int .i64 0), (.int .i64 0), (.int .i64 0), (.int .i64 0), (.int .i64 0)] [(2, 1, (.c (.int .i64 5)))]⟩,
  ⟨none, none, .store 6 (.t 2) (.t 41)⟩]
@[go_sem] def opcode_shape_r28 : List AI := [
  ⟨(some 43), none, .bin .eql (.t 3) (.c (.int .i64 15))⟩,
  ⟨(some 42), none, .mov (.t 43)⟩]
@[go_sem] def opcode_shape_r29 : List AI := [
  ⟨(some 44), none, .build [(.str []), (.int .i64 0), (.int .i64 0), (.int .i64 0), (.int .i64 0), (.int .i64 0)] [(1, 1, (.c (.int .i64 1))), (2, 1, (.c (.int .i64 5))), (3, 1, (.c (.int .i64 8)))]⟩,
  ⟨none, none, .store 6 (.t 2) (.t 44)⟩]
@[go_sem] def opcode_shape_r30 : List AI := [
  ⟨(some 46), none, .bin .eql (.t 3) (.c (.int .i64 16))⟩,
  ⟨(some 45), none, .mov (.t 46)⟩]
@[go_sem] def opcode_shape_r31 : List AI := [
  ⟨(some 47), none, .build [(.str []), (.int .i64 0), (.int .i64 0), (.int .i64 0), (.int .i64 0), (.int .i64 0)] [(1, 1, (.c (.int .i64 1))), (2, 1, (.c (.int .i64 7))), (3, 1, (.c (.int .i64 6)))]⟩,
  ⟨none, none, .store 6 (.t 2) (.t 47)⟩]
@[go_sem] def opcode_shape_r32 : List AI := [
  ⟨(some 49), none, .bin .eql (.t 3) (.c (.int .i64 17))⟩,
  ⟨(some 48), none, .mov (.t 49)⟩]
@[go_sem] def opcode_shape_r33 : List AI := [
  ⟨(some 50), none, .bin .eql (.t 3) (.c (.int .i64 18))⟩,
  ⟨(some 48), none, .mov (.t 50)⟩]
@[go_sem] def opcode_shape_r34 : List AI := [
  ⟨(some 51), none, .build [(.str []), (.int .i64 0), (.int .i64 0), (.int .i64 0), (.int .i64 0), (.int .i64 0)] [(1, 1, (.c (.int .i64 1))), (2, 1, (.c (.int .i64 7)))]⟩,
  ⟨none, none, .store 6 (.t 2) (.t 51)⟩]
@[go_sem] def opcode_shape_r35 : List AI := [
  ⟨(some 53), none, .bin .eql (.t 3) (.c (.int .i64 19))⟩,
  ⟨(some 52), none, .mov (.t 53)⟩]
@[go_sem] def opcode_shape_r36 : List AI := [
  ⟨(some 54), none, .build [(.str []), (.int .i64 0), (.int .i64 0), (.int .i64 0), (.int .i64 0), (.int .i64 0)] [(1, 1, (.c (.int .i64 1))), (2, 1, (.c (.int .i64 6)))]⟩,
  ⟨none, none, .store 6 (.t 2) (.t 54)⟩]
@[go_sem] def opcode_shape_r37 : List AI := [
  ⟨(some 56), none, .bin .eql (.t 3) (.c (.int .i64 21))⟩,
  ⟨(some 55), none, .mov (.t 56)⟩]
@[go_sem] def opcode_shape_r38 : List AI := [
  ⟨(some 57), none, .build [(.str []), (.int .i64 0), (.int .i64 0), (.int .i64 0), (.int .i64 0), (.int .i64 0)] [(1, 1, (.c (.int .i64 1))), (2, 1, (.c (.int .i64 7))), (3, 1, (.c (.int .i64 12)))]⟩,
  ⟨none, none, .store 6 (.t 2) (.t 57)⟩]
@[go_sem] def opcode_shape_r39 : List AI := [
  ⟨(some 59), none, .bin .eql (.t 3) (.c (.int .i64 22))⟩,
  ⟨(some 58), none, .mov (.t 59)⟩]
@[go_sem] def opcode_shape_r40 : List AI := [
  ⟨(some 60), none, .build [(.str []), (.int .i64 0), (.int .i64 0), (.int .i64 0), (.int .i64 0), (.int .i64 0)] [(1, 1, (.c (.int .i64 1))), (2, 1, (.c (.int .i64 4)))]⟩,
  ⟨none, none, .store 6 (.t 2) (.t 60)⟩]
@[go_sem] def opcode_shape_r41 : List AI := [
  ⟨(some 62), none, .bin .eql (.t 3) (.c (.int .i64 23))⟩,
  ⟨(some 61), none, .mov (.t 62)⟩]
@[go_sem] def opcode_shape_r42 : List AI := [
  ⟨(some 63), none, .bin .eql (.t 3) (.c (.int .i64 24))⟩,
  ⟨(some 61), none, .mov (.t 63)⟩]
@[go_sem] def opcode_shape_r43 : List AI := [
  ⟨(some 64), none, .bin .eql (.t 3) (.c (.int .i64 26))⟩,
  ⟨(some 61), none, .mov (.t 64)⟩]
@[go_sem] def opcode_shape_r44 : List AI := [
  ⟨(some 65), none, .build [(.str []), (.int .i64 0), (.int .i64 0), (.int .i64 0), (.int .i64 0), (.int .i64 0)] [(1, 1, (.c (.int .i64 1))), (2, 1, (.c (.int .i64 5))), (5, 1, (.c (.int .i64 3)))]⟩,
  ⟨none, none, .store 6 (.t 2) (.t 65)⟩]
@[go_sem] def opcode_shape_r45 : List AI := [
  ⟨(some 67), none, .bin .eql (.t 3) (.c (.int .i64 25))⟩,
  ⟨(some 66), none, .mov (.t 67)⟩]
@[go_sem] def opcode_shape_r46 : List AI := [
  ⟨(some 68), none, .build [(.str []), (.int .i64 0), (.int .i64 0), (.int .i64 0), (.int .i64 0), (.int .i64 0)] [(1, 1, (.c (.int .i64 1))), (3, 1, (.c (.int .i64 11))), (5, 1, (.c (.int .i64 3)))]⟩,
  ⟨none, none, .store 6 (.t 2) (.t 68)⟩]
@[go_sem] def opcode_shape_r47 : List AI := [
  ⟨(some 70), none, .bin .eql (.t 3) (.c (.int .i64 20))⟩,
  ⟨(some 69), none, .mov (.t 70)⟩]
@[go_sem] def opcode_shape_r48 : List AI := [
  ⟨(some 71), none, .bin .eql (.t 3) (.c (.int .i64 27))⟩,
  ⟨(some 69), none, .mov (.t 71)⟩]
@[go_sem] def opcode_shape_r49 : List AI := [
  ⟨(some 72), none, .bin .eql (.t 3) (.c (.int .i64 28))⟩,
  ⟨(some 69), none, .mov (.t 72)⟩]
@[go_sem] def opcode_shape_r50 : List AI := [
  ⟨(some 73), none, .build [(.str []), (.int .i64 0), (.int .i64 0), (.int .i64 0), (.int .i64 0), (.int .i64 0)] [(1, 1, (.c (.int .i64 1)))]⟩,
  ⟨none, none, .store 6 (.t 2) (.t 73)⟩]
@[go_sem] def opcode_shape_r51 : List AI := [
  ⟨(some 74), none, .build [(.str []), (.int .i64 0), (.int .i64 0), (.int .i64 0), (.int .i64 0), (.int .i64 0)] [(1, 1, (.c (.int .i64 8)))]⟩,
  ⟨none, none, .store 6 (.t 2) (.t 74)⟩]
@[go_sem] def opcode_shape_c : AC := .seq (.ops [opcode_shape_r0]) (.seq (.seq (.ops [opcode_shape_r1]) (.block 0 (.seq (.ops [opcode_shape_r2]) (.cond (.t 4) (.seq (.ops [opcode_shape_r3]) (.ret)) (.seq (.seq (.ops [opcode_shape_r4]) (.cond (.t 7) (.skip) (.ops [opcode_shape_r5]))) (.cond (.t 7) (.seq (.ops [opcode_shape_r6]) (.ret)) (.seq (.ops [opcode_shape_r7]) (.cond (.t 11) (.seq (.ops [opcode_shape_r8]) (.ret)) (.seq (.ops [opcode_shape_r9]) (.cond (.t 14) (.seq (.ops [opcode_shape_r10]) (.ret)) (.seq (.ops [opcode_shape_r11]) (.cond (.t 17) (.seq (.ops [opcode_shape_r12]) (.ret)) (.seq (.ops [opcode_shape_r13]) (.cond (.t 20) (.seq (.ops [opcode_shape_r14]) (.ret)) (.seq (.ops [opcode_shape_r15]) (.cond (.t 23) (.seq (.ops [opcode_shape_r16]) (.ret)) (.seq (.seq (.ops [opcode_shape_r17]) (.cond (.t 26) (.skip) (.ops [opcode_shape_r18]))) (.cond (.t 26) (.seq (.ops [opcode_shape_r19]) (.ret)) (.seq (.ops [opcode_shape_r20]) (.cond (.t 30) (.seq (.ops [opcode_shape_r21]) (.ret)) (.seq (.ops [opcode_shape_r22]) (.cond (.t 33) (.seq (.ops [opcode_shape_r23]) (.ret)) (.seq (.ops [opcode_shape_r24]) (.cond (.t 36) (.seq (.ops [opcode_shape_r25]) (.ret)) (.seq (.ops [opcode_shape_r26]) (.cond (.t 39) (.seq (.ops [opcode_shape_r27]) (.ret)) (.seq (.ops [opcode_shape_r28]) (.cond (.t 42) (.seq (.ops [opcode_shape_r29]) (.ret)) (.seq (.ops [opcode_shape_r30]) (.cond (.t 45) (.seq (.ops [opcode_shape_r31]) (.ret)) (.seq (.seq (.ops [opcode_shape_r32]) (.cond (.t 48) (.skip) (.ops [opcode_shape_r33]))) (.cond (.t 48) (.seq (.ops [opcode_shape_r34]) (.ret)) (.seq (.ops [opcode_shape_r35]) (.cond (.t 52) (.seq (.ops [opcode_shape_r36]) (.ret)) (.seq (.ops [opcode_shape_r37]) (.cond (.t 55) (.seq (.ops [opcode_shape_r38]) (.ret)) (.seq (.ops [opcode_shape_r39]) (.cond (.t 58) (.seq (.ops [opcode_shape_r40]) (.ret)) (.seq (.seq (.ops [opcode_shape_r41]) (.cond (.t 61) (.skip) (.seq (.ops [opcode_shape_r42]) (.cond (.t 61) (.skip) (.ops [opcode_shape_r43]))))) (.cond (.t 61) (.seq (.ops [opcode_shape_r44]) (.ret)) (.seq (.ops [opcode_shape_r45]) (.cond (.t 66) (.seq (.ops [opcode_shape_r46]) (.ret)) (.seq (.seq (.ops [opcode_shape_r47]) (.cond (.t 69) (.skip) (.seq (.ops [opcode_shape_r48]) (.cond (.t 69) (.skip) (.ops [opcode_shape_r49]))))) (.cond (.t 69) (.seq (.ops [opcode_shape_r50]) (.ret)) (.skip))))))))))))))))))))))))))))))))))))))))))))) (.seq (.ops [opcode_shape_r51]) (.ret)))
theorem opcode_shape_ok : compF Tryd.prog 68 = some (75, opcode_shape_c, [.c 2 6 true]) := by kernel_rfl

@[go_sem] def scriptingref32_ab_r0 : List AI := [
  ⟨(some 8), none, .box 690008 13 (.c (.agg [(.str []), (.bool false), (.bool false), (.bool false), (.bool false), (.int .i64 0), (.int .i64 0), (.int .i64 0), (.int .i64 0), (.int .i64 0), (.int .i64 0), (.int .i64 0), (.int .i64 0)]))⟩]
@[go_sem] def scriptingref32_ab_r1 : List AI := [
  ⟨(some 9), none, .mov (.t 0)⟩,
  ⟨(some 10), none, .build [(.bool false), (.bool false), (.bool false), (.bool false)] [(0, 1, (.c (.bool true))), (1, 1, (.c (.bool true))), (2, 1, (.c (.bool false))), (3, 1, (.c (.bool false)))]⟩,
  ⟨(some 11), none, .mov (.t 2)⟩,
  ⟨(some 12), none, .build [(.int .i64 0), (.int .i64 0), (.int .i64 0), (.int .i64 0)] [(0, 1, (.c (.int .i64 0))), (1, 1, (.t 11)), (2, 1, (.c (.int .i64 0))), (3, 1, (.c (.int .i64 0)))]⟩,
  ⟨(some 13), none, .mov (.t 1)⟩,
  ⟨(some 14), none, .mov (.t 3)⟩,
  ⟨(some 15), none, .build [(.int .i64 0), (.int .i64 0), (.int .i64 0), (.int .i64 0)] [(0, 1, (.t 13)), (1, 1, (.t 14)), (2, 1, (.c (.int .i64 0))), (3, 1, (.c (.int .i64 0)))]⟩,
  ⟨(some 16), none, .build [(.str []), (.bool false), (.bool false), (.bool false), (.bool false), (.int .i64 0), (.int .i64 0), (.int .i64 0), (.int .i64 0), (.int .i64 0), (.int .i64 0), (.int .i64 0), (.int .i64 0)] [(0, 1, (.t 9)), (1, 4, (.t 10)), (5, 4, (.t 12)), (9, 4, (.t 15))]⟩,
  ⟨none, none, .store 13 (.t 8) (.t 16)⟩]
@[go_sem] def scriptingref32_ab_c : AC := .seq (.ops [scriptingref32_ab_r0]) (.seq (.ops [scriptingref32_ab_r1]) (.ret))
theorem scriptingref32_ab_ok : compF Tryd.prog 69 = some (17, scriptingref32_ab_c, [.c 8 13 true]) := by kernel_rfl

@[go_sem] def scriptingref32_abc_r0 : List AI := [
  ⟨(some 6), none, .box 700006 2 (.t 2)⟩,
  ⟨(some 7), none, .box 700007 2 (.t 3)⟩,
  ⟨(some 8), none, .box 700008 13 (.c (.agg [(.str []), (.bool false), (.bool false), (.bool false), (.bool false), (.int .i64 0), (.int .i64 0), (.int .i64 0), (.int .i64 0), (.int .i64 0), (.int .i64 0), (.int .i64 0), (.int .i64 0)]))⟩]
@[go_sem] def scriptingref32_abc_r1 : List AI := [
  ⟨(some 9), none, .mov (.t 0)⟩,
  ⟨(some 10), none, .build [(.bool false), (.bool false), (.bool false), (.bool false)] [(0, 1, (.c (.bool true))), (1, 1, (.c (.bool true))), (2, 1, (.c (.bool true))), (3, 1, (.c (.bool false)))]⟩,
  ⟨(some 11), none, .iaddrA 2 1 (.t 6) (.c (.int .i64 0))⟩,
  ⟨(some 12), none, .load 1 false (.t 11)⟩,
  ⟨(some 13), none, .iaddrA 2 1 (.t 7) (.c (.int .i64 0))⟩,
  ⟨(some 14), none, .load 1 false (.t 13)⟩,
  ⟨(some 15), none, .build [(.int .i64 0), (.int .i64 0), (.int .i64 0), (.int .i64 0)] [(0, 1, (.c (.int .i64 0))), (1, 1, (.t 12)), (2, 1, (.t 14)), (3, 1, (.c (.int .i64 0)))]⟩,
  ⟨(some 16), none, .mov (.t 1)⟩,
  ⟨(some 17), none, .iaddrA 2 1 (.t 6) (.c (.int .i64 1))⟩,
  ⟨(some 18), none, .load 1 false (.t 17)⟩,
  ⟨(some 19), none, .iaddrA 2 1 (.t 7) (.c (.int .i64 1))⟩,
  ⟨(some 20), none, .load 1 false (.t 19)⟩,
  ⟨(some 21), none, .build [(.int .i64 0), (.int .i64 0), (.int .i64 0), (.int .i64 0)] [(0, 1, (.t 16)), (1, 1, (.t 18)), (2, 1, (.t 20)), (3, 1, (.c (.int .i64 0)))]⟩,
  ⟨(some 22), none, .build [(.str []), (.bool false), (.bool false), (.bool false), (.bool false), (.int .i64 0), (.int .i64 0), (.int .i64 0), (.int .i64 0), (.int .i64 0), (.int .i64 0), (.int .i64 0), (.int .i64 0)] [(0, 1, (.t 9)), (1, 4, (.t 10)), (5, 4, (.t 15)), (9, 4, (.t 21))]⟩,
  ⟨none, none, .store 13 (.t 8) (.t 22)⟩]
@[go_sem] def scriptingref32_abc_c : AC := .seq (.ops [scriptingref32_abc_r0]) (.seq (.ops [scriptingref32_abc_r1]) (.ret))
theorem scriptingref32_abc_ok : compF Tryd.prog 70 = some (23, scriptingref32_abc_c, [.c 8 13 true]) := by kernel_rfl

@[go_sem] def scriptingref32_later_r0 : List AI := [
  ⟨(some 2), none, .box 710002 13 (.c (.agg [(.str []), (.bool false), (.bool false), (.bool false), (.bool false), (.int .i64 0), (.int .i64 0), (.int .i64 0), (.int .i64 0), (.int .i64 0), (.int .i64 0), (.int .i64 0), (.int .i64 0)]))⟩]
@[go_sem] def scriptingref32_later_r1 : List AI := [
  ⟨(some 6), none, .build [(.int .i64 0), (.int .i64 0)] [(0, 1, (.c (.int .i64 (-1)))), (1, 1, (.c (.int .i64 200)))]⟩,
  ⟨(some 3), none, .box 710003 2 (.c (.agg [(.int .i64 0), (.int .i64 0)]))⟩,
  ⟨none, none, .store 2 (.t 3) (.t 6)⟩]
@[go_sem] def scriptingref32_later_r2 : List AI := [
  ⟨(some 7), none, .build [(.int .i64 0), (.int .i64 0)] [(0, 1, (.c (.int .i64 (-1)))), (1, 1, (.c (.int .i64 4096)))]⟩,
  ⟨(some 4), none, .box 710004 2 (.c (.agg [(.int .i64 0), (.int .i64 0)]))⟩,
  ⟨none, none, .store 2 (.t 4) (.t 7)⟩]
@[go_sem] def scriptingref32_later_r3 : List AI := [
  ⟨(some 8), none, .build [(.int .i64 0), (.int .i64 0)] [(0, 1, (.c (.int .i64 0))), (1, 1, (.c (.int .i64 16383)))]⟩,
  ⟨(some 5), none, .box 710005 2 (.c (.agg [(.int .i64 0), (.int .i64 0)]))⟩,
  ⟨none, none, .store 2 (.t 5) (.t 8)⟩]
@[go_sem] def scriptingref32_later_r4 : List AI := [
  ⟨(some 9), none, .mov (.t 0)⟩]
@[go_sem] def scriptingref32_later_r5 : List AI := [
  ⟨(some 11), none, .bin .eql (.t 9) (.c (.int .i64 14))⟩,
  ⟨(some 10), none, .mov (.t 11)⟩]
@[go_sem] def scriptingref32_later_r6 : List AI := [
  ⟨(some 12), none, .build [(.bool false), (.bool false), (.bool false), (.bool false)] [(0, 1, (.c (.bool false))), (1, 1, (.c (.bool true))), (2, 1, (.c (.bool false))), (3, 1, (.c (.bool false)))]⟩,
  ⟨(some 13), none, .build [(.int .i64 0), (.int .i64 0), (.int .i64 0), (.int .i64 0)] [(0, 1, (.c (.int .i64 0))), (1, 1, (.c (.int .i64 16383))), (2, 1, (.c (.int .i64 0))), (3, 1, (.c (.int .i64 0)))]⟩,
  ⟨(some 14), none, .build [(.str []), (.bool false), (.bool false), (.bool false), (.bool false), (.int .i64 0), (.int .i64 0), (.int .i64 0), (.int .i64 0), (.int .i64 0), (.int .i64 0), (.int .i64 0), (.int .i64 0)] [(0, 1, (.c (.str [106, 117, 109, 112]))), (1, 4, (.t 12)), (9, 4, (.t 13))]⟩,
  ⟨none, none, .store 13 (.t 2) (.t 14)⟩]
@[go_sem] def scriptingref32_later_r7 : List AI := [
  ⟨(some 16), none, .bin .eql (.t 9) (.c (.int .i64 15))⟩,
  ⟨(some 15), none, .mov (.t 16)⟩]
@[go_sem] def scriptingref32_later_r8 : List AI := [
  ⟨(some 17), none, .load 2 true (.t 5)⟩,
  ⟨(some 18), none, .build [(.int .i64 0), (.int .i64 0)] [(0, 1, (.c (.int .i64 0))), (1, 1, (.c (.int .i64 1)))]⟩,
  ⟨(some 19), none, .call 70 [(.c (.str [116, 101, 115, 116])), (.c (.int .i64 4095)), (.t 17), (.t 18)]⟩,
  ⟨none, none, .store 13 (.t 2) (.t 19)⟩]
@[go_sem] def scriptingref32_later_r9 : List AI := [
  ⟨(some 21), none, .bin .eql (.t 9) (.c (.int .i64 16))⟩,
  ⟨(some 20), none, .mov (.t 21)⟩]
@[go_sem] def scriptingref32_later_r10 : List AI := [
  ⟨(some 22), none, .load 2 true (.t 4)⟩,
  ⟨(some 23), none, .load 2 true (.t 3)⟩,
  ⟨(some 24), none, .call 70 [(.c (.str [99, 97, 108, 108])), (.c (.int .i64 4095)), (.t 22), (.t 23)]⟩,
  ⟨none, none, .store 13 (.t 2) (.t 24)⟩]
@[go_sem] def scriptingref32_later_r11 : List AI := [
  ⟨(some 26), none, .bin .eql (.t 9) (.c (.int .i64 17))⟩,
  ⟨(some 25), none, .mov (.t 26)⟩]
@[go_sem] def scriptingref32_later_r12 : List AI := [
  ⟨(some 27), none, .call 69 [(.c (.str [116, 97, 105, 108])), (.c (.int .i64 4095)), (.c (.int .i64 (-1))), (.c (.int .i64 4096))]⟩,
  ⟨none, none, .store 13 (.t 2) (.t 27)⟩]
@[go_sem] def scriptingref32_later_r13 : List AI := [
  ⟨(some 29), none, .bin .eql (.t 9) (.c (.int .i64 18))⟩,
  ⟨(some 28), none, .mov (.t 29)⟩]
@[go_sem] def scriptingref32_later_r14 : List AI := [
  ⟨(some 30), none, .call 69 [(.c (.str [114, 101, 116, 117, 114, 110])), (.c (.int .i64 4095)), (.c (.int .i64 (-1))), (.c (.int .i64 4096))]⟩,
  ⟨none, none, .store 13 (.t 2) (.t 30)⟩]
@[go_sem] def scriptingref32_later_r15 : List AI := [
  ⟨(some 32), none, .bin .eql (.t 9) (.c (.int .i64 19))⟩,
  ⟨(some 31), none, .mov (.t 32)⟩]
@[go_sem] def scriptingref32_later_r16 : List AI := [
  ⟨(some 33), none, .call 69 [(.c (.str [118, 97, 114, 97, 114, 103])), (.c (.int .i64 4095)), (.c (.int .i64 (-1))), (.c (.int .i64 200))]⟩,
  ⟨none, none, .store 13 (.t 2) (.t 33)⟩]
@[go_sem] def scriptingref32_later_r17 : List AI := [
  ⟨(some 35), none, .bin .eql (.t 9) (.c (.int .i64 20))⟩,
  ⟨(some 34), none, .mov (.t 35)⟩]
@[go_sem] def scriptingref32_later_r18 : List AI := [
  ⟨(some 36), none, .call 81 [(.c (.str [116, 97, 98, 108, 101])), (.c (.int .i64 4095))]⟩,
  ⟨none, none, .store 13 (.t 2) (.t 36)⟩]
@[go_sem] def scriptingref32_later_r19 : List AI := [
  ⟨(some 38), none, .bin .eql (.t 9) (.c (.int .i64 21))⟩,
  ⟨(some 37), none, .mov (.t 38)⟩]
@[go_sem] def scriptingref32_later_r20 : List AI := [
  ⟨(some 39), none, .load 2 true (.t 4)⟩,
  ⟨(some 40), none, .build [(.int .i64 0), (.int .i64 0)] [(0, 1, (.c (.int .i64 1))), (1, 1, (.c (.int .i64 32767)))]⟩,
  ⟨(some 41), none, .call 70 [(.c (.str [97, 112, 112, 101, 110, 100])), (.c (.int .i64 4095)), (.t 39), (.t 40)]⟩,
  ⟨none, none, .store 13 (.t 2) (.t 41)⟩]
@[go_sem] def scriptingref32_later_r21 : List AI := [
  ⟨(some 43), none, .bin .eql (.t 9) (.c (.int .i64 22))⟩,
  ⟨(some 42), none, .mov (.t 43)⟩]
@[go_sem] def scriptingref32_later_r22 : List AI := [
  ⟨(some 44), none, .call 69 [(.c (.str [99, 108, 111, 115, 117, 114, 101])), (.c (.int .i64 4095)), (.c (.int .i64 0)), (.c (.int .i64 1023))]⟩,
  ⟨none, none, .store 13 (.t 2) (.t 44)⟩]
@[go_sem] def scriptingref32_later_r23 : List AI := [
  ⟨(some 46), none, .bin .eql (.t 9) (.c (.int .i64 23))⟩,
  ⟨(some 45), none, .mov (.t 46)⟩]
@[go_sem] def scriptingref32_later_r24 : List AI := [
  ⟨(some 47), none, .call 69 [(.c (.str [112, 114, 101, 112])), (.c (.int .i64 4092)), (.c (.int .i64 0)), (.c (.int .i64 16383))]⟩,
  ⟨none, none, .store 13 (.t 2) (.t 47)⟩]
@[go_sem] def scriptingref32_later_r25 : List AI := [
  ⟨(some 49), none, .bin .eql (.t 9) (.c (.int .i64 24))⟩,
  ⟨(some 48), none, .mov (.t 49)⟩]
@[go_sem] def scriptingref32_later_r26 : List AI := [
  ⟨(some 50), none, .call 69 [(.c (.str [108, 111, 111, 112])), (.c (.int .i64 4092)), (.c (.int .i64 0)), (.c (.int .i64 16383))]⟩,
  ⟨none, none, .store 13 (.t 2) (.t 50)⟩]
@[go_sem] def scriptingref32_later_r27 : List AI := [
  ⟨(some 52), none, .bin .eql (.t 9) (.c (.int .i64 25))⟩,
  ⟨(some 51), none, .mov (.t 52)⟩]
@[go_sem] def scriptingref32_later_r28 : List AI := [
  ⟨(some 53), none, .build [(.bool false), (.bool false), (.bool false), (.bool false)] [(0, 1, (.c (.bool true))), (1, 1, (.c (.bool false))), (2, 1, (.c (.bool true))), (3, 1, (.c (.bool false)))]⟩,
  ⟨(some 54), none, .build [(.int .i64 0), (.int .i64 0), (.int .i64 0), (.int .i64 0)] [(0, 1, (.c (.int .i64 0))), (1, 1, (.c (.int .i64 0))), (2, 1, (.c (.int .i64 1))), (3, 1, (.c (.int .i64 0)))]⟩,
  ⟨(some 55), none, .build [(.int .i64 0), (.int .i64 0), (.int .i64 0), (.int .i64 0)] [(0, 1, (.c (.int .i64 4092))), (1, 1, (.c (.int .i64 0))), (2, 1, (.c (.int .i64 200))), (3, 1, (.c (.int .i64 0)))]⟩,
  ⟨(some 56), none, .build [(.str []), (.bool false), (.bool false), (.bool false), (.bool false), (.int .i64 0), (.int .i64 0), (.int .i64 0), (.int .i64 0), (.int .i64 0), (.int .i64 0), (.int .i64 0), (.int .i64 0)] [(0, 1, (.c (.str [105, 116, 101, 114]))), (1, 4, (.t 53)), (5, 4, (.t 54)), (9, 4, (.t 55))]⟩,
  ⟨none, none, .store 13 (.t 2) (.t 56)⟩]
@[go_sem] def scriptingref32_later_r29 : List AI := [
  ⟨(some 58), none, .bin .eql (.t 9) (.c (.int .i64 26))⟩,
  ⟨(some 57), none, .mov (.t 58)⟩]
@[go_sem] def scriptingref32_later_r30 : List AI := [
  ⟨(some 59), none, .call 69 [(.c (.str [110, 101, 120, 116])), (.c (.int .i64 4092)), (.c (.int .i64 0)), (.c (.int .i64 16383))]⟩,
  ⟨none, none, .store 13 (.t 2) (.t 59)⟩]
@[go_sem] def scriptingref32_later_r31 : List AI := [
  ⟨(some 61), none, .bin .eql (.t 9) (.c (.int .i64 27))⟩,
  ⟨(some 60), none, .mov (.t 61)⟩]
@[go_sem] def scriptingref32_later_r32 : List AI := [
  ⟨(some 62), none, .call 81 [(.c (.str [99, 108, 111, 115, 101])), (.c (.int .i64 4095))]⟩,
  ⟨none, none, .store 13 (.t 2) (.t 62)⟩]
@[go_sem] def scriptingref32_later_r33 : List AI := [
  ⟨(some 64), none, .bin .eql (.t 9) (.c (.int .i64 28))⟩,
  ⟨(some 63), none, .mov (.t 64)⟩]
@[go_sem] def scriptingref32_later_r34 : List AI := [
  ⟨(some 65), none, .call 81 [(.c (.str [109, 97, 114, 107])), (.c (.int .i64 4095))]⟩,
  ⟨none, none, .store 13 (.t 2) (.t 65)⟩]
@[go_sem] def scriptingref32_later_r35 : List AI := [
  ⟨(some 67), none, .bin .eql (.t 9) (.c (.int .i64 29))⟩,
  ⟨(some 66), none, .mov (.t 67)⟩]
@[go_sem] def scriptingref32_later_r36 : List AI := [
  ⟨(some 68), none, .call 81 [(.c (.str [115, 116, 97, 116])), (.c (.int .i64 1))]⟩,
  ⟨none, none, .store 13 (.t 2) (.t 68)⟩]
@[go_sem] def scriptingref32_later_r37 : List AI := [
  ⟨(some 69), none, .call 82 [(.c (.str []))]⟩,
  ⟨none, none, .store 13 (.t 2) (.t 69)⟩]
@[go_sem] def scriptingref32_later_c : AC := .seq (.ops [scriptingref32_later_r0]) (.seq (.ops [scriptingref32_later_r1]) (.seq (.ops [scriptingref32_later_r2]) (.seq (.ops [scriptingref32_later_r3]) (.seq (.seq (.ops [scriptingref32_later_r4]) (.block 0 (.seq (.ops [scriptingref32_later_r5]) (.cond (.t 10) (.seq (.ops [scriptingref32_later_r6]) (.ret)) (.seq (.ops [scriptingref32_later_r7]) (.cond (.t 15) (.seq (.ops [scriptingref32_later_r8]) (.ret)) (.seq (.ops [scriptingref32_later_r9]) (.cond (.t 20) (.seq (.ops [scriptingref32_later_r10]) (.ret)) (.seq (.ops [scriptingref32_later_r11]) (.cond (.t 25) (.seq (.ops [scriptingref32_later_r12]) (.ret)) (.seq (.ops [scriptingref32_later_r13]) (.cond (.t 28) (.seq (.ops [scriptingref32_later_r14]) (.ret)) (.seq (.ops [scriptingref32_later_r15]) (.cond (.t 31) (.seq (.ops [scriptingref32_later_r16]) (.ret)) (.seq (.ops [scriptingref32_later_r17]) (.cond (.t 34) (.seq (.ops [scriptingref32_later_r18]) (.ret)) (.seq (.ops [scriptingref32_later_r19]) (.cond (.t 37) (.seq (.ops [scriptingref32_later_r20]) (.ret)) (.seq (.ops [scriptingref32_later_r21]) (.cond (.t 42) (.seq (.ops [scriptingref32_later_r22]) (.ret)) (.seq (.ops [scriptingref32_later_r23]) (.cond (.t 45) (.seq (.ops [scriptingref32_later_r24]) (.ret)) (.seq (.ops [scriptingref32_later_r25]) (.cond (.t 48) (.seq (.ops [scriptingref32_later_r26]) (.ret)) (.seq (.ops [scriptingref32_later_r27]) (.cond (.t 51) (.seq (.ops [scriptingref32_later_r28]) (.ret)) (.seq (.ops [scriptingref32_later_r29]) (.cond (.t 57) (.seq (.ops [scriptingref32_later_r30]) (.ret)) (.seq (.ops [scriptingref32_later_r31]) (.cond (.t 60) (.seq (.ops [scriptingref32_later_r32]) (.ret)) (.seq (.ops [scriptingref32_later_r33]) (.cond (.t 63) (.seq (.ops [scriptingref32_later_r34]) (.ret)) (.seq (.ops [scriptingref32_later_r35]) (.cond (.t 66) (.seq (.ops [scriptingref32_later_r36]) (.ret)) (.skip))))))))))))))))))))))))))))))))))) (.seq (.ops [scriptingref32_later_r37]) (.ret))))))
theorem scriptingref32_later_ok : compF Tryd.prog 71 = some (70, scriptingref32_later_c, [.c 2 13 true]) := by kernel_rfl

@[go_sem] def scriptingref32_put_r0 : List AI := [
  ⟨(some 4), none, .mov (.c .nils)⟩]
@[go_sem] def scriptingref32_put_r1 : List AI := [
  ⟨(some 8), none, .mkrow 720008 1 []⟩,
  ⟨(some 5), none, .mov (.t 8)⟩]
@[go_sem] def scriptingref32_put_r2 : List AI := [
  ⟨(some 6), none, .mov (.c (.bool false))⟩]
@[go_sem] def scriptingref32_put_r3 : List AI := [
  ⟨(some 7), none, .mov (.c (.int .i64 0))⟩]
@[go_sem] def scriptingref32_put_r4 : List AI := [
  ⟨(some 9), none, .mov (.t 7)⟩,
  ⟨(some 10), none, .mov (.t 0)⟩,
  ⟨(some 11), none, .len 0 (.t 10)⟩,
  ⟨(some 12), none, .bin .lss (.t 9) (.t 11)⟩]
@[go_sem] def scriptingref32_put_r5 : List AI := [
  ⟨(some 15), none, .mov (.t 6)⟩,
  ⟨(some 16), none, .un .not (.t 15)⟩,
  ⟨(some 17), none, .mov (.t 16)⟩,
  ⟨(some 18), (some (17, true)), .mov (.t 0)⟩,
  ⟨(some 19), (some (17, true)), .mov (.t 7)⟩,
  ⟨(some 20), (some (17, true)), .iaddr 1 (.t 18) (.t 19)⟩,
  ⟨(some 21), (some (17, true)), .load 1 false (.t 20)⟩,
  ⟨(some 22), (some (17, true)), .mov (.t 1)⟩,
  ⟨(some 23), (some (17, true)), .bin .geq (.t 21) (.t 22)⟩,
  ⟨(some 24), none, .pick (.t 17) (.t 23) (.c (.bool false))⟩]
@[go_sem] def scriptingref32_put_r6 : List AI := [
  ⟨(some 25), none, .mov (.t 5)⟩,
  ⟨(some 26), none, .mov (.t 1)⟩,
  ⟨(some 27), none, .mkisl 1 [(.t 26)]⟩,
  ⟨(some 28), none, .app 720028 1 (.t 25) (.t 27)⟩,
  ⟨(some 5), none, .mov (.t 28)⟩]
@[go_sem] def scriptingref32_put_r7 : List AI := [
  ⟨(some 6), none, .mov (.c (.bool true))⟩]
@[go_sem] def scriptingref32_put_r8 : List AI := [
  ⟨(some 29), none, .mov (.t 0)⟩,
  ⟨(some 30), none, .mov (.t 7)⟩,
  ⟨(some 31), none, .iaddr 1 (.t 29) (.t 30)⟩,
  ⟨(some 32), none, .load 1 false (.t 31)⟩,
  ⟨(some 33), none, .mov (.t 1)⟩,
  ⟨(some 34), none, .bin .neq (.t 32) (.t 33)⟩]
@[go_sem] def scriptingref32_put_r9 : List AI := [
  ⟨(some 35), none, .mov (.t 5)⟩,
  ⟨(some 36), none, .mov (.t 0)⟩,
  ⟨(some 37), none, .mov (.t 7)⟩,
  ⟨(some 38), none, .iaddr 1 (.t 36) (.t 37)⟩,
  ⟨(some 39), none, .load 1 false (.t 38)⟩,
  ⟨(some 40), none, .mkisl 1 [(.t 39)]⟩,
  ⟨(some 41), none, .app 720041 1 (.t 35) (.t 40)⟩,
  ⟨(some 5), none, .mov (.t 41)⟩]
@[go_sem] def scriptingref32_put_r10 : List AI := [
  ⟨(some 13), none, .mov (.t 7)⟩,
  ⟨(some 14), none, .bin .add (.t 13) (.c (.int .i64 1))⟩,
  ⟨(some 7), none, .mov (.t 14)⟩]
def scriptingref32_put_l0 : AC := .seq (.seq (.ops [scriptingref32_put_r4]) (.cond (.t 12) (.skip) (.exit 0))) (.seq (.block 1 (.seq (.seq (.ops [scriptingref32_put_r5]) (.cond (.t 24) (.seq (.ops [scriptingref32_put_r6]) (.ops [scriptingref32_put_r7])) (.skip))) (.seq (.ops [scriptingref32_put_r8]) (.cond (.t 34) (.ops [scriptingref32_put_r9]) (.skip))))) (.ops [scriptingref32_put_r10]))
theorem scriptingref32_put_l0_eq : scriptingref32_put_l0 = .seq (.seq (.ops [scriptingref32_put_r4]) (.cond (.t 12) (.skip) (.exit 0))) (.seq (.block 1 (.seq (.seq (.ops [scriptingref32_put_r5]) (.cond (.t 24) (.seq (.ops [scriptingref32_put_r6]) (.ops [scriptingref32_put_r7])) (.skip))) (.seq (.ops [scriptingref32_put_r8]) (.cond (.t 34) (.ops [scriptingref32_put_r9]) (.skip))))) (.ops [scriptingref32_put_r10])) := rfl
@[go_sem] def scriptingref32_put_r11 : List AI := [
  ⟨(some 42), none, .mov (.t 6)⟩,
  ⟨(some 43), none, .un .not (.t 42)⟩]
@[go_sem] def scriptingref32_put_r12 : List AI := [
  ⟨(some 44), none, .mov (.t 5)⟩,
  ⟨(some 45), none, .mov (.t 1)⟩,
  ⟨(some 46), none, .mkisl 1 [(.t 45)]⟩,
  ⟨(some 47), none, .app 720047 1 (.t 44) (.t 46)⟩,
  ⟨(some 5), none, .mov (.t 47)⟩]
@[go_sem] def scriptingref32_put_r13 : List AI := [
  ⟨(some 48), none, .mov (.t 5)⟩,
  ⟨(some 4), none, .mov (.t 48)⟩]
@[go_sem] def scriptingref32_put_c : AC := .seq (.ops [scriptingref32_put_r0]) (.seq (.ops [scriptingref32_put_r1]) (.seq (.ops [scriptingref32_put_r2]) (.seq (.seq (.ops [scriptingref32_put_r3]) (.block 0 (.loop scriptingref32_put_l0))) (.seq (.seq (.ops [scriptingref32_put_r11]) (.cond (.t 43) (.ops [scriptingref32_put_r12]) (.skip))) (.seq (.ops [scriptingref32_put_r13]) (.ret))))))
theorem scriptingref32_put_ok : compF Tryd.prog 72 = some (49, scriptingref32_put_c, [.t 4]) := by kernel_rfl

@[go_sem] def cmp_isNaN_int_r0 : List AI := [
  ⟨(some 2), none, .mov (.c (.bool false))⟩]
@[go_sem] def cmp_isNaN_int_r1 : List AI := [
  ⟨(some 3), none, .mov (.t 0)⟩,
  ⟨(some 4), none, .mov (.t 0)⟩,
  ⟨(some 5), none, .bin .neq (.t 3) (.t 4)⟩,
  ⟨(some 2), none, .mov (.t 5)⟩]
@[go_sem] def cmp_isNaN_int_c : AC := .seq (.ops [cmp_isNaN_int_r0]) (.seq (.ops [cmp_isNaN_int_r1]) (.ret))
theorem cmp_isNaN_int_ok : compF Tryd.prog 78 = some (6, cmp_isNaN_int_c, [.t 2]) := by kernel_rfl

@[go_sem] def scriptingref32_a_r0 : List AI := [
  ⟨(some 4), none, .box 810004 13 (.c (.agg [(.str []), (.bool false), (.bool false), (.bool false), (.bool false), (.int .i64 0), (.int .i64 0), (.int .i64 0), (.int .i64 0), (.int .i64 0), (.int .i64 0), (.int .i64 0), (.int .i64 0)]))⟩]
@[go_sem] def scriptingref32_a_r1 : List AI := [
  ⟨(some 5), none, .mov (.t 0)⟩,
  ⟨(some 6), none, .build [(.bool false), (.bool false), (.bool false), (.bool false)] [(0, 1, (.c (.bool true))), (1, 1, (.c (.bool false))), (2, 1, (.c (.bool false))), (3, 1, (.c (.bool false)))]⟩,
  ⟨(some 7), none, .mov (.t 1)⟩,
  ⟨(some 8), none, .build [(.int .i64 0), (.int .i64 0), (.int .i64 0), (.int .i64 0)] [(0, 1, (.t 7)), (1, 1, (.c (.int .i64 0))), (2, 1, (.c (.int .i64 0))), (3, 1, (.c (.int .i64 0)))]⟩,
  ⟨(some 9), none, .build [(.str []), (.bool false), (.bool false), (.bool false), (.bool false), (.int .i64 0), (.int .i64 0), (.int .i64 0), (.int .i64 0), (.int .i64 0), (.int .i64 0), (.int .i64 0), (.int .i64 0)] [(0, 1, (.t 5)), (1, 4, (.t 6)), (9, 4, (.t 8))]⟩,
  ⟨none, none, .store 13 (.t 4) (.t 9)⟩]
@[go_sem] def scriptingref32_a_c : AC := .seq (.ops [scriptingref32_a_r0]) (.seq (.ops [scriptingref32_a_r1]) (.ret))
theorem scriptingref32_a_ok : compF Tryd.prog 81 = some (10, scriptingref32_a_c, [.c 4 13 true]) := by kernel_rfl

@[go_sem] def scriptingref32_none_r0 : List AI := [
  ⟨(some 2), none, .box 820002 13 (.c (.agg [(.str []), (.bool false), (.bool false), (.bool false), (.bool false), (.int .i64 0), (.int .i64 0), (.int .i64 0), (.int .i64 0), (.int .i64 0), (.int .i64 0), (.int .i64 0), (.int .i64 0)]))⟩]
@[go_sem] def scriptingref32_none_r1 : List AI := [
  ⟨(some 3), none, .mov (.t 0)⟩,
  ⟨(some 4), none, .build [(.str []), (.bool false), (.bool false), (.bool false), (.bool false), (.int .i64 0), (.int .i64 0), (.int .i64 0), (.int .i64 0), (.int .i64 0), (.int .i64 0), (.int .i64 0), (.int .i64 0)] [(0, 1, (.t 3))]⟩,
  ⟨none, none, .store 13 (.t 2) (.t 4)⟩]
@[go_sem] def scriptingref32_none_c : AC := .seq (.ops [scriptingref32_none_r0]) (.seq (.ops [scriptingref32_none_r1]) (.ret))
theorem scriptingref32_none_ok : compF Tryd.prog 82 = some (5, scriptingref32_none_c, [.c 2 13 true]) := by kernel_rfl



/-- The functions by number. -/
def exT : List (FuncId × Nat × AC × List RV) := [
  (3, 37, scriptinglaw35_FlowLives_c, [.t 2]),
  (4, 157, scriptinglaw35_FlowWalks_c, [.t 4]),
  (5, 142, scriptinglaw35_FlowSolves_c, [.t 2]),
  (6, 27, scriptinglaw35_large_c, [.t 2]),
  (7, 106, scriptinglaw35_awake_c, [.t 0]),
  (8, 8, scriptinglaw35_few_c, [.c 2 11 true]),
  (9, 188, flow_Live_c, [.t 2]),
  (10, 173, scriptingref35_Live_c, [.t 2]),
  (11, 26, scriptinglaw35_ints_c, [.t 4]),
  (12, 56, flow_Reach_c, [.t 2]),
  (13, 36, flow_Loops_c, [.t 2]),
  (14, 88, opcode_Reads_c, [.t 2, .t 3]),
  (15, 18, scriptinglaw35_has_c, [.t 4]),
  (16, 65, flow_Next_c, [.t 4]),
  (17, 65, scriptinglaw35_written_c, [.t 8]),
  (18, 57, scriptinglaw35_captured_c, [.t 6]),
  (19, 116, flow_Blocks_c, [.t 2]),
  (20, 7, flow_size_c, [.t 2]),
  (21, 60, flow_uses_c, [.t 4]),
  (22, 55, flow_defines_c, [.t 6]),
  (23, 7, scriptingref35_registers_c, [.t 2]),
  (24, 87, scriptingref35_uses_c, [.t 6]),
  (25, 63, scriptingref35_Next_c, [.t 4]),
  (26, 62, scriptingref35_defines_c, [.t 8]),
  (27, 14, opcode_Target_c, [.t 2, .t 3]),
  (28, 11, slices_Sort_int_int_c, []),
  (29, 61, slices_Compact_int_int_c, [.t 2]),
  (30, 85, opcode_Check_c, [.t 2]),
  (31, 7, opcode_sorted_c, [.t 2]),
  (32, 23, opcode_span_c, [.t 4, .t 5]),
  (33, 16, opcode_Falls_c, [.t 2]),
  (34, 92, opcode_Writes_c, [.t 2, .t 3]),
  (35, 73, scriptingref32_Check_c, [.t 2]),
  (36, 29, scriptinglaw35_captures_c, [.t 4]),
  (37, 44, flow_registers_put_c, []),
  (38, 90, scriptingref32_Reads_c, [.t 2, .t 3]),
  (39, 51, scriptingref35_marks_c, [.t 6]),
  (40, 14, scriptingref32_Target_c, [.t 2, .t 3]),
  (41, 16, scriptingref32_Falls_c, [.t 2]),
  (42, 49, scriptingref35_Put_c, [.t 4]),
  (43, 93, scriptingref32_Writes_c, [.t 2, .t 3]),
  (44, 134, slices_pdqsortOrdered_int_c, []),
  (45, 8, math_bits_Len_c, [.t 2]),
  (46, 25, opcode_of_c, [.c 2 6 true, .t 3]),
  (47, 24, opcode_fields_c, [.c 4 4 true, .c 5 4 true]),
  (48, 29, opcode_between_c, [.t 2, .t 3]),
  (49, 53, opcode_last_c, [.t 4]),
  (50, 65, scriptingref32_data_c, [.c 2 13 true]),
  (51, 12, scriptingref32_fields_c, [.c 2 4 true]),
  (52, 46, scriptingref32_limit_c, [.t 2]),
  (53, 19, scriptingref32_set_c, [.t 2]),
  (54, 16, scriptingref32_open_c, [.t 6, .t 7]),
  (55, 20, scriptingref32_span_c, [.t 6]),
  (56, 49, slices_insertionSortOrdered_int_c, []),
  (62, 17, cmp_Less_int_c, [.t 4]),
  (65, 19, math_bits_Len32_c, [.t 2]),
  (66, 25, math_bits_Len64_c, [.t 2]),
  (67, 106, strings_Fields_c, [.t 2]),
  (68, 75, opcode_shape_c, [.c 2 6 true]),
  (69, 17, scriptingref32_ab_c, [.c 8 13 true]),
  (70, 23, scriptingref32_abc_c, [.c 8 13 true]),
  (71, 70, scriptingref32_later_c, [.c 2 13 true]),
  (72, 49, scriptingref32_put_c, [.t 4]),
  (78, 6, cmp_isNaN_int_c, [.t 2]),
  (81, 10, scriptingref32_a_c, [.c 4 13 true]),
  (82, 5, scriptingref32_none_c, [.c 2 13 true])]
theorem exT_ok : TabOK Tryd.prog exT := 
  (TabOK.cons scriptinglaw35_FlowLives_ok 
  (TabOK.cons scriptinglaw35_FlowWalks_ok 
  (TabOK.cons scriptinglaw35_FlowSolves_ok 
  (TabOK.cons scriptinglaw35_large_ok 
  (TabOK.cons scriptinglaw35_awake_ok 
  (TabOK.cons scriptinglaw35_few_ok 
  (TabOK.cons flow_Live_ok 
  (TabOK.cons scriptingref35_Live_ok 
  (TabOK.cons scriptinglaw35_ints_ok 
  (TabOK.cons flow_Reach_ok 
  (TabOK.cons flow_Loops_ok 
  (TabOK.cons opcode_Reads_ok 
  (TabOK.cons scriptinglaw35_has_ok 
  (TabOK.cons flow_Next_ok 
  (TabOK.cons scriptinglaw35_written_ok 
  (TabOK.cons scriptinglaw35_captured_ok 
  (TabOK.cons flow_Blocks_ok 
  (TabOK.cons flow_size_ok 
  (TabOK.cons flow_uses_ok 
  (TabOK.cons flow_defines_ok 
  (TabOK.cons scriptingref35_registers_ok 
  (TabOK.cons scriptingref35_uses_ok 
  (TabOK.cons scriptingref35_Next_ok 
  (TabOK.cons scriptingref35_defines_ok 
  (TabOK.cons opcode_Target_ok 
  (TabOK.cons slices_Sort_int_int_ok 
  (TabOK.cons slices_Compact_int_int_ok 
  (TabOK.cons opcode_Check_ok 
  (TabOK.cons opcode_sorted_ok 
  (TabOK.cons opcode_span_ok 
  (TabOK.cons opcode_Falls_ok 
  (TabOK.cons opcode_Writes_ok 
  (TabOK.cons scriptingref32_Check_ok 
  (TabOK.cons scriptinglaw35_captures_ok 
  (TabOK.cons flow_registers_put_ok 
  (TabOK.cons scriptingref32_Reads_ok 
  (TabOK.cons scriptingref35_marks_ok 
  (TabOK.cons scriptingref32_Target_ok 
  (TabOK.cons scriptingref32_Falls_ok 
  (TabOK.cons scriptingref35_Put_ok 
  (TabOK.cons scriptingref32_Writes_ok 
  (TabOK.cons slices_pdqsortOrdered_int_ok 
  (TabOK.cons math_bits_Len_ok 
  (TabOK.cons opcode_of_ok 
  (TabOK.cons opcode_fields_ok 
  (TabOK.cons opcode_between_ok 
  (TabOK.cons opcode_last_ok 
  (TabOK.cons scriptingref32_data_ok 
  (TabOK.cons scriptingref32_fields_ok 
  (TabOK.cons scriptingref32_limit_ok 
  (TabOK.cons scriptingref32_set_ok 
  (TabOK.cons scriptingref32_open_ok 
  (TabOK.cons scriptingref32_span_ok 
  (TabOK.cons slices_insertionSortOrdered_int_ok 
  (TabOK.cons cmp_Less_int_ok 
  (TabOK.cons math_bits_Len32_ok 
  (TabOK.cons math_bits_Len64_ok 
  (TabOK.cons strings_Fields_ok 
  (TabOK.cons opcode_shape_ok 
  (TabOK.cons scriptingref32_ab_ok 
  (TabOK.cons scriptingref32_abc_ok 
  (TabOK.cons scriptingref32_later_ok 
  (TabOK.cons scriptingref32_put_ok 
  (TabOK.cons cmp_isNaN_int_ok 
  (TabOK.cons scriptingref32_a_ok 
  (TabOK.cons scriptingref32_none_ok TabOK.nil))))))))))))))))))))))))))))))))))))))))))))))))))))))))))))))))))

end Go.Proofs.YtdnpnbenahpllaaDoor
