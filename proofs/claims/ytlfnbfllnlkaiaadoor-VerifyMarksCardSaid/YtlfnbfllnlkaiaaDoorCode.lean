/-
  The code of the functions that this seat reaches, translated into abstract code (printed by a program, each proved to be the translation). No condition.
-/
import Derived.Test.YtlfnbfllnlkaiaaDoorCodeA
import Derived.Test.YtlfnbfllnlkaiaaDoorChecked
set_option maxRecDepth 1000000
namespace Go.Proofs.YtlfnbfllnlkaiaaDoor
open Go.Abs
@[go_sem] def slices_IndexFunc_int_int_r0 : List AI := [
  ⟨(some 4), none, .mov (.c (.int .i64 0))⟩]
@[go_sem] def slices_IndexFunc_int_int_r1 : List AI := [
  ⟨(some 6), none, .mov (.t 0)⟩,
  ⟨(some 7), none, .len 0 (.t 6)⟩,
  ⟨(some 8), none, .mov (.c (.int .i64 0))⟩]
@[go_sem] def slices_IndexFunc_int_int_r2 : List AI := [
  ⟨(some 9), none, .bin .lss (.t 8) (.t 7)⟩]
@[go_sem] def slices_IndexFunc_int_int_r3 : List AI := [
  ⟨(some 10), none, .mov (.t 8)⟩,
  ⟨(some 5), none, .mov (.t 10)⟩]
@[go_sem] def slices_IndexFunc_int_int_r4 : List AI := [
  ⟨(some 11), none, .mov (.t 1)⟩,
  ⟨(some 12), none, .mov (.t 0)⟩,
  ⟨(some 13), none, .mov (.t 5)⟩,
  ⟨(some 14), none, .iaddr 1 (.t 12) (.t 13)⟩,
  ⟨(some 15), none, .load 1 false (.t 14)⟩,
  ⟨(some 16), none, .callv (.t 11) [(.t 15)]⟩]
@[go_sem] def slices_IndexFunc_int_int_r5 : List AI := [
  ⟨(some 17), none, .mov (.t 5)⟩,
  ⟨(some 4), none, .mov (.t 17)⟩]
@[go_sem] def slices_IndexFunc_int_int_r6 : List AI := [
  ⟨(some 18), none, .bin .add (.t 8) (.c (.int .i64 1))⟩,
  ⟨(some 8), none, .mov (.t 18)⟩]
def slices_IndexFunc_int_int_l0 : AC := .seq (.ops [slices_IndexFunc_int_int_r2]) (.seq (.cond (.t 9) (.skip) (.exit 0)) (.seq (.block 1 (.seq (.ops [slices_IndexFunc_int_int_r3]) (.seq (.ops [slices_IndexFunc_int_int_r4]) (.cond (.t 16) (.seq (.ops [slices_IndexFunc_int_int_r5]) (.ret)) (.skip))))) (.ops [slices_IndexFunc_int_int_r6])))
theorem slices_IndexFunc_int_int_l0_eq : slices_IndexFunc_int_int_l0 = .seq (.ops [slices_IndexFunc_int_int_r2]) (.seq (.cond (.t 9) (.skip) (.exit 0)) (.seq (.block 1 (.seq (.ops [slices_IndexFunc_int_int_r3]) (.seq (.ops [slices_IndexFunc_int_int_r4]) (.cond (.t 16) (.seq (.ops [slices_IndexFunc_int_int_r5]) (.ret)) (.skip))))) (.ops [slices_IndexFunc_int_int_r6]))) := rfl
@[go_sem] def slices_IndexFunc_int_int_r7 : List AI := [
  ⟨(some 4), none, .mov (.c (.int .i64 (-1)))⟩]
@[go_sem] def slices_IndexFunc_int_int_c : AC := .seq (.ops [slices_IndexFunc_int_int_r0]) (.seq (.seq (.ops [slices_IndexFunc_int_int_r1]) (.block 0 (.loop slices_IndexFunc_int_int_l0))) (.seq (.ops [slices_IndexFunc_int_int_r7]) (.ret)))
theorem slices_IndexFunc_int_int_ok : compF Tryd.prog 67 = some (19, slices_IndexFunc_int_int_c, [.t 4]) := by kernel_rfl

@[go_sem] def rational_Valid_r0 : List AI := [
  ⟨(some 1), none, .box 680001 2 (.t 0)⟩,
  ⟨(some 2), none, .mov (.c (.bool false))⟩]
@[go_sem] def rational_Valid_r1 : List AI := [
  ⟨(some 3), none, .faddr 1 (.t 1)⟩,
  ⟨(some 4), none, .load 1 false (.t 3)⟩,
  ⟨(some 5), none, .bin .geq (.t 4) (.c (.int .i64 1))⟩,
  ⟨(some 6), none, .mov (.t 5)⟩,
  ⟨(some 7), (some (6, true)), .faddr 1 (.t 1)⟩,
  ⟨(some 8), (some (6, true)), .load 1 false (.t 7)⟩,
  ⟨(some 9), (some (6, true)), .bin .leq (.t 8) (.c (.int .i64 2147483647))⟩,
  ⟨(some 10), none, .pick (.t 6) (.t 9) (.c (.bool false))⟩,
  ⟨(some 11), none, .mov (.t 10)⟩,
  ⟨(some 12), (some (11, true)), .faddr 0 (.t 1)⟩,
  ⟨(some 13), (some (11, true)), .load 1 false (.t 12)⟩,
  ⟨(some 14), (some (11, true)), .bin .geq (.t 13) (.c (.int .i64 (-2147483647)))⟩,
  ⟨(some 15), none, .pick (.t 11) (.t 14) (.c (.bool false))⟩,
  ⟨(some 16), none, .mov (.t 15)⟩,
  ⟨(some 17), (some (16, true)), .faddr 0 (.t 1)⟩,
  ⟨(some 18), (some (16, true)), .load 1 false (.t 17)⟩,
  ⟨(some 19), (some (16, true)), .bin .leq (.t 18) (.c (.int .i64 2147483647))⟩,
  ⟨(some 20), none, .pick (.t 16) (.t 19) (.c (.bool false))⟩,
  ⟨(some 21), none, .mov (.t 20)⟩,
  ⟨(some 22), (some (21, true)), .faddr 0 (.t 1)⟩,
  ⟨(some 23), (some (21, true)), .load 1 false (.t 22)⟩,
  ⟨(some 24), (some (21, true)), .faddr 0 (.t 1)⟩,
  ⟨(some 25), (some (21, true)), .load 1 false (.t 24)⟩,
  ⟨(some 26), (some (21, true)), .un .neg (.t 25)⟩,
  ⟨(some 27), (some (21, true)), .mm true [(.t 23), (.t 26)]⟩,
  ⟨(some 28), (some (21, true)), .faddr 1 (.t 1)⟩,
  ⟨(some 29), (some (21, true)), .load 1 false (.t 28)⟩,
  ⟨(some 30), (some (21, true)), .call 89 [(.t 27), (.t 29)]⟩,
  ⟨(some 31), (some (21, true)), .bin .eql (.t 30) (.c (.int .i64 1))⟩,
  ⟨(some 32), none, .pick (.t 21) (.t 31) (.c (.bool false))⟩,
  ⟨(some 2), none, .mov (.t 32)⟩]
@[go_sem] def rational_Valid_c : AC := .seq (.ops [rational_Valid_r0]) (.seq (.ops [rational_Valid_r1]) (.ret))
theorem rational_Valid_ok : compF Tryd.prog 68 = some (33, rational_Valid_c, [.t 2]) := by kernel_rfl

@[go_sem] def opcode_of_r0 : List AI := [
  ⟨(some 2), none, .box 690002 6 (.c (.agg [(.str []), (.int .i64 0), (.int .i64 0), (.int .i64 0), (.int .i64 0), (.int .i64 0)]))⟩,
  ⟨(some 3), none, .mov (.c (.bool false))⟩]
@[go_sem] def opcode_of_r1 : List AI := [
  ⟨(some 6), none, .call 90 [(.c (.str [109, 111, 118, 101, 32, 99, 111, 110, 115, 116, 32, 110, 105, 108, 32, 98, 111, 111, 108, 32, 117, 112, 103, 101, 116, 32, 117, 112, 115, 101, 116, 32, 103, 108, 111, 98, 97, 108, 32, 115, 101, 116, 103, 108, 111, 98, 32, 103, 101, 116, 32, 115, 101, 116, 32, 115, 101, 108, 102, 32, 117, 110, 97, 114, 121, 32, 98, 105, 110, 97, 114, 121, 32, 106, 117, 109, 112, 32, 116, 101, 115, 116, 32, 99, 97, 108, 108, 32, 116, 97, 105, 108, 32, 114, 101, 116, 117, 114, 110, 32, 118, 97, 114, 97, 114, 103, 32, 116, 97, 98, 108, 101, 32, 97, 112, 112, 101, 110, 100, 32, 99, 108, 111, 115, 117, 114, 101, 32, 112, 114, 101, 112, 32, 108, 111, 111, 112, 32, 105, 116, 101, 114, 32, 110, 101, 120, 116, 32, 99, 108, 111, 115, 101, 32, 109, 97, 114, 107, 32, 115, 116, 97, 116]))]⟩,
  ⟨(some 4), none, .mov (.t 6)⟩]
@[go_sem] def opcode_of_r2 : List AI := [
  ⟨(some 7), none, .mov (.t 0)⟩,
  ⟨(some 8), none, .bin .lss (.t 7) (.c (.int .i64 1))⟩,
  ⟨(some 9), none, .mov (.t 8)⟩,
  ⟨(some 10), (some (9, false)), .mov (.t 0)⟩,
  ⟨(some 11), (some (9, false)), .mov (.t 4)⟩,
  ⟨(some 12), (some (9, false)), .len 0 (.t 11)⟩,
  ⟨(some 13), (some (9, false)), .bin .gtr (.t 10) (.t 12)⟩,
  ⟨(some 14), none, .pick (.t 9) (.c (.bool true)) (.t 13)⟩]
@[go_sem] def opcode_of_r3 : List AI := [
  ⟨(some 15), none, .build [(.str []), (.int .i64 0), (.int .i64 0), (.int .i64 0), (.int .i64 0), (.int .i64 0)] []⟩,
  ⟨none, none, .store 6 (.t 2) (.t 15)⟩,
  ⟨(some 3), none, .mov (.c (.bool false))⟩]
@[go_sem] def opcode_of_r4 : List AI := [
  ⟨(some 16), none, .mov (.t 0)⟩,
  ⟨(some 17), none, .call 91 [(.t 16)]⟩,
  ⟨(some 5), none, .box 690005 6 (.c (.agg [(.str []), (.int .i64 0), (.int .i64 0), (.int .i64 0), (.int .i64 0), (.int .i64 0)]))⟩,
  ⟨none, none, .store 6 (.t 5) (.t 17)⟩]
@[go_sem] def opcode_of_r5 : List AI := [
  ⟨(some 18), none, .mov (.t 4)⟩,
  ⟨(some 19), none, .mov (.t 0)⟩,
  ⟨(some 20), none, .bin .sub (.t 19) (.c (.int .i64 1))⟩,
  ⟨(some 21), none, .iaddr 1 (.t 18) (.t 20)⟩,
  ⟨(some 22), none, .load 1 false (.t 21)⟩,
  ⟨(some 23), none, .faddr 0 (.t 5)⟩,
  ⟨none, none, .store 1 (.t 23) (.t 22)⟩]
@[go_sem] def opcode_of_r6 : List AI := [
  ⟨(some 24), none, .load 6 true (.t 5)⟩,
  ⟨none, none, .store 6 (.t 2) (.t 24)⟩,
  ⟨(some 3), none, .mov (.c (.bool true))⟩]
@[go_sem] def opcode_of_c : AC := .seq (.ops [opcode_of_r0]) (.seq (.ops [opcode_of_r1]) (.seq (.seq (.ops [opcode_of_r2]) (.cond (.t 14) (.seq (.ops [opcode_of_r3]) (.ret)) (.skip))) (.seq (.ops [opcode_of_r4]) (.seq (.ops [opcode_of_r5]) (.seq (.ops [opcode_of_r6]) (.ret))))))
theorem opcode_of_ok : compF Tryd.prog 69 = some (25, opcode_of_c, [.c 2 6 true, .t 3]) := by kernel_rfl

@[go_sem] def opcode_fields_r0 : List AI := [
  ⟨(some 2), none, .box 700002 6 (.t 0)⟩,
  ⟨(some 3), none, .box 700003 5 (.t 1)⟩,
  ⟨(some 4), none, .box 700004 4 (.c (.agg [(.int .i64 0), (.int .i64 0), (.int .i64 0), (.int .i64 0)]))⟩,
  ⟨(some 5), none, .box 700005 4 (.c (.agg [(.int .i64 0), (.int .i64 0), (.int .i64 0), (.int .i64 0)]))⟩]
@[go_sem] def opcode_fields_r1_0 : List AI := [
  ⟨(some 6), none, .faddr 1 (.t 2)⟩,
  ⟨(some 7), none, .load 1 false (.t 6)⟩,
  ⟨(some 8), none, .faddr 2 (.t 2)⟩,
  ⟨(some 9), none, .load 1 false (.t 8)⟩,
  ⟨(some 10), none, .faddr 3 (.t 2)⟩,
  ⟨(some 11), none, .load 1 false (.t 10)⟩,
  ⟨(some 12), none, .faddr 4 (.t 2)⟩,
  ⟨(some 13), none, .load 1 false (.t 12)⟩,
  ⟨(some 14), none, .build [(.int .i64 0), (.int .i64 0), (.int .i64 0), (.int .i64 0)] [(0, 1, (.t 7)), (1, 1, (.t 9)), (2, 1, (.t 11)), (3, 1, (.t 13))]⟩,
  ⟨(some 15), none, .faddr 1 (.t 3)⟩,
  ⟨(some 16), none, .load 1 false (.t 15)⟩,
  ⟨(some 17), none, .faddr 2 (.t 3)⟩,
  ⟨(some 18), none, .load 1 false (.t 17)⟩,
  ⟨(some 19), none, .faddr 3 (.t 3)⟩,
  ⟨(some 20), none, .load 1 false (.t 19)⟩,
  ⟨(some 21), none, .faddr 4 (.t 3)⟩,
  ⟨(some 22), none, .load 1 false (.t 21)⟩,
  ⟨(some 23), none, .build [(.int .i64 0), (.int .i64 0), (.int .i64 0), (.int .i64 0)] [(0, 1, (.t 16)), (1, 1, (.t 18)), (2, 1, (.t 20)), (3, 1, (.t 22))]⟩,
  ⟨none, none, .store 4 (.t 4) (.t 14)⟩,
  ⟨none, none, .store 4 (.t 5) (.t 23)⟩]
@[go_sem] def opcode_fields_r1_1 : List AI := [
  ⟨(some 6), none, .faddr 1 (.t 2)⟩,
  ⟨(some 7), none, .load 1 false (.t 6)⟩,
  ⟨(some 8), none, .faddr 2 (.t 2)⟩,
  ⟨(some 9), none, .load 1 false (.t 8)⟩,
  ⟨(some 10), none, .faddr 3 (.t 2)⟩,
  ⟨(some 11), none, .load 1 false (.t 10)⟩,
  ⟨(some 12), none, .faddr 4 (.t 2)⟩,
  ⟨(some 13), none, .load 1 false (.t 12)⟩,
  ⟨(some 14), none, .build [(.int .i64 0), (.int .i64 0), (.int .i64 0), (.int .i64 0)] [(0, 1, (.t 7)), (1, 1, (.t 9)), (2, 1, (.t 11)), (3, 1, (.t 13))]⟩,
  ⟨(some 15), none, .faddr 1 (.t 3)⟩,
  ⟨(some 16), none, .load 1 false (.t 15)⟩,
  ⟨(some 17), none, .faddr 2 (.t 3)⟩,
  ⟨(some 18), none, .load 1 false (.t 17)⟩,
  ⟨(some 19), none, .faddr 3 (.t 3)⟩,
  ⟨(some 20), none, .load 1 false (.t 19)⟩,
  ⟨(some 21), none, .faddr 4 (.t 3)⟩,
  ⟨none, none, .store 4 (.t 4) (.t 14)⟩,
  ⟨(some 22), none, .load 1 false (.t 21)⟩,
  ⟨(some 23), none, .build [(.int .i64 0), (.int .i64 0), (.int .i64 0), (.int .i64 0)] [(0, 1, (.t 16)), (1, 1, (.t 18)), (2, 1, (.t 20)), (3, 1, (.t 22))]⟩,
  ⟨none, none, .store 4 (.t 5) (.t 23)⟩]
@[go_sem] def opcode_fields_r1_2 : List AI := [
  ⟨(some 6), none, .faddr 1 (.t 2)⟩,
  ⟨(some 7), none, .load 1 false (.t 6)⟩,
  ⟨(some 8), none, .faddr 2 (.t 2)⟩,
  ⟨(some 9), none, .load 1 false (.t 8)⟩,
  ⟨(some 10), none, .faddr 3 (.t 2)⟩,
  ⟨(some 11), none, .load 1 false (.t 10)⟩,
  ⟨(some 12), none, .faddr 4 (.t 2)⟩,
  ⟨(some 13), none, .load 1 false (.t 12)⟩,
  ⟨(some 14), none, .build [(.int .i64 0), (.int .i64 0), (.int .i64 0), (.int .i64 0)] [(0, 1, (.t 7)), (1, 1, (.t 9)), (2, 1, (.t 11)), (3, 1, (.t 13))]⟩,
  ⟨(some 15), none, .faddr 1 (.t 3)⟩,
  ⟨(some 16), none, .load 1 false (.t 15)⟩,
  ⟨(some 17), none, .faddr 2 (.t 3)⟩,
  ⟨(some 18), none, .load 1 false (.t 17)⟩,
  ⟨(some 19), none, .faddr 3 (.t 3)⟩,
  ⟨(some 21), none, .faddr 4 (.t 3)⟩,
  ⟨(some 22), none, .load 1 false (.t 21)⟩,
  ⟨none, none, .store 4 (.t 4) (.t 14)⟩,
  ⟨(some 20), none, .load 1 false (.t 19)⟩,
  ⟨(some 23), none, .build [(.int .i64 0), (.int .i64 0), (.int .i64 0), (.int .i64 0)] [(0, 1, (.t 16)), (1, 1, (.t 18)), (2, 1, (.t 20)), (3, 1, (.t 22))]⟩,
  ⟨none, none, .store 4 (.t 5) (.t 23)⟩]
@[go_sem] def opcode_fields_r1_3 : List AI := [
  ⟨(some 6), none, .faddr 1 (.t 2)⟩,
  ⟨(some 7), none, .load 1 false (.t 6)⟩,
  ⟨(some 8), none, .faddr 2 (.t 2)⟩,
  ⟨(some 9), none, .load 1 false (.t 8)⟩,
  ⟨(some 10), none, .faddr 3 (.t 2)⟩,
  ⟨(some 11), none, .load 1 false (.t 10)⟩,
  ⟨(some 12), none, .faddr 4 (.t 2)⟩,
  ⟨(some 13), none, .load 1 false (.t 12)⟩,
  ⟨(some 14), none, .build [(.int .i64 0), (.int .i64 0), (.int .i64 0), (.int .i64 0)] [(0, 1, (.t 7)), (1, 1, (.t 9)), (2, 1, (.t 11)), (3, 1, (.t 13))]⟩,
  ⟨(some 15), none, .faddr 1 (.t 3)⟩,
  ⟨(some 16), none, .load 1 false (.t 15)⟩,
  ⟨(some 17), none, .faddr 2 (.t 3)⟩,
  ⟨(some 18), none, .load 1 false (.t 17)⟩,
  ⟨(some 19), none, .faddr 3 (.t 3)⟩,
  ⟨(some 21), none, .faddr 4 (.t 3)⟩,
  ⟨none, none, .store 4 (.t 4) (.t 14)⟩,
  ⟨(some 20), none, .load 1 false (.t 19)⟩,
  ⟨(some 22), none, .load 1 false (.t 21)⟩,
  ⟨(some 23), none, .build [(.int .i64 0), (.int .i64 0), (.int .i64 0), (.int .i64 0)] [(0, 1, (.t 16)), (1, 1, (.t 18)), (2, 1, (.t 20)), (3, 1, (.t 22))]⟩,
  ⟨none, none, .store 4 (.t 5) (.t 23)⟩]
@[go_sem] def opcode_fields_r1_4 : List AI := [
  ⟨(some 6), none, .faddr 1 (.t 2)⟩,
  ⟨(some 7), none, .load 1 false (.t 6)⟩,
  ⟨(some 8), none, .faddr 2 (.t 2)⟩,
  ⟨(some 9), none, .load 1 false (.t 8)⟩,
  ⟨(some 10), none, .faddr 3 (.t 2)⟩,
  ⟨(some 11), none, .load 1 false (.t 10)⟩,
  ⟨(some 12), none, .faddr 4 (.t 2)⟩,
  ⟨(some 13), none, .load 1 false (.t 12)⟩,
  ⟨(some 14), none, .build [(.int .i64 0), (.int .i64 0), (.int .i64 0), (.int .i64 0)] [(0, 1, (.t 7)), (1, 1, (.t 9)), (2, 1, (.t 11)), (3, 1, (.t 13))]⟩,
  ⟨(some 15), none, .faddr 1 (.t 3)⟩,
  ⟨(some 16), none, .load 1 false (.t 15)⟩,
  ⟨(some 17), none, .faddr 2 (.t 3)⟩,
  ⟨(some 19), none, .faddr 3 (.t 3)⟩,
  ⟨(some 20), none, .load 1 false (.t 19)⟩,
  ⟨(some 21), none, .faddr 4 (.t 3)⟩,
  ⟨(some 22), none, .load 1 false (.t 21)⟩,
  ⟨none, none, .store 4 (.t 4) (.t 14)⟩,
  ⟨(some 18), none, .load 1 false (.t 17)⟩,
  ⟨(some 23), none, .build [(.int .i64 0), (.int .i64 0), (.int .i64 0), (.int .i64 0)] [(0, 1, (.t 16)), (1, 1, (.t 18)), (2, 1, (.t 20)), (3, 1, (.t 22))]⟩,
  ⟨none, none, .store 4 (.t 5) (.t 23)⟩]
@[go_sem] def opcode_fields_r1_5 : List AI := [
  ⟨(some 6), none, .faddr 1 (.t 2)⟩,
  ⟨(some 7), none, .load 1 false (.t 6)⟩,
  ⟨(some 8), none, .faddr 2 (.t 2)⟩,
  ⟨(some 9), none, .load 1 false (.t 8)⟩,
  ⟨(some 10), none, .faddr 3 (.t 2)⟩,
  ⟨(some 11), none, .load 1 false (.t 10)⟩,
  ⟨(some 12), none, .faddr 4 (.t 2)⟩,
  ⟨(some 13), none, .load 1 false (.t 12)⟩,
  ⟨(some 14), none, .build [(.int .i64 0), (.int .i64 0), (.int .i64 0), (.int .i64 0)] [(0, 1, (.t 7)), (1, 1, (.t 9)), (2, 1, (.t 11)), (3, 1, (.t 13))]⟩,
  ⟨(some 15), none, .faddr 1 (.t 3)⟩,
  ⟨(some 16), none, .load 1 false (.t 15)⟩,
  ⟨(some 17), none, .faddr 2 (.t 3)⟩,
  ⟨(some 19), none, .faddr 3 (.t 3)⟩,
  ⟨(some 20), none, .load 1 false (.t 19)⟩,
  ⟨(some 21), none, .faddr 4 (.t 3)⟩,
  ⟨none, none, .store 4 (.t 4) (.t 14)⟩,
  ⟨(some 18), none, .load 1 false (.t 17)⟩,
  ⟨(some 22), none, .load 1 false (.t 21)⟩,
  ⟨(some 23), none, .build [(.int .i64 0), (.int .i64 0), (.int .i64 0), (.int .i64 0)] [(0, 1, (.t 16)), (1, 1, (.t 18)), (2, 1, (.t 20)), (3, 1, (.t 22))]⟩,
  ⟨none, none, .store 4 (.t 5) (.t 23)⟩]
@[go_sem] def opcode_fields_r1_6 : List AI := [
  ⟨(some 6), none, .faddr 1 (.t 2)⟩,
  ⟨(some 7), none, .load 1 false (.t 6)⟩,
  ⟨(some 8), none, .faddr 2 (.t 2)⟩,
  ⟨(some 9), none, .load 1 false (.t 8)⟩,
  ⟨(some 10), none, .faddr 3 (.t 2)⟩,
  ⟨(some 11), none, .load 1 false (.t 10)⟩,
  ⟨(some 12), none, .faddr 4 (.t 2)⟩,
  ⟨(some 13), none, .load 1 false (.t 12)⟩,
  ⟨(some 14), none, .build [(.int .i64 0), (.int .i64 0), (.int .i64 0), (.int .i64 0)] [(0, 1, (.t 7)), (1, 1, (.t 9)), (2, 1, (.t 11)), (3, 1, (.t 13))]⟩,
  ⟨(some 15), none, .faddr 1 (.t 3)⟩,
  ⟨(some 16), none, .load 1 false (.t 15)⟩,
  ⟨(some 17), none, .faddr 2 (.t 3)⟩,
  ⟨(some 19), none, .faddr 3 (.t 3)⟩,
  ⟨(some 21), none, .faddr 4 (.t 3)⟩,
  ⟨(some 22), none, .load 1 false (.t 21)⟩,
  ⟨none, none, .store 4 (.t 4) (.t 14)⟩,
  ⟨(some 18), none, .load 1 false (.t 17)⟩,
  ⟨(some 20), none, .load 1 false (.t 19)⟩,
  ⟨(some 23), none, .build [(.int .i64 0), (.int .i64 0), (.int .i64 0), (.int .i64 0)] [(0, 1, (.t 16)), (1, 1, (.t 18)), (2, 1, (.t 20)), (3, 1, (.t 22))]⟩,
  ⟨none, none, .store 4 (.t 5) (.t 23)⟩]
@[go_sem] def opcode_fields_r1_7 : List AI := [
  ⟨(some 6), none, .faddr 1 (.t 2)⟩,
  ⟨(some 7), none, .load 1 false (.t 6)⟩,
  ⟨(some 8), none, .faddr 2 (.t 2)⟩,
  ⟨(some 9), none, .load 1 false (.t 8)⟩,
  ⟨(some 10), none, .faddr 3 (.t 2)⟩,
  ⟨(some 11), none, .load 1 false (.t 10)⟩,
  ⟨(some 12), none, .faddr 4 (.t 2)⟩,
  ⟨(some 13), none, .load 1 false (.t 12)⟩,
  ⟨(some 14), none, .build [(.int .i64 0), (.int .i64 0), (.int .i64 0), (.int .i64 0)] [(0, 1, (.t 7)), (1, 1, (.t 9)), (2, 1, (.t 11)), (3, 1, (.t 13))]⟩,
  ⟨(some 15), none, .faddr 1 (.t 3)⟩,
  ⟨(some 16), none, .load 1 false (.t 15)⟩,
  ⟨(some 17), none, .faddr 2 (.t 3)⟩,
  ⟨(some 19), none, .faddr 3 (.t 3)⟩,
  ⟨(some 21), none, .faddr 4 (.t 3)⟩,
  ⟨none, none, .store 4 (.t 4) (.t 14)⟩,
  ⟨(some 18), none, .load 1 false (.t 17)⟩,
  ⟨(some 20), none, .load 1 false (.t 19)⟩,
  ⟨(some 22), none, .load 1 false (.t 21)⟩,
  ⟨(some 23), none, .build [(.int .i64 0), (.int .i64 0), (.int .i64 0), (.int .i64 0)] [(0, 1, (.t 16)), (1, 1, (.t 18)), (2, 1, (.t 20)), (3, 1, (.t 22))]⟩,
  ⟨none, none, .store 4 (.t 5) (.t 23)⟩]
@[go_sem] def opcode_fields_r1_8 : List AI := [
  ⟨(some 6), none, .faddr 1 (.t 2)⟩,
  ⟨(some 7), none, .load 1 false (.t 6)⟩,
  ⟨(some 8), none, .faddr 2 (.t 2)⟩,
  ⟨(some 9), none, .load 1 false (.t 8)⟩,
  ⟨(some 10), none, .faddr 3 (.t 2)⟩,
  ⟨(some 11), none, .load 1 false (.t 10)⟩,
  ⟨(some 12), none, .faddr 4 (.t 2)⟩,
  ⟨(some 13), none, .load 1 false (.t 12)⟩,
  ⟨(some 14), none, .build [(.int .i64 0), (.int .i64 0), (.int .i64 0), (.int .i64 0)] [(0, 1, (.t 7)), (1, 1, (.t 9)), (2, 1, (.t 11)), (3, 1, (.t 13))]⟩,
  ⟨(some 15), none, .faddr 1 (.t 3)⟩,
  ⟨(some 17), none, .faddr 2 (.t 3)⟩,
  ⟨(some 18), none, .load 1 false (.t 17)⟩,
  ⟨(some 19), none, .faddr 3 (.t 3)⟩,
  ⟨(some 20), none, .load 1 false (.t 19)⟩,
  ⟨(some 21), none, .faddr 4 (.t 3)⟩,
  ⟨(some 22), none, .load 1 false (.t 21)⟩,
  ⟨none, none, .store 4 (.t 4) (.t 14)⟩,
  ⟨(some 16), none, .load 1 false (.t 15)⟩,
  ⟨(some 23), none, .build [(.int .i64 0), (.int .i64 0), (.int .i64 0), (.int .i64 0)] [(0, 1, (.t 16)), (1, 1, (.t 18)), (2, 1, (.t 20)), (3, 1, (.t 22))]⟩,
  ⟨none, none, .store 4 (.t 5) (.t 23)⟩]
@[go_sem] def opcode_fields_r1_9 : List AI := [
  ⟨(some 6), none, .faddr 1 (.t 2)⟩,
  ⟨(some 7), none, .load 1 false (.t 6)⟩,
  ⟨(some 8), none, .faddr 2 (.t 2)⟩,
  ⟨(some 9), none, .load 1 false (.t 8)⟩,
  ⟨(some 10), none, .faddr 3 (.t 2)⟩,
  ⟨(some 11), none, .load 1 false (.t 10)⟩,
  ⟨(some 12), none, .faddr 4 (.t 2)⟩,
  ⟨(some 13), none, .load 1 false (.t 12)⟩,
  ⟨(some 14), none, .build [(.int .i64 0), (.int .i64 0), (.int .i64 0), (.int .i64 0)] [(0, 1, (.t 7)), (1, 1, (.t 9)), (2, 1, (.t 11)), (3, 1, (.t 13))]⟩,
  ⟨(some 15), none, .faddr 1 (.t 3)⟩,
  ⟨(some 17), none, .faddr 2 (.t 3)⟩,
  ⟨(some 18), none, .load 1 false (.t 17)⟩,
  ⟨(some 19), none, .faddr 3 (.t 3)⟩,
  ⟨(some 20), none, .load 1 false (.t 19)⟩,
  ⟨(some 21), none, .faddr 4 (.t 3)⟩,
  ⟨none, none, .store 4 (.t 4) (.t 14)⟩,
  ⟨(some 16), none, .load 1 false (.t 15)⟩,
  ⟨(some 22), none, .load 1 false (.t 21)⟩,
  ⟨(some 23), none, .build [(.int .i64 0), (.int .i64 0), (.int .i64 0), (.int .i64 0)] [(0, 1, (.t 16)), (1, 1, (.t 18)), (2, 1, (.t 20)), (3, 1, (.t 22))]⟩,
  ⟨none, none, .store 4 (.t 5) (.t 23)⟩]
@[go_sem] def opcode_fields_r1_10 : List AI := [
  ⟨(some 6), none, .faddr 1 (.t 2)⟩,
  ⟨(some 7), none, .load 1 false (.t 6)⟩,
  ⟨(some 8), none, .faddr 2 (.t 2)⟩,
  ⟨(some 9), none, .load 1 false (.t 8)⟩,
  ⟨(some 10), none, .faddr 3 (.t 2)⟩,
  ⟨(some 11), none, .load 1 false (.t 10)⟩,
  ⟨(some 12), none, .faddr 4 (.t 2)⟩,
  ⟨(some 13), none, .load 1 false (.t 12)⟩,
  ⟨(some 14), none, .build [(.int .i64 0), (.int .i64 0), (.int .i64 0), (.int .i64 0)] [(0, 1, (.t 7)), (1, 1, (.t 9)), (2, 1, (.t 11)), (3, 1, (.t 13))]⟩,
  ⟨(some 15), none, .faddr 1 (.t 3)⟩,
  ⟨(some 17), none, .faddr 2 (.t 3)⟩,
  ⟨(some 18), none, .load 1 false (.t 17)⟩,
  ⟨(some 19), none, .faddr 3 (.t 3)⟩,
  ⟨(some 21), none, .faddr 4 (.t 3)⟩,
  ⟨(some 22), none, .load 1 false (.t 21)⟩,
  ⟨none, none, .store 4 (.t 4) (.t 14)⟩,
  ⟨(some 16), none, .load 1 false (.t 15)⟩,
  ⟨(some 20), none, .load 1 false (.t 19)⟩,
  ⟨(some 23), none, .build [(.int .i64 0), (.int .i64 0), (.int .i64 0), (.int .i64 0)] [(0, 1, (.t 16)), (1, 1, (.t 18)), (2, 1, (.t 20)), (3, 1, (.t 22))]⟩,
  ⟨none, none, .store 4 (.t 5) (.t 23)⟩]
@[go_sem] def opcode_fields_r1_11 : List AI := [
  ⟨(some 6), none, .faddr 1 (.t 2)⟩,
  ⟨(some 7), none, .load 1 false (.t 6)⟩,
  ⟨(some 8), none, .faddr 2 (.t 2)⟩,
  ⟨(some 9), none, .load 1 false (.t 8)⟩,
  ⟨(some 10), none, .faddr 3 (.t 2)⟩,
  ⟨(some 11), none, .load 1 false (.t 10)⟩,
  ⟨(some 12), none, .faddr 4 (.t 2)⟩,
  ⟨(some 13), none, .load 1 false (.t 12)⟩,
  ⟨(some 14), none, .build [(.int .i64 0), (.int .i64 0), (.int .i64 0), (.int .i64 0)] [(0, 1, (.t 7)), (1, 1, (.t 9)), (2, 1, (.t 11)), (3, 1, (.t 13))]⟩,
  ⟨(some 15), none, .faddr 1 (.t 3)⟩,
  ⟨(some 17), none, .faddr 2 (.t 3)⟩,
  ⟨(some 18), none, .load 1 false (.t 17)⟩,
  ⟨(some 19), none, .faddr 3 (.t 3)⟩,
  ⟨(some 21), none, .faddr 4 (.t 3)⟩,
  ⟨none, none, .store 4 (.t 4) (.t 14)⟩,
  ⟨(some 16), none, .load 1 false (.t 15)⟩,
  ⟨(some 20), none, .load 1 false (.t 19)⟩,
  ⟨(some 22), none, .load 1 false (.t 21)⟩,
  ⟨(some 23), none, .build [(.int .i64 0), (.int .i64 0), (.int .i64 0), (.int .i64 0)] [(0, 1, (.t 16)), (1, 1, (.t 18)), (2, 1, (.t 20)), (3, 1, (.t 22))]⟩,
  ⟨none, none, .store 4 (.t 5) (.t 23)⟩]
@[go_sem] def opcode_fields_r1_12 : List AI := [
  ⟨(some 6), none, .faddr 1 (.t 2)⟩,
  ⟨(some 7), none, .load 1 false (.t 6)⟩,
  ⟨(some 8), none, .faddr 2 (.t 2)⟩,
  ⟨(some 9), none, .load 1 false (.t 8)⟩,
  ⟨(some 10), none, .faddr 3 (.t 2)⟩,
  ⟨(some 11), none, .load 1 false (.t 10)⟩,
  ⟨(some 12), none, .faddr 4 (.t 2)⟩,
  ⟨(some 13), none, .load 1 false (.t 12)⟩,
  ⟨(some 14), none, .build [(.int .i64 0), (.int .i64 0), (.int .i64 0), (.int .i64 0)] [(0, 1, (.t 7)), (1, 1, (.t 9)), (2, 1, (.t 11)), (3, 1, (.t 13))]⟩,
  ⟨(some 15), none, .faddr 1 (.t 3)⟩,
  ⟨(some 17), none, .faddr 2 (.t 3)⟩,
  ⟨(some 19), none, .faddr 3 (.t 3)⟩,
  ⟨(some 20), none, .load 1 false (.t 19)⟩,
  ⟨(some 21), none, .faddr 4 (.t 3)⟩,
  ⟨(some 22), none, .load 1 false (.t 21)⟩,
  ⟨none, none, .store 4 (.t 4) (.t 14)⟩,
  ⟨(some 16), none, .load 1 false (.t 15)⟩,
  ⟨(some 18), none, .load 1 false (.t 17)⟩,
  ⟨(some 23), none, .build [(.int .i64 0), (.int .i64 0), (.int .i64 0), (.int .i64 0)] [(0, 1, (.t 16)), (1, 1, (.t 18)), (2, 1, (.t 20)), (3, 1, (.t 22))]⟩,
  ⟨none, none, .store 4 (.t 5) (.t 23)⟩]
@[go_sem] def opcode_fields_r1_13 : List AI := [
  ⟨(some 6), none, .faddr 1 (.t 2)⟩,
  ⟨(some 7), none, .load 1 false (.t 6)⟩,
  ⟨(some 8), none, .faddr 2 (.t 2)⟩,
  ⟨(some 9), none, .load 1 false (.t 8)⟩,
  ⟨(some 10), none, .faddr 3 (.t 2)⟩,
  ⟨(some 11), none, .load 1 false (.t 10)⟩,
  ⟨(some 12), none, .faddr 4 (.t 2)⟩,
  ⟨(some 13), none, .load 1 false (.t 12)⟩,
  ⟨(some 14), none, .build [(.int .i64 0), (.int .i64 0), (.int .i64 0), (.int .i64 0)] [(0, 1, (.t 7)), (1, 1, (.t 9)), (2, 1, (.t 11)), (3, 1, (.t 13))]⟩,
  ⟨(some 15), none, .faddr 1 (.t 3)⟩,
  ⟨(some 17), none, .faddr 2 (.t 3)⟩,
  ⟨(some 19), none, .faddr 3 (.t 3)⟩,
  ⟨(some 20), none, .load 1 false (.t 19)⟩,
  ⟨(some 21), none, .faddr 4 (.t 3)⟩,
  ⟨none, none, .store 4 (.t 4) (.t 14)⟩,
  ⟨(some 16), none, .load 1 false (.t 15)⟩,
  ⟨(some 18), none, .load 1 false (.t 17)⟩,
  ⟨(some 22), none, .load 1 false (.t 21)⟩,
  ⟨(some 23), none, .build [(.int .i64 0), (.int .i64 0), (.int .i64 0), (.int .i64 0)] [(0, 1, (.t 16)), (1, 1, (.t 18)), (2, 1, (.t 20)), (3, 1, (.t 22))]⟩,
  ⟨none, none, .store 4 (.t 5) (.t 23)⟩]
@[go_sem] def opcode_fields_r1_14 : List AI := [
  ⟨(some 6), none, .faddr 1 (.t 2)⟩,
  ⟨(some 7), none, .load 1 false (.t 6)⟩,
  ⟨(some 8), none, .faddr 2 (.t 2)⟩,
  ⟨(some 9), none, .load 1 false (.t 8)⟩,
  ⟨(some 10), none, .faddr 3 (.t 2)⟩,
  ⟨(some 11), none, .load 1 false (.t 10)⟩,
  ⟨(some 12), none, .faddr 4 (.t 2)⟩,
  ⟨(some 13), none, .load 1 false (.t 12)⟩,
  ⟨(some 14), none, .build [(.int .i64 0), (.int .i64 0), (.int .i64 0), (.int .i64 0)] [(0, 1, (.t 7)), (1, 1, (.t 9)), (2, 1, (.t 11)), (3, 1, (.t 13))]⟩,
  ⟨(some 15), none, .faddr 1 (.t 3)⟩,
  ⟨(some 17), none, .faddr 2 (.t 3)⟩,
  ⟨(some 19), none, .faddr 3 (.t 3)⟩,
  ⟨(some 21), none, .faddr 4 (.t 3)⟩,
  ⟨(some 22), none, .load 1 false (.t 21)⟩,
  ⟨none, none, .store 4 (.t 4) (.t 14)⟩,
  ⟨(some 16), none, .load 1 false (.t 15)⟩,
  ⟨(some 18), none, .load 1 false (.t 17)⟩,
  ⟨(some 20), none, .load 1 false (.t 19)⟩,
  ⟨(some 23), none, .build [(.int .i64 0), (.int .i64 0), (.int .i64 0), (.int .i64 0)] [(0, 1, (.t 16)), (1, 1, (.t 18)), (2, 1, (.t 20)), (3, 1, (.t 22))]⟩,
  ⟨none, none, .store 4 (.t 5) (.t 23)⟩]
@[go_sem] def opcode_fields_r1_15 : List AI := [
  ⟨(some 6), none, .faddr 1 (.t 2)⟩,
  ⟨(some 7), none, .load 1 false (.t 6)⟩,
  ⟨(some 8), none, .faddr 2 (.t 2)⟩,
  ⟨(some 9), none, .load 1 false (.t 8)⟩,
  ⟨(some 10), none, .faddr 3 (.t 2)⟩,
  ⟨(some 11), none, .load 1 false (.t 10)⟩,
  ⟨(some 12), none, .faddr 4 (.t 2)⟩,
  ⟨(some 13), none, .load 1 false (.t 12)⟩,
  ⟨(some 14), none, .build [(.int .i64 0), (.int .i64 0), (.int .i64 0), (.int .i64 0)] [(0, 1, (.t 7)), (1, 1, (.t 9)), (2, 1, (.t 11)), (3, 1, (.t 13))]⟩,
  ⟨(some 15), none, .faddr 1 (.t 3)⟩,
  ⟨(some 17), none, .faddr 2 (.t 3)⟩,
  ⟨(some 19), none, .faddr 3 (.t 3)⟩,
  ⟨(some 21), none, .faddr 4 (.t 3)⟩,
  ⟨none, none, .store 4 (.t 4) (.t 14)⟩,
  ⟨(some 16), none, .load 1 false (.t 15)⟩,
  ⟨(some 18), none, .load 1 false (.t 17)⟩,
  ⟨(some 20), none, .load 1 false (.t 19)⟩,
  ⟨(some 22), none, .load 1 false (.t 21)⟩,
  ⟨(some 23), none, .build [(.int .i64 0), (.int .i64 0), (.int .i64 0), (.int .i64 0)] [(0, 1, (.t 16)), (1, 1, (.t 18)), (2, 1, (.t 20)), (3, 1, (.t 22))]⟩,
  ⟨none, none, .store 4 (.t 5) (.t 23)⟩]
@[go_sem] def opcode_fields_c : AC := .seq (.ops [opcode_fields_r0]) (.seq (.ops [opcode_fields_r1_0, opcode_fields_r1_1, opcode_fields_r1_2, opcode_fields_r1_3, opcode_fields_r1_4, opcode_fields_r1_5, opcode_fields_r1_6, opcode_fields_r1_7, opcode_fields_r1_8, opcode_fields_r1_9, opcode_fields_r1_10, opcode_fields_r1_11, opcode_fields_r1_12, opcode_fields_r1_13, opcode_fields_r1_14, opcode_fields_r1_15]) (.ret))
theorem opcode_fields_ok : compF Tryd.prog 70 = some (24, opcode_fields_c, [.c 4 4 true, .c 5 4 true]) := by kernel_rfl

@[go_sem] def opcode_between_r0 : List AI := [
  ⟨(some 2), none, .mov (.c (.int .i64 0))⟩,
  ⟨(some 3), none, .mov (.c (.int .i64 0))⟩]
@[go_sem] def opcode_between_r1 : List AI := [
  ⟨(some 4), none, .mov (.t 0)⟩]
@[go_sem] def opcode_between_r2 : List AI := [
  ⟨(some 6), none, .bin .eql (.t 4) (.c (.int .i64 1))⟩,
  ⟨(some 5), none, .mov (.t 6)⟩]
@[go_sem] def opcode_between_r3 : List AI := [
  ⟨(some 2), none, .mov (.c (.int .i64 0))⟩,
  ⟨(some 3), none, .mov (.c (.int .i64 4095))⟩]
@[go_sem] def opcode_between_r4 : List AI := [
  ⟨(some 8), none, .bin .eql (.t 4) (.c (.int .i64 2))⟩,
  ⟨(some 7), none, .mov (.t 8)⟩]
@[go_sem] def opcode_between_r5 : List AI := [
  ⟨(some 2), none, .mov (.c (.int .i64 0))⟩,
  ⟨(some 3), none, .mov (.c (.int .i64 4095))⟩]
@[go_sem] def opcode_between_r6 : List AI := [
  ⟨(some 10), none, .bin .eql (.t 4) (.c (.int .i64 3))⟩,
  ⟨(some 9), none, .mov (.t 10)⟩]
@[go_sem] def opcode_between_r7 : List AI := [
  ⟨(some 2), none, .mov (.c (.int .i64 0))⟩,
  ⟨(some 3), none, .mov (.c (.int .i64 59))⟩]
@[go_sem] def opcode_between_r8 : List AI := [
  ⟨(some 12), none, .bin .eql (.t 4) (.c (.int .i64 4))⟩,
  ⟨(some 11), none, .mov (.t 12)⟩]
@[go_sem] def opcode_between_r9 : List AI := [
  ⟨(some 2), none, .mov (.c (.int .i64 0))⟩,
  ⟨(some 3), none, .mov (.c (.int .i64 1023))⟩]
@[go_sem] def opcode_between_r10 : List AI := [
  ⟨(some 14), none, .bin .eql (.t 4) (.c (.int .i64 5))⟩,
  ⟨(some 13), none, .mov (.t 14)⟩]
@[go_sem] def opcode_between_r11 : List AI := [
  ⟨(some 2), none, .mov (.c (.int .i64 0))⟩,
  ⟨(some 3), none, .mov (.c (.int .i64 16383))⟩]
@[go_sem] def opcode_between_r12 : List AI := [
  ⟨(some 16), none, .bin .eql (.t 4) (.c (.int .i64 6))⟩,
  ⟨(some 15), none, .mov (.t 16)⟩]
@[go_sem] def opcode_between_r13 : List AI := [
  ⟨(some 2), none, .mov (.c (.int .i64 (-1)))⟩,
  ⟨(some 3), none, .mov (.c (.int .i64 200))⟩]
@[go_sem] def opcode_between_r14 : List AI := [
  ⟨(some 18), none, .bin .eql (.t 4) (.c (.int .i64 7))⟩,
  ⟨(some 17), none, .mov (.t 18)⟩]
@[go_sem] def opcode_between_r15 : List AI := [
  ⟨(some 2), none, .mov (.c (.int .i64 (-1)))⟩,
  ⟨(some 3), none, .mov (.c (.int .i64 4096))⟩]
@[go_sem] def opcode_between_r16 : List AI := [
  ⟨(some 20), none, .bin .eql (.t 4) (.c (.int .i64 8))⟩,
  ⟨(some 19), none, .mov (.t 20)⟩]
@[go_sem] def opcode_between_r17 : List AI := [
  ⟨(some 2), none, .mov (.c (.int .i64 0))⟩,
  ⟨(some 3), none, .mov (.c (.int .i64 1))⟩]
@[go_sem] def opcode_between_r18 : List AI := [
  ⟨(some 22), none, .bin .eql (.t 4) (.c (.int .i64 9))⟩,
  ⟨(some 21), none, .mov (.t 22)⟩]
@[go_sem] def opcode_between_r19 : List AI := [
  ⟨(some 2), none, .mov (.c (.int .i64 20))⟩,
  ⟨(some 3), none, .mov (.c (.int .i64 23))⟩]
@[go_sem] def opcode_between_r20 : List AI := [
  ⟨(some 24), none, .bin .eql (.t 4) (.c (.int .i64 10))⟩,
  ⟨(some 23), none, .mov (.t 24)⟩]
@[go_sem] def opcode_between_r21 : List AI := [
  ⟨(some 2), none, .mov (.c (.int .i64 1))⟩,
  ⟨(some 3), none, .mov (.c (.int .i64 19))⟩]
@[go_sem] def opcode_between_r22 : List AI := [
  ⟨(some 26), none, .bin .eql (.t 4) (.c (.int .i64 11))⟩,
  ⟨(some 25), none, .mov (.t 26)⟩]
@[go_sem] def opcode_between_r23 : List AI := [
  ⟨(some 2), none, .mov (.c (.int .i64 1))⟩,
  ⟨(some 3), none, .mov (.c (.int .i64 200))⟩]
@[go_sem] def opcode_between_r24 : List AI := [
  ⟨(some 28), none, .bin .eql (.t 4) (.c (.int .i64 12))⟩,
  ⟨(some 27), none, .mov (.t 28)⟩]
@[go_sem] def opcode_between_r25 : List AI := [
  ⟨(some 2), none, .mov (.c (.int .i64 1))⟩,
  ⟨(some 3), none, .mov (.c (.int .i64 32767))⟩]
@[go_sem] def opcode_between_r26 : List AI := [
  ⟨(some 2), none, .mov (.c (.int .i64 0))⟩,
  ⟨(some 3), none, .mov (.c (.int .i64 0))⟩]
@[go_sem] def opcode_between_c : AC := .seq (.ops [opcode_between_r0]) (.seq (.seq (.ops [opcode_between_r1]) (.block 0 (.seq (.ops [opcode_between_r2]) (.cond (.t 5) (.seq (.ops [opcode_between_r3]) (.ret)) (.seq (.ops [opcode_between_r4]) (.cond (.t 7) (.seq (.ops [opcode_between_r5]) (.ret)) (.seq (.ops [opcode_between_r6]) (.cond (.t 9) (.seq (.ops [opcode_between_r7]) (.ret)) (.seq (.ops [opcode_between_r8]) (.cond (.t 11) (.seq (.ops [opcode_between_r9]) (.ret)) (.seq (.ops [opcode_between_r10]) (.cond (.t 13) (.seq (.ops [opcode_between_r11]) (.ret)) (.seq (.ops [opcode_between_r12]) (.cond (.t 15) (.seq (.ops [opcode_between_r13]) (.ret)) (.seq (.ops [opcode_between_r14]) (.cond (.t 17) (.seq (.ops [opcode_between_r15]) (.ret)) (.seq (.ops [opcode_between_r16]) (.cond (.t 19) (.seq (.ops [opcode_between_r17]) (.ret)) (.seq (.ops [opcode_between_r18]) (.cond (.t 21) (.seq (.ops [opcode_between_r19]) (.ret)) (.seq (.ops [opcode_between_r20]) (.cond (.t 23) (.seq (.ops [opcode_between_r21]) (.ret)) (.seq (.ops [opcode_between_r22]) (.cond (.t 25) (.seq (.ops [opcode_between_r23]) (.ret)) (.seq (.ops [opcode_between_r24]) (.cond (.t 27) (.seq (.ops [opcode_between_r25]) (.ret)) (.skip))))))))))))))))))))))))))) (.seq (.ops [opcode_between_r26]) (.ret)))
theorem opcode_between_ok : compF Tryd.prog 71 = some (29, opcode_between_c, [.t 2, .t 3]) := by kernel_rfl

@[go_sem] def opcode_last_r0 : List AI := [
  ⟨(some 2), none, .box 720002 6 (.t 0)⟩,
  ⟨(some 3), none, .box 720003 5 (.t 1)⟩,
  ⟨(some 4), none, .mov (.c (.int .i64 0))⟩]
@[go_sem] def opcode_last_r1 : List AI := [
  ⟨(some 6), none, .faddr 1 (.t 3)⟩,
  ⟨(some 7), none, .load 1 false (.t 6)⟩,
  ⟨(some 8), none, .faddr 5 (.t 2)⟩,
  ⟨(some 9), none, .load 1 false (.t 8)⟩,
  ⟨(some 10), none, .bin .add (.t 7) (.t 9)⟩,
  ⟨(some 5), none, .mov (.t 10)⟩]
@[go_sem] def opcode_last_r2 : List AI := [
  ⟨(some 11), none, .faddr 0 (.t 3)⟩,
  ⟨(some 12), none, .load 1 false (.t 11)⟩]
@[go_sem] def opcode_last_r3 : List AI := [
  ⟨(some 14), none, .bin .eql (.t 12) (.c (.int .i64 16))⟩,
  ⟨(some 13), none, .mov (.t 14)⟩]
@[go_sem] def opcode_last_r4 : List AI := [
  ⟨(some 15), none, .faddr 1 (.t 3)⟩,
  ⟨(some 16), none, .load 1 false (.t 15)⟩,
  ⟨(some 17), none, .faddr 2 (.t 3)⟩,
  ⟨(some 18), none, .load 1 false (.t 17)⟩,
  ⟨(some 19), none, .bin .add (.t 16) (.t 18)⟩,
  ⟨(some 20), none, .faddr 1 (.t 3)⟩,
  ⟨(some 21), none, .load 1 false (.t 20)⟩,
  ⟨(some 22), none, .faddr 3 (.t 3)⟩,
  ⟨(some 23), none, .load 1 false (.t 22)⟩,
  ⟨(some 24), none, .bin .add (.t 21) (.t 23)⟩,
  ⟨(some 25), none, .bin .sub (.t 24) (.c (.int .i64 1))⟩,
  ⟨(some 26), none, .mm true [(.t 19), (.t 25)]⟩,
  ⟨(some 5), none, .mov (.t 26)⟩]
@[go_sem] def opcode_last_r5 : List AI := [
  ⟨(some 28), none, .bin .eql (.t 12) (.c (.int .i64 17))⟩,
  ⟨(some 27), none, .mov (.t 28)⟩]
@[go_sem] def opcode_last_r6 : List AI := [
  ⟨(some 29), none, .bin .eql (.t 12) (.c (.int .i64 21))⟩,
  ⟨(some 27), none, .mov (.t 29)⟩]
@[go_sem] def opcode_last_r7 : List AI := [
  ⟨(some 30), none, .faddr 1 (.t 3)⟩,
  ⟨(some 31), none, .load 1 false (.t 30)⟩,
  ⟨(some 32), none, .faddr 2 (.t 3)⟩,
  ⟨(some 33), none, .load 1 false (.t 32)⟩,
  ⟨(some 34), none, .bin .add (.t 31) (.t 33)⟩,
  ⟨(some 5), none, .mov (.t 34)⟩]
@[go_sem] def opcode_last_r8 : List AI := [
  ⟨(some 36), none, .bin .eql (.t 12) (.c (.int .i64 18))⟩,
  ⟨(some 35), none, .mov (.t 36)⟩]
@[go_sem] def opcode_last_r9 : List AI := [
  ⟨(some 37), none, .bin .eql (.t 12) (.c (.int .i64 19))⟩,
  ⟨(some 35), none, .mov (.t 37)⟩]
@[go_sem] def opcode_last_r10 : List AI := [
  ⟨(some 38), none, .faddr 1 (.t 3)⟩,
  ⟨(some 39), none, .load 1 false (.t 38)⟩,
  ⟨(some 40), none, .faddr 2 (.t 3)⟩,
  ⟨(some 41), none, .load 1 false (.t 40)⟩,
  ⟨(some 42), none, .bin .add (.t 39) (.t 41)⟩,
  ⟨(some 43), none, .bin .sub (.t 42) (.c (.int .i64 1))⟩,
  ⟨(some 5), none, .mov (.t 43)⟩]
@[go_sem] def opcode_last_r11 : List AI := [
  ⟨(some 45), none, .bin .eql (.t 12) (.c (.int .i64 25))⟩,
  ⟨(some 44), none, .mov (.t 45)⟩]
@[go_sem] def opcode_last_r12 : List AI := [
  ⟨(some 46), none, .faddr 1 (.t 3)⟩,
  ⟨(some 47), none, .load 1 false (.t 46)⟩,
  ⟨(some 48), none, .bin .add (.t 47) (.c (.int .i64 2))⟩,
  ⟨(some 49), none, .faddr 3 (.t 3)⟩,
  ⟨(some 50), none, .load 1 false (.t 49)⟩,
  ⟨(some 51), none, .bin .add (.t 48) (.t 50)⟩,
  ⟨(some 5), none, .mov (.t 51)⟩]
@[go_sem] def opcode_last_r13 : List AI := [
  ⟨(some 52), none, .mov (.t 5)⟩,
  ⟨(some 4), none, .mov (.t 52)⟩]
@[go_sem] def opcode_last_c : AC := .seq (.ops [opcode_last_r0]) (.seq (.ops [opcode_last_r1]) (.seq (.seq (.ops [opcode_last_r2]) (.block 0 (.seq (.ops [opcode_last_r3]) (.cond (.t 13) (.ops [opcode_last_r4]) (.seq (.seq (.ops [opcode_last_r5]) (.cond (.t 27) (.skip) (.ops [opcode_last_r6]))) (.cond (.t 27) (.ops [opcode_last_r7]) (.seq (.seq (.ops [opcode_last_r8]) (.cond (.t 35) (.skip) (.ops [opcode_last_r9]))) (.cond (.t 35) (.ops [opcode_last_r10]) (.seq (.ops [opcode_last_r11]) (.cond (.t 44) (.ops [opcode_last_r12]) (.skip))))))))))) (.seq (.ops [opcode_last_r13]) (.ret))))
theorem opcode_last_ok : compF Tryd.prog 72 = some (53, opcode_last_c, [.t 4]) := by kernel_rfl

@[go_sem] def opcode_sorted_r0 : List AI := [
  ⟨(some 2), none, .mov (.c .nils)⟩]
@[go_sem] def opcode_sorted_r1 : List AI := [
  ⟨(some 3), none, .mov (.t 0)⟩,
  ⟨(some 4), none, .call 35 [(.t 3)]⟩]
@[go_sem] def opcode_sorted_r2 : List AI := [
  ⟨(some 5), none, .mov (.t 0)⟩,
  ⟨(some 6), none, .call 36 [(.t 5)]⟩,
  ⟨(some 2), none, .mov (.t 6)⟩]
@[go_sem] def opcode_sorted_c : AC := .seq (.ops [opcode_sorted_r0]) (.seq (.ops [opcode_sorted_r1]) (.seq (.ops [opcode_sorted_r2]) (.ret)))
theorem opcode_sorted_ok : compF Tryd.prog 73 = some (7, opcode_sorted_c, [.t 2]) := by kernel_rfl

@[go_sem] def opcode_span_r0 : List AI := [
  ⟨(some 4), none, .mov (.c .nils)⟩,
  ⟨(some 5), none, .mov (.c (.int .i64 0))⟩]
@[go_sem] def opcode_span_r1 : List AI := [
  ⟨(some 8), none, .mov (.t 1)⟩,
  ⟨(some 9), none, .bin .lss (.t 8) (.c (.int .i64 0))⟩]
@[go_sem] def opcode_span_r2 : List AI := [
  ⟨(some 10), none, .mov (.t 0)⟩,
  ⟨(some 4), none, .mov (.c .nils)⟩,
  ⟨(some 5), none, .mov (.t 10)⟩]
@[go_sem] def opcode_span_r3 : List AI := [
  ⟨(some 6), none, .mov (.c .nils)⟩]
@[go_sem] def opcode_span_r4 : List AI := [
  ⟨(some 11), none, .mov (.t 1)⟩,
  ⟨(some 12), none, .mov (.c (.int .i64 0))⟩]
@[go_sem] def opcode_span_r5 : List AI := [
  ⟨(some 13), none, .bin .lss (.t 12) (.t 11)⟩]
@[go_sem] def opcode_span_r6 : List AI := [
  ⟨(some 14), none, .mov (.t 12)⟩,
  ⟨(some 7), none, .mov (.t 14)⟩]
@[go_sem] def opcode_span_r7 : List AI := [
  ⟨(some 15), none, .mov (.t 6)⟩,
  ⟨(some 16), none, .mov (.t 0)⟩,
  ⟨(some 17), none, .mov (.t 7)⟩,
  ⟨(some 18), none, .bin .add (.t 16) (.t 17)⟩,
  ⟨(some 19), none, .mkisl 1 [(.t 18)]⟩,
  ⟨(some 20), none, .app 740020 1 (.t 15) (.t 19)⟩,
  ⟨(some 6), none, .mov (.t 20)⟩]
@[go_sem] def opcode_span_r8 : List AI := [
  ⟨(some 21), none, .bin .add (.t 12) (.c (.int .i64 1))⟩,
  ⟨(some 12), none, .mov (.t 21)⟩]
def opcode_span_l0 : AC := .seq (.ops [opcode_span_r5]) (.seq (.cond (.t 13) (.skip) (.exit 0)) (.seq (.block 1 (.seq (.ops [opcode_span_r6]) (.ops [opcode_span_r7]))) (.ops [opcode_span_r8])))
theorem opcode_span_l0_eq : opcode_span_l0 = .seq (.ops [opcode_span_r5]) (.seq (.cond (.t 13) (.skip) (.exit 0)) (.seq (.block 1 (.seq (.ops [opcode_span_r6]) (.ops [opcode_span_r7]))) (.ops [opcode_span_r8]))) := rfl
@[go_sem] def opcode_span_r9 : List AI := [
  ⟨(some 22), none, .mov (.t 6)⟩,
  ⟨(some 4), none, .mov (.t 22)⟩,
  ⟨(some 5), none, .mov (.c (.int .i64 (-1)))⟩]
@[go_sem] def opcode_span_c : AC := .seq (.ops [opcode_span_r0]) (.seq (.seq (.ops [opcode_span_r1]) (.cond (.t 9) (.seq (.ops [opcode_span_r2]) (.ret)) (.skip))) (.seq (.ops [opcode_span_r3]) (.seq (.seq (.ops [opcode_span_r4]) (.block 0 (.loop opcode_span_l0))) (.seq (.ops [opcode_span_r9]) (.ret)))))
theorem opcode_span_ok : compF Tryd.prog 74 = some (23, opcode_span_c, [.t 4, .t 5]) := by kernel_rfl

@[go_sem] def proto_within_1_r0 : List AI := [
  ⟨(some 3), none, .mov (.c (.bool false))⟩]
@[go_sem] def proto_within_1_r1 : List AI := [
  ⟨(some 4), none, .mov (.t 0)⟩,
  ⟨(some 5), none, .faddr 4 (.t 1)⟩,
  ⟨(some 6), none, .load 1 false (.t 5)⟩,
  ⟨(some 7), none, .bin .geq (.t 4) (.t 6)⟩,
  ⟨(some 3), none, .mov (.t 7)⟩]
@[go_sem] def proto_within_1_c : AC := .seq (.ops [proto_within_1_r0]) (.seq (.ops [proto_within_1_r1]) (.ret))
theorem proto_within_1_ok : compF Tryd.prog 75 = some (8, proto_within_1_c, [.t 3]) := by kernel_rfl

@[go_sem] def proto_constant_r0 : List AI := [
  ⟨(some 1), none, .box 760001 5 (.t 0)⟩,
  ⟨(some 2), none, .mov (.c (.int .i64 0))⟩,
  ⟨(some 3), none, .mov (.c (.bool false))⟩]
@[go_sem] def proto_constant_r1 : List AI := [
  ⟨(some 4), none, .faddr 0 (.t 1)⟩,
  ⟨(some 5), none, .load 1 false (.t 4)⟩]
@[go_sem] def proto_constant_r2 : List AI := [
  ⟨(some 7), none, .bin .eql (.t 5) (.c (.int .i64 2))⟩,
  ⟨(some 6), none, .mov (.t 7)⟩]
@[go_sem] def proto_constant_r3 : List AI := [
  ⟨(some 8), none, .faddr 2 (.t 1)⟩,
  ⟨(some 9), none, .load 1 false (.t 8)⟩,
  ⟨(some 2), none, .mov (.t 9)⟩,
  ⟨(some 3), none, .mov (.c (.bool false))⟩]
@[go_sem] def proto_constant_r4 : List AI := [
  ⟨(some 11), none, .bin .eql (.t 5) (.c (.int .i64 7))⟩,
  ⟨(some 10), none, .mov (.t 11)⟩]
@[go_sem] def proto_constant_r5 : List AI := [
  ⟨(some 12), none, .faddr 2 (.t 1)⟩,
  ⟨(some 13), none, .load 1 false (.t 12)⟩,
  ⟨(some 2), none, .mov (.t 13)⟩,
  ⟨(some 3), none, .mov (.c (.bool true))⟩]
@[go_sem] def proto_constant_r6 : List AI := [
  ⟨(some 15), none, .bin .eql (.t 5) (.c (.int .i64 8))⟩,
  ⟨(some 14), none, .mov (.t 15)⟩]
@[go_sem] def proto_constant_r7 : List AI := [
  ⟨(some 16), none, .faddr 1 (.t 1)⟩,
  ⟨(some 17), none, .load 1 false (.t 16)⟩,
  ⟨(some 2), none, .mov (.t 17)⟩,
  ⟨(some 3), none, .mov (.c (.bool true))⟩]
@[go_sem] def proto_constant_r8 : List AI := [
  ⟨(some 19), none, .bin .eql (.t 5) (.c (.int .i64 11))⟩,
  ⟨(some 18), none, .mov (.t 19)⟩]
@[go_sem] def proto_constant_r9 : List AI := [
  ⟨(some 20), none, .faddr 3 (.t 1)⟩,
  ⟨(some 21), none, .load 1 false (.t 20)⟩,
  ⟨(some 2), none, .mov (.t 21)⟩,
  ⟨(some 3), none, .mov (.c (.bool true))⟩]
@[go_sem] def proto_constant_r10 : List AI := [
  ⟨(some 2), none, .mov (.c (.int .i64 (-1)))⟩,
  ⟨(some 3), none, .mov (.c (.bool false))⟩]
@[go_sem] def proto_constant_c : AC := .seq (.ops [proto_constant_r0]) (.seq (.seq (.ops [proto_constant_r1]) (.block 0 (.seq (.ops [proto_constant_r2]) (.cond (.t 6) (.seq (.ops [proto_constant_r3]) (.ret)) (.seq (.ops [proto_constant_r4]) (.cond (.t 10) (.seq (.ops [proto_constant_r5]) (.ret)) (.seq (.ops [proto_constant_r6]) (.cond (.t 14) (.seq (.ops [proto_constant_r7]) (.ret)) (.seq (.ops [proto_constant_r8]) (.cond (.t 18) (.seq (.ops [proto_constant_r9]) (.ret)) (.skip))))))))))) (.seq (.ops [proto_constant_r10]) (.ret)))
theorem proto_constant_ok : compF Tryd.prog 76 = some (22, proto_constant_c, [.t 2, .t 3]) := by kernel_rfl

@[go_sem] def slices_insertionSortOrdered_int_r0 : List AI := [
  ⟨(some 8), none, .mov (.t 1)⟩,
  ⟨(some 9), none, .bin .add (.t 8) (.c (.int .i64 1))⟩,
  ⟨(some 6), none, .mov (.t 9)⟩]
@[go_sem] def slices_insertionSortOrdered_int_r1 : List AI := [
  ⟨(some 10), none, .mov (.t 6)⟩,
  ⟨(some 11), none, .mov (.t 2)⟩,
  ⟨(some 12), none, .bin .lss (.t 10) (.t 11)⟩]
@[go_sem] def slices_insertionSortOrdered_int_r2 : List AI := [
  ⟨(some 15), none, .mov (.t 6)⟩,
  ⟨(some 7), none, .mov (.t 15)⟩]
@[go_sem] def slices_insertionSortOrdered_int_r3 : List AI := [
  ⟨(some 16), none, .mov (.t 7)⟩,
  ⟨(some 17), none, .mov (.t 1)⟩,
  ⟨(some 18), none, .bin .gtr (.t 16) (.t 17)⟩,
  ⟨(some 19), none, .mov (.t 18)⟩,
  ⟨(some 20), (some (19, true)), .mov (.t 0)⟩,
  ⟨(some 21), (some (19, true)), .mov (.t 7)⟩,
  ⟨(some 22), (some (19, true)), .iaddr 1 (.t 20) (.t 21)⟩,
  ⟨(some 23), (some (19, true)), .load 1 false (.t 22)⟩,
  ⟨(some 24), (some (19, true)), .mov (.t 0)⟩,
  ⟨(some 25), (some (19, true)), .mov (.t 7)⟩,
  ⟨(some 26), (some (19, true)), .bin .sub (.t 25) (.c (.int .i64 1))⟩,
  ⟨(some 27), (some (19, true)), .iaddr 1 (.t 24) (.t 26)⟩,
  ⟨(some 28), (some (19, true)), .load 1 false (.t 27)⟩,
  ⟨(some 29), (some (19, true)), .call 83 [(.t 23), (.t 28)]⟩,
  ⟨(some 30), none, .pick (.t 19) (.t 29) (.c (.bool false))⟩]
@[go_sem] def slices_insertionSortOrdered_int_r4 : List AI := [
  ⟨(some 33), none, .mov (.t 0)⟩,
  ⟨(some 34), none, .mov (.t 7)⟩,
  ⟨(some 35), none, .mov (.t 0)⟩,
  ⟨(some 36), none, .mov (.t 7)⟩,
  ⟨(some 37), none, .bin .sub (.t 36) (.c (.int .i64 1))⟩,
  ⟨(some 38), none, .mov (.t 0)⟩,
  ⟨(some 39), none, .mov (.t 7)⟩,
  ⟨(some 40), none, .bin .sub (.t 39) (.c (.int .i64 1))⟩,
  ⟨(some 41), none, .iaddr 1 (.t 38) (.t 40)⟩,
  ⟨(some 42), none, .load 1 false (.t 41)⟩,
  ⟨(some 43), none, .mov (.t 0)⟩,
  ⟨(some 44), none, .mov (.t 7)⟩,
  ⟨(some 45), none, .iaddr 1 (.t 43) (.t 44)⟩,
  ⟨(some 46), none, .load 1 false (.t 45)⟩,
  ⟨(some 47), none, .iaddr 1 (.t 33) (.t 34)⟩,
  ⟨none, none, .store 1 (.t 47) (.t 42)⟩,
  ⟨(some 48), none, .iaddr 1 (.t 35) (.t 37)⟩,
  ⟨none, none, .store 1 (.t 48) (.t 46)⟩]
@[go_sem] def slices_insertionSortOrdered_int_r5 : List AI := [
  ⟨(some 31), none, .mov (.t 7)⟩,
  ⟨(some 32), none, .bin .sub (.t 31) (.c (.int .i64 1))⟩,
  ⟨(some 7), none, .mov (.t 32)⟩]
def slices_insertionSortOrdered_int_l1 : AC := .seq (.seq (.ops [slices_insertionSortOrdered_int_r3]) (.cond (.t 30) (.skip) (.exit 2))) (.seq (.block 3 (.ops [slices_insertionSortOrdered_int_r4])) (.ops [slices_insertionSortOrdered_int_r5]))
theorem slices_insertionSortOrdered_int_l1_eq : slices_insertionSortOrdered_int_l1 = .seq (.seq (.ops [slices_insertionSortOrdered_int_r3]) (.cond (.t 30) (.skip) (.exit 2))) (.seq (.block 3 (.ops [slices_insertionSortOrdered_int_r4])) (.ops [slices_insertionSortOrdered_int_r5])) := rfl
@[go_sem] def slices_insertionSortOrdered_int_r6 : List AI := [
  ⟨(some 13), none, .mov (.t 6)⟩,
  ⟨(some 14), none, .bin .add (.t 13) (.c (.int .i64 1))⟩,
  ⟨(some 6), none, .mov (.t 14)⟩]
def slices_insertionSortOrdered_int_l0 : AC := .seq (.seq (.ops [slices_insertionSortOrdered_int_r1]) (.cond (.t 12) (.skip) (.exit 0))) (.seq (.block 1 (.seq (.ops [slices_insertionSortOrdered_int_r2]) (.block 2 (.loop slices_insertionSortOrdered_int_l1)))) (.ops [slices_insertionSortOrdered_int_r6]))
theorem slices_insertionSortOrdered_int_l0_eq : slices_insertionSortOrdered_int_l0 = .seq (.seq (.ops [slices_insertionSortOrdered_int_r1]) (.cond (.t 12) (.skip) (.exit 0))) (.seq (.block 1 (.seq (.ops [slices_insertionSortOrdered_int_r2]) (.block 2 (.loop slices_insertionSortOrdered_int_l1)))) (.ops [slices_insertionSortOrdered_int_r6])) := rfl
@[go_sem] def slices_insertionSortOrdered_int_c : AC := .seq (.ops [slices_insertionSortOrdered_int_r0]) (.block 0 (.loop slices_insertionSortOrdered_int_l0))
theorem slices_insertionSortOrdered_int_ok : compF Tryd.prog 77 = some (49, slices_insertionSortOrdered_int_c, []) := by kernel_rfl

@[go_sem] def cmp_Less_int_r0 : List AI := [
  ⟨(some 4), none, .mov (.c (.bool false))⟩]
@[go_sem] def cmp_Less_int_r1 : List AI := [
  ⟨(some 5), none, .mov (.t 0)⟩,
  ⟨(some 6), none, .call 97 [(.t 5)]⟩,
  ⟨(some 7), none, .mov (.t 6)⟩,
  ⟨(some 8), (some (7, true)), .mov (.t 1)⟩,
  ⟨(some 9), (some (7, true)), .call 97 [(.t 8)]⟩,
  ⟨(some 10), (some (7, true)), .un .not (.t 9)⟩,
  ⟨(some 11), none, .pick (.t 7) (.t 10) (.c (.bool false))⟩,
  ⟨(some 12), none, .mov (.t 11)⟩,
  ⟨(some 13), (some (12, false)), .mov (.t 0)⟩,
  ⟨(some 14), (some (12, false)), .mov (.t 1)⟩,
  ⟨(some 15), (some (12, false)), .bin .lss (.t 13) (.t 14)⟩,
  ⟨(some 16), none, .pick (.t 12) (.c (.bool true)) (.t 15)⟩,
  ⟨(some 4), none, .mov (.t 16)⟩]
@[go_sem] def cmp_Less_int_c : AC := .seq (.ops [cmp_Less_int_r0]) (.seq (.ops [cmp_Less_int_r1]) (.ret))
theorem cmp_Less_int_ok : compF Tryd.prog 83 = some (17, cmp_Less_int_c, [.t 4]) := by kernel_rfl

@[go_sem] def math_bits_Len32_r0 : List AI := [
  ⟨(some 2), none, .mov (.c (.int .i64 0))⟩]
@[go_sem] def math_bits_Len32_r1 : List AI := [
  ⟨(some 3), none, .mov (.t 0)⟩,
  ⟨(some 4), none, .bin .geq (.t 3) (.c (.int .u32 65536))⟩]
@[go_sem] def math_bits_Len32_r2 : List AI := [
  ⟨(some 5), none, .mov (.t 0)⟩,
  ⟨(some 6), none, .sh false (.t 5) (.c (.int .u64 16))⟩,
  ⟨(some 0), none, .mov (.t 6)⟩]
@[go_sem] def math_bits_Len32_r3 : List AI := [
  ⟨(some 2), none, .mov (.c (.int .i64 16))⟩]
@[go_sem] def math_bits_Len32_r4 : List AI := [
  ⟨(some 7), none, .mov (.t 0)⟩,
  ⟨(some 8), none, .bin .geq (.t 7) (.c (.int .u32 256))⟩]
@[go_sem] def math_bits_Len32_r5 : List AI := [
  ⟨(some 9), none, .mov (.t 0)⟩,
  ⟨(some 10), none, .sh false (.t 9) (.c (.int .u64 8))⟩,
  ⟨(some 0), none, .mov (.t 10)⟩]
@[go_sem] def math_bits_Len32_r6 : List AI := [
  ⟨(some 11), none, .mov (.t 2)⟩,
  ⟨(some 12), none, .bin .add (.t 11) (.c (.int .i64 8))⟩,
  ⟨(some 2), none, .mov (.t 12)⟩]
@[go_sem] def math_bits_Len32_r7 : List AI := [
  ⟨(some 13), none, .mov (.t 2)⟩,
  ⟨(some 14), none, .mov (.t 0)⟩,
  ⟨(some 15), none, .conv .u8 (.t 14)⟩,
  ⟨(some 16), none, .idx (.c (.str [0, 1, 2, 2, 3, 3, 3, 3, 4, 4, 4, 4, 4, 4, 4, 4, 5, 5, 5, 5, 5, 5, 5, 5, 5, 5, 5, 5, 5, 5, 5, 5, 6, 6, 6, 6, 6, 6, 6, 6, 6, 6, 6, 6, 6, 6, 6, 6, 6, 6, 6, 6, 6, 6, 6, 6, 6, 6, 6, 6, 6, 6, 6, 6, 7, 7, 7, 7, 7, 7, 7, 7, 7, 7, 7, 7, 7, 7, 7, 7, 7, 7, 7, 7, 7, 7, 7, 7, 7, 7, 7, 7, 7, 7, 7, 7, 7, 7, 7, 7, 7, 7, 7, 7, 7, 7, 7, 7, 7, 7, 7, 7, 7, 7, 7, 7, 7, 7, 7, 7, 7, 7, 7, 7, 7, 7, 7, 7, 8, 8, 8, 8, 8, 8, 8, 8, 8, 8, 8, 8, 8, 8, 8, 8, 8, 8, 8, 8, 8, 8, 8, 8, 8, 8, 8, 8, 8, 8, 8, 8, 8, 8, 8, 8, 8, 8, 8, 8, 8, 8, 8, 8, 8, 8, 8, 8, 8, 8, 8, 8, 8, 8, 8, 8, 8, 8, 8, 8, 8, 8, 8, 8, 8, 8, 8, 8, 8, 8, 8, 8, 8, 8, 8, 8, 8, 8, 8, 8, 8, 8, 8, 8, 8, 8, 8, 8, 8, 8, 8, 8, 8, 8, 8, 8, 8, 8, 8, 8, 8, 8, 8, 8, 8, 8, 8, 8, 8, 8, 8, 8, 8, 8, 8, 8, 8, 8, 8, 8, 8, 8, 8, 8, 8, 8, 8, 8])) (.t 15)⟩,
  ⟨(some 17), none, .conv .i64 (.t 16)⟩,
  ⟨(some 18), none, .bin .add (.t 13) (.t 17)⟩,
  ⟨(some 2), none, .mov (.t 18)⟩]
@[go_sem] def math_bits_Len32_c : AC := .seq (.ops [math_bits_Len32_r0]) (.seq (.seq (.ops [math_bits_Len32_r1]) (.cond (.t 4) (.seq (.ops [math_bits_Len32_r2]) (.ops [math_bits_Len32_r3])) (.skip))) (.seq (.seq (.ops [math_bits_Len32_r4]) (.cond (.t 8) (.seq (.ops [math_bits_Len32_r5]) (.ops [math_bits_Len32_r6])) (.skip))) (.seq (.ops [math_bits_Len32_r7]) (.ret))))
theorem math_bits_Len32_ok : compF Tryd.prog 86 = some (19, math_bits_Len32_c, [.t 2]) := by kernel_rfl

@[go_sem] def math_bits_Len64_r0 : List AI := [
  ⟨(some 2), none, .mov (.c (.int .i64 0))⟩]
@[go_sem] def math_bits_Len64_r1 : List AI := [
  ⟨(some 3), none, .mov (.t 0)⟩,
  ⟨(some 4), none, .bin .geq (.t 3) (.c (.int .u64 4294967296))⟩]
@[go_sem] def math_bits_Len64_r2 : List AI := [
  ⟨(some 5), none, .mov (.t 0)⟩,
  ⟨(some 6), none, .sh false (.t 5) (.c (.int .u64 32))⟩,
  ⟨(some 0), none, .mov (.t 6)⟩]
@[go_sem] def math_bits_Len64_r3 : List AI := [
  ⟨(some 2), none, .mov (.c (.int .i64 32))⟩]
@[go_sem] def math_bits_Len64_r4 : List AI := [
  ⟨(some 7), none, .mov (.t 0)⟩,
  ⟨(some 8), none, .bin .geq (.t 7) (.c (.int .u64 65536))⟩]
@[go_sem] def math_bits_Len64_r5 : List AI := [
  ⟨(some 9), none, .mov (.t 0)⟩,
  ⟨(some 10), none, .sh false (.t 9) (.c (.int .u64 16))⟩,
  ⟨(some 0), none, .mov (.t 10)⟩]
@[go_sem] def math_bits_Len64_r6 : List AI := [
  ⟨(some 11), none, .mov (.t 2)⟩,
  ⟨(some 12), none, .bin .add (.t 11) (.c (.int .i64 16))⟩,
  ⟨(some 2), none, .mov (.t 12)⟩]
@[go_sem] def math_bits_Len64_r7 : List AI := [
  ⟨(some 13), none, .mov (.t 0)⟩,
  ⟨(some 14), none, .bin .geq (.t 13) (.c (.int .u64 256))⟩]
@[go_sem] def math_bits_Len64_r8 : List AI := [
  ⟨(some 15), none, .mov (.t 0)⟩,
  ⟨(some 16), none, .sh false (.t 15) (.c (.int .u64 8))⟩,
  ⟨(some 0), none, .mov (.t 16)⟩]
@[go_sem] def math_bits_Len64_r9 : List AI := [
  ⟨(some 17), none, .mov (.t 2)⟩,
  ⟨(some 18), none, .bin .add (.t 17) (.c (.int .i64 8))⟩,
  ⟨(some 2), none, .mov (.t 18)⟩]
@[go_sem] def math_bits_Len64_r10 : List AI := [
  ⟨(some 19), none, .mov (.t 2)⟩,
  ⟨(some 20), none, .mov (.t 0)⟩,
  ⟨(some 21), none, .conv .u8 (.t 20)⟩,
  ⟨(some 22), none, .idx (.c (.str [0, 1, 2, 2, 3, 3, 3, 3, 4, 4, 4, 4, 4, 4, 4, 4, 5, 5, 5, 5, 5, 5, 5, 5, 5, 5, 5, 5, 5, 5, 5, 5, 6, 6, 6, 6, 6, 6, 6, 6, 6, 6, 6, 6, 6, 6, 6, 6, 6, 6, 6, 6, 6, 6, 6, 6, 6, 6, 6, 6, 6, 6, 6, 6, 7, 7, 7, 7, 7, 7, 7, 7, 7, 7, 7, 7, 7, 7, 7, 7, 7, 7, 7, 7, 7, 7, 7, 7, 7, 7, 7, 7, 7, 7, 7, 7, 7, 7, 7, 7, 7, 7, 7, 7, 7, 7, 7, 7, 7, 7, 7, 7, 7, 7, 7, 7, 7, 7, 7, 7, 7, 7, 7, 7, 7, 7, 7, 7, 8, 8, 8, 8, 8, 8, 8, 8, 8, 8, 8, 8, 8, 8, 8, 8, 8, 8, 8, 8, 8, 8, 8, 8, 8, 8, 8, 8, 8, 8, 8, 8, 8, 8, 8, 8, 8, 8, 8, 8, 8, 8, 8, 8, 8, 8, 8, 8, 8, 8, 8, 8, 8, 8, 8, 8, 8, 8, 8, 8, 8, 8, 8, 8, 8, 8, 8, 8, 8, 8, 8, 8, 8, 8, 8, 8, 8, 8, 8, 8, 8, 8, 8, 8, 8, 8, 8, 8, 8, 8, 8, 8, 8, 8, 8, 8, 8, 8, 8, 8, 8, 8, 8, 8, 8, 8, 8, 8, 8, 8, 8, 8, 8, 8, 8, 8, 8, 8, 8, 8, 8, 8, 8, 8, 8, 8, 8, 8])) (.t 21)⟩,
  ⟨(some 23), none, .conv .i64 (.t 22)⟩,
  ⟨(some 24), none, .bin .add (.t 19) (.t 23)⟩,
  ⟨(some 2), none, .mov (.t 24)⟩]
@[go_sem] def math_bits_Len64_c : AC := .seq (.ops [math_bits_Len64_r0]) (.seq (.seq (.ops [math_bits_Len64_r1]) (.cond (.t 4) (.seq (.ops [math_bits_Len64_r2]) (.ops [math_bits_Len64_r3])) (.skip))) (.seq (.seq (.ops [math_bits_Len64_r4]) (.cond (.t 8) (.seq (.ops [math_bits_Len64_r5]) (.ops [math_bits_Len64_r6])) (.skip))) (.seq (.seq (.ops [math_bits_Len64_r7]) (.cond (.t 14) (.seq (.ops [math_bits_Len64_r8]) (.ops [math_bits_Len64_r9])) (.skip))) (.seq (.ops [math_bits_Len64_r10]) (.ret)))))
theorem math_bits_Len64_ok : compF Tryd.prog 87 = some (25, math_bits_Len64_c, [.t 2]) := by kernel_rfl

@[go_sem] def verify_reads_1_r0 : List AI := [
  ⟨(some 3), none, .mov (.c (.bool false))⟩]
@[go_sem] def verify_reads_1_r1 : List AI := [
  ⟨(some 4), none, .faddr 0 (.t 1)⟩,
  ⟨(some 5), none, .load 1 false (.t 4)⟩,
  ⟨(some 6), none, .mov (.t 0)⟩,
  ⟨(some 7), none, .iaddr 1 (.t 5) (.t 6)⟩,
  ⟨(some 8), none, .load 1 false (.t 7)⟩,
  ⟨(some 9), none, .un .not (.t 8)⟩,
  ⟨(some 3), none, .mov (.t 9)⟩]
@[go_sem] def verify_reads_1_c : AC := .seq (.ops [verify_reads_1_r0]) (.seq (.ops [verify_reads_1_r1]) (.ret))
theorem verify_reads_1_ok : compF Tryd.prog 88 = some (10, verify_reads_1_c, [.t 3]) := by kernel_rfl

@[go_sem] def rational_gcd_r0 : List AI := [
  ⟨(some 4), none, .mov (.c (.int .i64 0))⟩]
@[go_sem] def rational_gcd_r1 : List AI := [
  ⟨(some 5), none, .mov (.t 1)⟩,
  ⟨(some 6), none, .bin .neq (.t 5) (.c (.int .i64 0))⟩]
@[go_sem] def rational_gcd_r2 : List AI := [
  ⟨(some 7), none, .mov (.t 1)⟩,
  ⟨(some 8), none, .mov (.t 0)⟩,
  ⟨(some 9), none, .mov (.t 1)⟩,
  ⟨(some 10), none, .bin .rem (.t 8) (.t 9)⟩,
  ⟨(some 0), none, .mov (.t 7)⟩,
  ⟨(some 1), none, .mov (.t 10)⟩]
def rational_gcd_l0 : AC := .seq (.seq (.ops [rational_gcd_r1]) (.cond (.t 6) (.skip) (.exit 0))) (.block 1 (.ops [rational_gcd_r2]))
theorem rational_gcd_l0_eq : rational_gcd_l0 = .seq (.seq (.ops [rational_gcd_r1]) (.cond (.t 6) (.skip) (.exit 0))) (.block 1 (.ops [rational_gcd_r2])) := rfl
@[go_sem] def rational_gcd_r3 : List AI := [
  ⟨(some 11), none, .mov (.t 0)⟩,
  ⟨(some 4), none, .mov (.t 11)⟩]
@[go_sem] def rational_gcd_c : AC := .seq (.ops [rational_gcd_r0]) (.seq (.block 0 (.loop rational_gcd_l0)) (.seq (.ops [rational_gcd_r3]) (.ret)))
theorem rational_gcd_ok : compF Tryd.prog 89 = some (12, rational_gcd_c, [.t 4]) := by kernel_rfl

@[go_sem] def strings_Fields_r0 : List AI := [
  ⟨(some 2), none, .mov (.c .nils)⟩]
@[go_sem] def strings_Fields_r1 : List AI := [
  ⟨(some 3), none, .mov (.c (.int .i64 0))⟩]
@[go_sem] def strings_Fields_r2 : List AI := [
  ⟨(some 4), none, .mov (.c (.int .i64 1))⟩]
@[go_sem] def strings_Fields_r3 : List AI := [
  ⟨(some 5), none, .mov (.c (.int .u8 0))⟩]
@[go_sem] def strings_Fields_r4 : List AI := [
  ⟨(some 6), none, .mov (.c (.int .i64 0))⟩]
@[go_sem] def strings_Fields_r5 : List AI := [
  ⟨(some 13), none, .mov (.t 6)⟩,
  ⟨(some 14), none, .mov (.t 0)⟩,
  ⟨(some 15), none, .len 1 (.t 14)⟩,
  ⟨(some 16), none, .bin .lss (.t 13) (.t 15)⟩]
@[go_sem] def strings_Fields_r6 : List AI := [
  ⟨(some 19), none, .mov (.t 0)⟩,
  ⟨(some 20), none, .mov (.t 6)⟩,
  ⟨(some 21), none, .idx (.t 19) (.t 20)⟩,
  ⟨(some 7), none, .mov (.t 21)⟩]
@[go_sem] def strings_Fields_r7 : List AI := [
  ⟨(some 22), none, .mov (.t 5)⟩,
  ⟨(some 23), none, .mov (.t 7)⟩,
  ⟨(some 24), none, .bin .or (.t 22) (.t 23)⟩,
  ⟨(some 5), none, .mov (.t 24)⟩]
@[go_sem] def strings_Fields_r8 : List AI := [
  ⟨(some 25), none, .mov (.t 7)⟩,
  ⟨(some 26), none, .iaddrA 256 1 (.g 0) (.t 25)⟩,
  ⟨(some 27), none, .load 1 false (.t 26)⟩,
  ⟨(some 28), none, .conv .i64 (.t 27)⟩,
  ⟨(some 8), none, .mov (.t 28)⟩]
@[go_sem] def strings_Fields_r9 : List AI := [
  ⟨(some 29), none, .mov (.t 3)⟩,
  ⟨(some 30), none, .mov (.t 4)⟩,
  ⟨(some 31), none, .mov (.t 8)⟩,
  ⟨(some 32), none, .un .xor (.t 31)⟩,
  ⟨(some 33), none, .bin .and (.t 30) (.t 32)⟩,
  ⟨(some 34), none, .bin .add (.t 29) (.t 33)⟩,
  ⟨(some 3), none, .mov (.t 34)⟩]
@[go_sem] def strings_Fields_r10 : List AI := [
  ⟨(some 35), none, .mov (.t 8)⟩,
  ⟨(some 4), none, .mov (.t 35)⟩]
@[go_sem] def strings_Fields_r11 : List AI := [
  ⟨(some 17), none, .mov (.t 6)⟩,
  ⟨(some 18), none, .bin .add (.t 17) (.c (.int .i64 1))⟩,
  ⟨(some 6), none, .mov (.t 18)⟩]
def strings_Fields_l0 : AC := .seq (.seq (.ops [strings_Fields_r5]) (.cond (.t 16) (.skip) (.exit 0))) (.seq (.block 1 (.seq (.ops [strings_Fields_r6]) (.seq (.ops [strings_Fields_r7]) (.seq (.ops [strings_Fields_r8]) (.seq (.ops [strings_Fields_r9]) (.ops [strings_Fields_r10])))))) (.ops [strings_Fields_r11]))
theorem strings_Fields_l0_eq : strings_Fields_l0 = .seq (.seq (.ops [strings_Fields_r5]) (.cond (.t 16) (.skip) (.exit 0))) (.seq (.block 1 (.seq (.ops [strings_Fields_r6]) (.seq (.ops [strings_Fields_r7]) (.seq (.ops [strings_Fields_r8]) (.seq (.ops [strings_Fields_r9]) (.ops [strings_Fields_r10])))))) (.ops [strings_Fields_r11])) := rfl
@[go_sem] def strings_Fields_r12 : List AI := [
  ⟨(some 36), none, .mov (.t 5)⟩,
  ⟨(some 37), none, .bin .geq (.t 36) (.c (.int .u8 128))⟩]
@[go_sem] def strings_Fields_r13 : List AI := [
  ⟨(some 38), none, .mov (.t 0)⟩,
  ⟨(some 39), none, .call 98 [(.t 38), (.f 99)]⟩,
  ⟨(some 2), none, .mov (.t 39)⟩]
@[go_sem] def strings_Fields_r14 : List AI := [
  ⟨(some 40), none, .mov (.t 3)⟩,
  ⟨(some 41), none, .mksl 900041 [(.str [])] (.t 40)⟩,
  ⟨(some 9), none, .mov (.t 41)⟩]
@[go_sem] def strings_Fields_r15 : List AI := [
  ⟨(some 10), none, .mov (.c (.int .i64 0))⟩]
@[go_sem] def strings_Fields_r16 : List AI := [
  ⟨(some 11), none, .mov (.c (.int .i64 0))⟩]
@[go_sem] def strings_Fields_r17 : List AI := [
  ⟨(some 12), none, .mov (.c (.int .i64 0))⟩]
@[go_sem] def strings_Fields_r18 : List AI := [
  ⟨(some 42), none, .mov (.t 12)⟩,
  ⟨(some 43), none, .mov (.t 0)⟩,
  ⟨(some 44), none, .len 1 (.t 43)⟩,
  ⟨(some 45), none, .bin .lss (.t 42) (.t 44)⟩,
  ⟨(some 46), none, .mov (.t 45)⟩,
  ⟨(some 47), (some (46, true)), .mov (.t 0)⟩,
  ⟨(some 48), (some (46, true)), .mov (.t 12)⟩,
  ⟨(some 49), (some (46, true)), .idx (.t 47) (.t 48)⟩,
  ⟨(some 50), (some (46, true)), .iaddrA 256 1 (.g 0) (.t 49)⟩,
  ⟨(some 51), (some (46, true)), .load 1 false (.t 50)⟩,
  ⟨(some 52), (some (46, true)), .bin .neq (.t 51) (.c (.int .u8 0))⟩,
  ⟨(some 53), none, .pick (.t 46) (.t 52) (.c (.bool false))⟩]
@[go_sem] def strings_Fields_r19 : List AI := [
  ⟨(some 54), none, .mov (.t 12)⟩,
  ⟨(some 55), none, .bin .add (.t 54) (.c (.int .i64 1))⟩,
  ⟨(some 12), none, .mov (.t 55)⟩]
def strings_Fields_l1 : AC := .seq (.seq (.ops [strings_Fields_r18]) (.cond (.t 53) (.skip) (.exit 2))) (.block 3 (.ops [strings_Fields_r19]))
theorem strings_Fields_l1_eq : strings_Fields_l1 = .seq (.seq (.ops [strings_Fields_r18]) (.cond (.t 53) (.skip) (.exit 2))) (.block 3 (.ops [strings_Fields_r19])) := rfl
@[go_sem] def strings_Fields_r20 : List AI := [
  ⟨(some 56), none, .mov (.t 12)⟩,
  ⟨(some 11), none, .mov (.t 56)⟩]
@[go_sem] def strings_Fields_r21 : List AI := [
  ⟨(some 57), none, .mov (.t 12)⟩,
  ⟨(some 58), none, .mov (.t 0)⟩,
  ⟨(some 59), none, .len 1 (.t 58)⟩,
  ⟨(some 60), none, .bin .lss (.t 57) (.t 59)⟩]
@[go_sem] def strings_Fields_r22 : List AI := [
  ⟨(some 61), none, .mov (.t 0)⟩,
  ⟨(some 62), none, .mov (.t 12)⟩,
  ⟨(some 63), none, .idx (.t 61) (.t 62)⟩,
  ⟨(some 64), none, .iaddrA 256 1 (.g 0) (.t 63)⟩,
  ⟨(some 65), none, .load 1 false (.t 64)⟩,
  ⟨(some 66), none, .bin .eql (.t 65) (.c (.int .u8 0))⟩]
@[go_sem] def strings_Fields_r23 : List AI := [
  ⟨(some 67), none, .mov (.t 12)⟩,
  ⟨(some 68), none, .bin .add (.t 67) (.c (.int .i64 1))⟩,
  ⟨(some 12), none, .mov (.t 68)⟩]
@[go_sem] def strings_Fields_r24 : List AI := [
  ⟨(some 69), none, .mov (.t 9)⟩,
  ⟨(some 70), none, .mov (.t 10)⟩,
  ⟨(some 71), none, .mov (.t 0)⟩,
  ⟨(some 72), none, .mov (.t 11)⟩,
  ⟨(some 73), none, .mov (.t 12)⟩,
  ⟨(some 74), none, .sls (.t 71) (some (.t 72)) (some (.t 73))⟩,
  ⟨(some 75), none, .iaddr 1 (.t 69) (.t 70)⟩,
  ⟨none, none, .store 1 (.t 75) (.t 74)⟩]
@[go_sem] def strings_Fields_r25 : List AI := [
  ⟨(some 76), none, .mov (.t 10)⟩,
  ⟨(some 77), none, .bin .add (.t 76) (.c (.int .i64 1))⟩,
  ⟨(some 10), none, .mov (.t 77)⟩]
@[go_sem] def strings_Fields_r26 : List AI := [
  ⟨(some 78), none, .mov (.t 12)⟩,
  ⟨(some 79), none, .bin .add (.t 78) (.c (.int .i64 1))⟩,
  ⟨(some 12), none, .mov (.t 79)⟩]
@[go_sem] def strings_Fields_r27 : List AI := [
  ⟨(some 80), none, .mov (.t 12)⟩,
  ⟨(some 81), none, .mov (.t 0)⟩,
  ⟨(some 82), none, .len 1 (.t 81)⟩,
  ⟨(some 83), none, .bin .lss (.t 80) (.t 82)⟩,
  ⟨(some 84), none, .mov (.t 83)⟩,
  ⟨(some 85), (some (84, true)), .mov (.t 0)⟩,
  ⟨(some 86), (some (84, true)), .mov (.t 12)⟩,
  ⟨(some 87), (some (84, true)), .idx (.t 85) (.t 86)⟩,
  ⟨(some 88), (some (84, true)), .iaddrA 256 1 (.g 0) (.t 87)⟩,
  ⟨(some 89), (some (84, true)), .load 1 false (.t 88)⟩,
  ⟨(some 90), (some (84, true)), .bin .neq (.t 89) (.c (.int .u8 0))⟩,
  ⟨(some 91), none, .pick (.t 84) (.t 90) (.c (.bool false))⟩]
@[go_sem] def strings_Fields_r28 : List AI := [
  ⟨(some 92), none, .mov (.t 12)⟩,
  ⟨(some 93), none, .bin .add (.t 92) (.c (.int .i64 1))⟩,
  ⟨(some 12), none, .mov (.t 93)⟩]
def strings_Fields_l3 : AC := .seq (.seq (.ops [strings_Fields_r27]) (.cond (.t 91) (.skip) (.exit 6))) (.block 7 (.ops [strings_Fields_r28]))
theorem strings_Fields_l3_eq : strings_Fields_l3 = .seq (.seq (.ops [strings_Fields_r27]) (.cond (.t 91) (.skip) (.exit 6))) (.block 7 (.ops [strings_Fields_r28])) := rfl
@[go_sem] def strings_Fields_r29 : List AI := [
  ⟨(some 94), none, .mov (.t 12)⟩,
  ⟨(some 11), none, .mov (.t 94)⟩]
def strings_Fields_l2 : AC := .seq (.seq (.ops [strings_Fields_r21]) (.cond (.t 60) (.skip) (.exit 4))) (.block 5 (.seq (.seq (.ops [strings_Fields_r22]) (.cond (.t 66) (.seq (.ops [strings_Fields_r23]) (.exit 5)) (.skip))) (.seq (.ops [strings_Fields_r24]) (.seq (.ops [strings_Fields_r25]) (.seq (.ops [strings_Fields_r26]) (.seq (.block 6 (.loop strings_Fields_l3)) (.ops [strings_Fields_r29])))))))
theorem strings_Fields_l2_eq : strings_Fields_l2 = .seq (.seq (.ops [strings_Fields_r21]) (.cond (.t 60) (.skip) (.exit 4))) (.block 5 (.seq (.seq (.ops [strings_Fields_r22]) (.cond (.t 66) (.seq (.ops [strings_Fields_r23]) (.exit 5)) (.skip))) (.seq (.ops [strings_Fields_r24]) (.seq (.ops [strings_Fields_r25]) (.seq (.ops [strings_Fields_r26]) (.seq (.block 6 (.loop strings_Fields_l3)) (.ops [strings_Fields_r29]))))))) := rfl
@[go_sem] def strings_Fields_r30 : List AI := [
  ⟨(some 95), none, .mov (.t 11)⟩,
  ⟨(some 96), none, .mov (.t 0)⟩,
  ⟨(some 97), none, .len 1 (.t 96)⟩,
  ⟨(some 98), none, .bin .lss (.t 95) (.t 97)⟩]
@[go_sem] def strings_Fields_r31 : List AI := [
  ⟨(some 99), none, .mov (.t 9)⟩,
  ⟨(some 100), none, .mov (.t 10)⟩,
  ⟨(some 101), none, .mov (.t 0)⟩,
  ⟨(some 102), none, .mov (.t 11)⟩,
  ⟨(some 103), none, .sls (.t 101) (some (.t 102)) none⟩,
  ⟨(some 104), none, .iaddr 1 (.t 99) (.t 100)⟩,
  ⟨none, none, .store 1 (.t 104) (.t 103)⟩]
@[go_sem] def strings_Fields_r32 : List AI := [
  ⟨(some 105), none, .mov (.t 9)⟩,
  ⟨(some 2), none, .mov (.t 105)⟩]
@[go_sem] def strings_Fields_c : AC := .seq (.ops [strings_Fields_r0]) (.seq (.ops [strings_Fields_r1]) (.seq (.ops [strings_Fields_r2]) (.seq (.ops [strings_Fields_r3]) (.seq (.seq (.ops [strings_Fields_r4]) (.block 0 (.loop strings_Fields_l0))) (.seq (.seq (.ops [strings_Fields_r12]) (.cond (.t 37) (.seq (.ops [strings_Fields_r13]) (.ret)) (.skip))) (.seq (.ops [strings_Fields_r14]) (.seq (.ops [strings_Fields_r15]) (.seq (.ops [strings_Fields_r16]) (.seq (.ops [strings_Fields_r17]) (.seq (.block 2 (.loop strings_Fields_l1)) (.seq (.ops [strings_Fields_r20]) (.seq (.block 4 (.loop strings_Fields_l2)) (.seq (.seq (.ops [strings_Fields_r30]) (.cond (.t 98) (.ops [strings_Fields_r31]) (.skip))) (.seq (.ops [strings_Fields_r32]) (.ret)))))))))))))))
theorem strings_Fields_ok : compF Tryd.prog 90 = some (106, strings_Fields_c, [.t 2]) := by kernel_rfl

@[go_sem] def opcode_shape_r0 : List AI := [
  ⟨(some 2), none, .box 910002 6 (.c (.agg [(.str []), (.int .i64 0), (.int .i64 0), (.int .i64 0), (.int .i64 0), (.int .i64 0)]))⟩]
@[go_sem] def opcode_shape_r1 : List AI := [
  ⟨(some 3), none, .mov (.t 0)⟩]
@[go_sem] def opcode_shape_r2 : List AI := [
  ⟨(some 5), none, .bin .eql (.t 3) (.c (.int .i64 1))⟩,
  ⟨(some 4), none, .mov (.t 5)⟩]
@[go_sem] def opcode_shape_r3 : List AI := [
  ⟨(some 6), none, .build [(.str []), (.int .i64 0), (.int .i64 0), (.int .i64 0), (.int .i64 0), (.int .i64 0)] [(1, 1, (.c (.int .i64 1))), (2, 1, (.c (.int .i64 1)))]⟩,
  ⟨none, none, .store 6 (.t 2) (.t 6)⟩]
@[go_sem] def opcode_shape_r4 : List AI := [
  ⟨(some 8), none, .bin .eql (.t 3) (.c (.int .i64 2))⟩,
  ⟨(some 7), none, .mov (.t 8)⟩]
@[go_sem] def opcode_shape_r5 : List AI := [
  ⟨(some 9), none, .bin .eql (.t 3) (.c (.int .i64 7))⟩,
  ⟨(some 7), none, .mov (.t 9)⟩]
@[go_sem] def opcode_shape_r6 : List AI := [
  ⟨(some 10), none, .build [(.str []), (.int .i64 0), (.int .i64 0), (.int .i64 0), (.int .i64 0), (.int .i64 0)] [(1, 1, (.c (.int .i64 1))), (2, 1, (.c (.int .i64 2)))]⟩,
  ⟨none, none, .store 6 (.t 2) (.t 10)⟩]
@[go_sem] def opcode_shape_r7 : List AI := [
  ⟨(some 12), none, .bin .eql (.t 3) (.c (.int .i64 3))⟩,
  ⟨(some 11), none, .mov (.t 12)⟩]
@[go_sem] def opcode_shape_r8 : List AI := [
  ⟨(some 13), none, .build [(.str []), (.int .i64 0), (.int .i64 0), (.int .i64 0), (.int .i64 0), (.int .i64 0)] [(1, 1, (.c (.int .i64 1))), (2, 1, (.c (.int .i64 1)))]⟩,
  ⟨none, none, .store 6 (.t 2) (.t 13)⟩]
@[go_sem] def opcode_shape_r9 : List AI := [
  ⟨(some 15), none, .bin .eql (.t 3) (.c (.int .i64 4))⟩,
  ⟨(some 14), none, .mov (.t 15)⟩]
@[go_sem] def opcode_shape_r10 : List AI := [
  ⟨(some 16), none, .build [(.str []), (.int .i64 0), (.int .i64 0), (.int .i64 0), (.int .i64 0), (.int .i64 0)] [(1, 1, (.c (.int .i64 1))), (2, 1, (.c (.int .i64 8)))]⟩,
  ⟨none, none, .store 6 (.t 2) (.t 16)⟩]
@[go_sem] def opcode_shape_r11 : List AI := [
  ⟨(some 18), none, .bin .eql (.t 3) (.c (.int .i64 5))⟩,
  ⟨(some 17), none, .mov (.t 18)⟩]
@[go_sem] def opcode_shape_r12 : List AI := [
  ⟨(some 19), none, .build [(.str []), (.int .i64 0), (.int .i64 0), (.int .i64 0), (.int .i64 0), (.int .i64 0)] [(1, 1, (.c (.int .i64 1))), (2, 1, (.c (.int .i64 3)))]⟩,
  ⟨none, none, .store 6 (.t 2) (.t 19)⟩]
@[go_sem] def opcode_shape_r13 : List AI := [
  ⟨(some 21), none, .bin .eql (.t 3) (.c (.int .i64 6))⟩,
  ⟨(some 20), none, .mov (.t 21)⟩]
@[go_sem] def opcode_shape_r14 : List AI := [
  ⟨(some 22), none, .build [(.str []), (.int .i64 0), (.int .i64 0), (.int .i64 0), (.int .i64 0), (.int .i64 0)] [(1, 1, (.c (.int .i64 3))), (2, 1, (.c (.int .i64 1)))]⟩,
  ⟨none, none, .store 6 (.t 2) (.t 22)⟩]
@[go_sem] def opcode_shape_r15 : List AI := [
  ⟨(some 24), none, .bin .eql (.t 3) (.c (.int .i64 8))⟩,
  ⟨(some 23), none, .mov (.t 24)⟩]
@[go_sem] def opcode_shape_r16 : List AI := [
  ⟨(some 25), none, .build [(.str []), (.int .i64 0), (.int .i64 0), (.int .i64 0), (.int .i64 0), (.int .i64 0)] [(1, 1, (.c (.int .i64 2))), (2, 1, (.c (.int .i64 1)))]⟩,
  ⟨none, none, .store 6 (.t 2) (.t 25)⟩]
@[go_sem] def opcode_shape_r17 : List AI := [
  ⟨(some 27), none, .bin .eql (.t 3) (.c (.int .i64 9))⟩,
  ⟨(some 26), none, .mov (.t 27)⟩]
@[go_sem] def opcode_shape_r18 : List AI := [
  ⟨(some 28), none, .bin .eql (.t 3) (.c (.int .i64 10))⟩,
  ⟨(some 26), none, .mov (.t 28)⟩]
@[go_sem] def opcode_shape_r19 : List AI := [
  ⟨(some 29), none, .build [(.str []), (.int .i64 0), (.int .i64 0), (.int .i64 0), (.int .i64 0), (.int .i64 0)] [(1, 1, (.c (.int .i64 1))), (2, 1, (.c (.int .i64 1))), (3, 1, (.c (.int .i64 1)))]⟩,
  ⟨none, none, .store 6 (.t 2) (.t 29)⟩]
@[go_sem] def opcode_shape_r20 : List AI := [
  ⟨(some 31), none, .bin .eql (.t 3) (.c (.int .i64 11))⟩,
  ⟨(some 30), none, .mov (.t 31)⟩]
@[go_sem] def opcode_shape_r21 : List AI := [
  ⟨(some 32), none, .build [(.str []), (.int .i64 0), (.int .i64 0), (.int .i64 0), (.int .i64 0), (.int .i64 0)] [(1, 1, (.c (.int .i64 1))), (2, 1, (.c (.int .i64 1))), (3, 1, (.c (.int .i64 2))), (5, 1, (.c (.int .i64 1)))]⟩,
  ⟨none, none, .store 6 (.t 2) (.t 32)⟩]
@[go_sem] def opcode_shape_r22 : List AI := [
  ⟨(some 34), none, .bin .eql (.t 3) (.c (.int .i64 12))⟩,
  ⟨(some 33), none, .mov (.t 34)⟩]
@[go_sem] def opcode_shape_r23 : List AI := [
  ⟨(some 35), none, .build [(.str []), (.int .i64 0), (.int .i64 0), (.int .i64 0), (.int .i64 0), (.int .i64 0)] [(1, 1, (.c (.int .i64 1))), (2, 1, (.c (.int .i64 1))), (3, 1, (.c (.int .i64 9)))]⟩,
  ⟨none, none, .store 6 (.t 2) (.t 35)⟩]
@[go_sem] def opcode_shape_r24 : List AI := [
  ⟨(some 37), none, .bin .eql (.t 3) (.c (.int .i64 13))⟩,
  ⟨(some 36), none, .mov (.t 37)⟩]
@[go_sem] def opcode_shape_r25 : List AI := [
  ⟨(some 38), none, .build [(.str []), (.int .i64 0), (.int .i64 0), (.int .i64 0), (.int .i64 0), (.int .i64 0)] [(1, 1, (.c (.int .i64 1))), (2, 1, (.c (.int .i64 1))), (3, 1, (.c (.int .i64 1))), (4, 1, (.c (.int .i64 10)))]⟩,
  ⟨none, none, .store 6 (.t 2) (.t 38)⟩]
@[go_sem] def opcode_shape_r26 : List AI := [
  ⟨(some 40), none, .bin .eql (.t 3) (.c (.int .i64 14))⟩,
  ⟨(some 39), none, .mov (.t 40)⟩]
@[go_sem] def opcode_shape_r27 : List AI := [
  ⟨(some 41), none, .build [(.str []), (.int .i64 0), (.int .i64 0), (.int .i64 0), (.int .i64 0), (.int .i64 0)] [(2, 1, (.c (.int .i64 5)))]⟩,
  ⟨none, none, .store 6 (.t 2) (.t 41)⟩]
@[go_sem] def opcode_shape_r28 : List AI := [
  ⟨(some 43), none, .bin .eql (.t 3) (.c (.int .i64 15))⟩,
  ⟨(some 42), none, .mov (.t 43)⟩]
@[go_sem] def opcode_shape_r29 : List AI := [
  ⟨(some 44), none, .build [(.str []), (.int .i64 0), (.int .i64 0), (.int .i64 0), (.int .i64 0), (.int .i64 0)] [(1, 1, (.c (.int .i64 1))), (2, 1, (.c (.int .i64 5))), (3, 1, (.c (.int .i64 8)))]⟩,
  ⟨none, none, .store 6 (.t 2) (.t 44)⟩]
@[go_sem] def opcode_shape_r30 : List AI := [
  ⟨(some 46), none, .bin .eql (.t 3) (.c (.int .i64 16))⟩,
  ⟨(some 45), none, .mov (.t 46)⟩]
@[go_sem] def opcode_shape_r31 : List AI := [
  ⟨(some 47), none, .build [(.str []), (.int .i64 0), (.int .i64 0), (.int .i64 0), (.int .i64 0), (.int .i64 0)] [(1, 1, (.c (.int .i64 1))), (2, 1, (.c (.int .i64 7))), (3, 1, (.c (.int .i64 6)))]⟩,
  ⟨none, none, .store 6 (.t 2) (.t 47)⟩]
@[go_sem] def opcode_shape_r32 : List AI := [
  ⟨(some 49), none, .bin .eql (.t 3) (.c (.int .i64 17))⟩,
  ⟨(some 48), none, .mov (.t 49)⟩]
@[go_sem] def opcode_shape_r33 : List AI := [
  ⟨(some 50), none, .bin .eql (.t 3) (.c (.int .i64 18))⟩,
  ⟨(some 48), none, .mov (.t 50)⟩]
@[go_sem] def opcode_shape_r34 : List AI := [
  ⟨(some 51), none, .build [(.str []), (.int .i64 0), (.int .i64 0), (.int .i64 0), (.int .i64 0), (.int .i64 0)] [(1, 1, (.c (.int .i64 1))), (2, 1, (.c (.int .i64 7)))]⟩,
  ⟨none, none, .store 6 (.t 2) (.t 51)⟩]
@[go_sem] def opcode_shape_r35 : List AI := [
  ⟨(some 53), none, .bin .eql (.t 3) (.c (.int .i64 19))⟩,
  ⟨(some 52), none, .mov (.t 53)⟩]
@[go_sem] def opcode_shape_r36 : List AI := [
  ⟨(some 54), none, .build [(.str []), (.int .i64 0), (.int .i64 0), (.int .i64 0), (.int .i64 0), (.int .i64 0)] [(1, 1, (.c (.int .i64 1))), (2, 1, (.c (.int .i64 6)))]⟩,
  ⟨none, none, .store 6 (.t 2) (.t 54)⟩]
@[go_sem] def opcode_shape_r37 : List AI := [
  ⟨(some 56), none, .bin .eql (.t 3) (.c (.int .i64 21))⟩,
  ⟨(some 55), none, .mov (.t 56)⟩]
@[go_sem] def opcode_shape_r38 : List AI := [
  ⟨(some 57), none, .build [(.str []), (.int .i64 0), (.int .i64 0), (.int .i64 0), (.int .i64 0), (.int .i64 0)] [(1, 1, (.c (.int .i64 1))), (2, 1, (.c (.int .i64 7))), (3, 1, (.c (.int .i64 12)))]⟩,
  ⟨none, none, .store 6 (.t 2) (.t 57)⟩]
@[go_sem] def opcode_shape_r39 : List AI := [
  ⟨(some 59), none, .bin .eql (.t 3) (.c (.int .i64 22))⟩,
  ⟨(some 58), none, .mov (.t 59)⟩]
@[go_sem] def opcode_shape_r40 : List AI := [
  ⟨(some 60), none, .build [(.str []), (.int .i64 0), (.int .i64 0), (.int .i64 0), (.int .i64 0), (.int .i64 0)] [(1, 1, (.c (.int .i64 1))), (2, 1, (.c (.int .i64 4)))]⟩,
  ⟨none, none, .store 6 (.t 2) (.t 60)⟩]
@[go_sem] def opcode_shape_r41 : List AI := [
  ⟨(some 62), none, .bin .eql (.t 3) (.c (.int .i64 23))⟩,
  ⟨(some 61), none, .mov (.t 62)⟩]
@[go_sem] def opcode_shape_r42 : List AI := [
  ⟨(some 63), none, .bin .eql (.t 3) (.c (.int .i64 24))⟩,
  ⟨(some 61), none, .mov (.t 63)⟩]
@[go_sem] def opcode_shape_r43 : List AI := [
  ⟨(some 64), none, .bin .eql (.t 3) (.c (.int .i64 26))⟩,
  ⟨(some 61), none, .mov (.t 64)⟩]
@[go_sem] def opcode_shape_r44 : List AI := [
  ⟨(some 65), none, .build [(.str []), (.int .i64 0), (.int .i64 0), (.int .i64 0), (.int .i64 0), (.int .i64 0)] [(1, 1, (.c (.int .i64 1))), (2, 1, (.c (.int .i64 5))), (5, 1, (.c (.int .i64 3)))]⟩,
  ⟨none, none, .store 6 (.t 2) (.t 65)⟩]
@[go_sem] def opcode_shape_r45 : List AI := [
  ⟨(some 67), none, .bin .eql (.t 3) (.c (.int .i64 25))⟩,
  ⟨(some 66), none, .mov (.t 67)⟩]
@[go_sem] def opcode_shape_r46 : List AI := [
  ⟨(some 68), none, .build [(.str []), (.int .i64 0), (.int .i64 0), (.int .i64 0), (.int .i64 0), (.int .i64 0)] [(1, 1, (.c (.int .i64 1))), (3, 1, (.c (.int .i64 11))), (5, 1, (.c (.int .i64 3)))]⟩,
  ⟨none, none, .store 6 (.t 2) (.t 68)⟩]
@[go_sem] def opcode_shape_r47 : List AI := [
  ⟨(some 70), none, .bin .eql (.t 3) (.c (.int .i64 20))⟩,
  ⟨(some 69), none, .mov (.t 70)⟩]
@[go_sem] def opcode_shape_r48 : List AI := [
  ⟨(some 71), none, .bin .eql (.t 3) (.c (.int .i64 27))⟩,
  ⟨(some 69), none, .mov (.t 71)⟩]
@[go_sem] def opcode_shape_r49 : List AI := [
  ⟨(some 72), none, .bin .eql (.t 3) (.c (.int .i64 28))⟩,
  ⟨(some 69), none, .mov (.t 72)⟩]
@[go_sem] def opcode_shape_r50 : List AI := [
  ⟨(some 73), none, .build [(.str []), (.int .i64 0), (.int .i64 0), (.int .i64 0), (.int .i64 0), (.int .i64 0)] [(1, 1, (.c (.int .i64 1)))]⟩,
  ⟨none, none, .store 6 (.t 2) (.t 73)⟩]
@[go_sem] def opcode_shape_r51 : List AI := [
  ⟨(some 74), none, .build [(.str []), (.int .i64 0), (.int .i64 0), (.int .i64 0), (.int .i64 0), (.int .i64 0)] [(1, 1, (.c (.int .i64 8)))]⟩,
  ⟨none, none, .store 6 (.t 2) (.t 74)⟩]
@[go_sem] def opcode_shape_c : AC := .seq (.ops [opcode_shape_r0]) (.seq (.seq (.ops [opcode_shape_r1]) (.block 0 (.seq (.ops [opcode_shape_r2]) (.cond (.t 4) (.seq (.ops [opcode_shape_r3]) (.ret)) (.seq (.seq (.ops [opcode_shape_r4]) (.cond (.t 7) (.skip) (.ops [opcode_shape_r5]))) (.cond (.t 7) (.seq (.ops [opcode_shape_r6]) (.ret)) (.seq (.ops [opcode_shape_r7]) (.cond (.t 11) (.seq (.ops [opcode_shape_r8]) (.ret)) (.seq (.ops [opcode_shape_r9]) (.cond (.t 14) (.seq (.ops [opcode_shape_r10]) (.ret)) (.seq (.ops [opcode_shape_r11]) (.cond (.t 17) (.seq (.ops [opcode_shape_r12]) (.ret)) (.seq (.ops [opcode_shape_r13]) (.cond (.t 20) (.seq (.ops [opcode_shape_r14]) (.ret)) (.seq (.ops [opcode_shape_r15]) (.cond (.t 23) (.seq (.ops [opcode_shape_r16]) (.ret)) (.seq (.seq (.ops [opcode_shape_r17]) (.cond (.t 26) (.skip) (.ops [opcode_shape_r18]))) (.cond (.t 26) (.seq (.ops [opcode_shape_r19]) (.ret)) (.seq (.ops [opcode_shape_r20]) (.cond (.t 30) (.seq (.ops [opcode_shape_r21]) (.ret)) (.seq (.ops [opcode_shape_r22]) (.cond (.t 33) (.seq (.ops [opcode_shape_r23]) (.ret)) (.seq (.ops [opcode_shape_r24]) (.cond (.t 36) (.seq (.ops [opcode_shape_r25]) (.ret)) (.seq (.ops [opcode_shape_r26]) (.cond (.t 39) (.seq (.ops [opcode_shape_r27]) (.ret)) (.seq (.ops [opcode_shape_r28]) (.cond (.t 42) (.seq (.ops [opcode_shape_r29]) (.ret)) (.seq (.ops [opcode_shape_r30]) (.cond (.t 45) (.seq (.ops [opcode_shape_r31]) (.ret)) (.seq (.seq (.ops [opcode_shape_r32]) (.cond (.t 48) (.skip) (.ops [opcode_shape_r33]))) (.cond (.t 48) (.seq (.ops [opcode_shape_r34]) (.ret)) (.seq (.ops [opcode_shape_r35]) (.cond (.t 52) (.seq (.ops [opcode_shape_r36]) (.ret)) (.seq (.ops [opcode_shape_r37]) (.cond (.t 55) (.seq (.ops [opcode_shape_r38]) (.ret)) (.seq (.ops [opcode_shape_r39]) (.cond (.t 58) (.seq (.ops [opcode_shape_r40]) (.ret)) (.seq (.seq (.ops [opcode_shape_r41]) (.cond (.t 61) (.skip) (.seq (.ops [opcode_shape_r42]) (.cond (.t 61) (.skip) (.ops [opcode_shape_r43]))))) (.cond (.t 61) (.seq (.ops [opcode_shape_r44]) (.ret)) (.seq (.ops [opcode_shape_r45]) (.cond (.t 66) (.seq (.ops [opcode_shape_r46]) (.ret)) (.seq (.seq (.ops [opcode_shape_r47]) (.cond (.t 69) (.skip) (.seq (.ops [opcode_shape_r48]) (.cond (.t 69) (.skip) (.ops [opcode_shape_r49]))))) (.cond (.t 69) (.seq (.ops [opcode_shape_r50]) (.ret)) (.skip))))))))))))))))))))))))))))))))))))))))))))) (.seq (.ops [opcode_shape_r51]) (.ret)))
theorem opcode_shape_ok : compF Tryd.prog 91 = some (75, opcode_shape_c, [.c 2 6 true]) := by kernel_rfl

@[go_sem] def cmp_isNaN_int_r0 : List AI := [
  ⟨(some 2), none, .mov (.c (.bool false))⟩]
@[go_sem] def cmp_isNaN_int_r1 : List AI := [
  ⟨(some 3), none, .mov (.t 0)⟩,
  ⟨(some 4), none, .mov (.t 0)⟩,
  ⟨(some 5), none, .bin .neq (.t 3) (.t 4)⟩,
  ⟨(some 2), none, .mov (.t 5)⟩]
@[go_sem] def cmp_isNaN_int_c : AC := .seq (.ops [cmp_isNaN_int_r0]) (.seq (.ops [cmp_isNaN_int_r1]) (.ret))
theorem cmp_isNaN_int_ok : compF Tryd.prog 97 = some (6, cmp_isNaN_int_c, [.t 2]) := by kernel_rfl



/-- The functions by number. -/
def exT : List (FuncId × Nat × AC × List RV) := [
  (3, 34, scriptinglaw36_VerifyWithin_c, [.t 2]),
  (4, 91, scriptinglaw36_VerifyMarks_c, [.t 2]),
  (5, 10, scriptinglaw36_large_c, [.t 2]),
  (6, 13, verify_Check_c, [.t 2]),
  (7, 18, scriptinglaw36_lives_c, [.t 0]),
  (8, 44, scriptingref33_Each_c, [.t 2]),
  (9, 57, scriptingref33_Strip_c, [.c 2 11 true]),
  (10, 41, verify_States_c, [.t 2, .t 3]),
  (11, 51, scriptinglaw33_Large_c, [.t 2]),
  (12, 23, verify_Explain_c, [.t 2, .t 3, .t 4]),
  (13, 16, proto_Check_c, [.c 2 1 false]),
  (14, 56, verify_states_c, [.t 4]),
  (15, 30, verify_edges_c, [.t 2]),
  (16, 42, verify_search_c, [.t 4, .t 5, .t 6]),
  (17, 20, proto_depth_c, [.t 2]),
  (18, 4, proto_Each_c, [.t 2]),
  (19, 74, proto_single_c, [.t 2]),
  (20, 20, verify_entry_c, [.c 2 3 true]),
  (21, 67, verify_passed_c, [.c 6 3 true]),
  (22, 32, verify_join_c, [.t 4]),
  (23, 65, flow_Next_c, [.t 4]),
  (24, 21, verify_first_c, [.t 2]),
  (25, 8, slices_Clone_int_int_c, [.t 2]),
  (26, 7, proto_Each_1_c, []),
  (27, 23, proto_walk_c, [.t 4]),
  (28, 42, proto_copied_c, [.c 2 11 true]),
  (29, 53, proto_limits_c, [.t 2]),
  (30, 118, proto_form_c, [.t 2]),
  (31, 60, proto_instruction_c, [.t 4]),
  (32, 75, verify_effect_c, [.c 4 3 true]),
  (33, 14, opcode_Target_c, [.t 2, .t 3]),
  (34, 16, opcode_Falls_c, [.t 2]),
  (35, 11, slices_Sort_int_int_c, []),
  (36, 61, slices_Compact_int_int_c, [.t 2]),
  (37, 109, verify_violates_c, [.t 6]),
  (38, 8, slices_Clone_api_Instr_api_Instr_c, [.t 2]),
  (39, 8, slices_Clone_api_Value_api_Value_c, [.t 2]),
  (40, 8, slices_Clone_api_Up_api_Up_c, [.t 2]),
  (41, 8, slices_Clone_api_Var_api_Var_c, [.t 2]),
  (42, 6, proto_limits_1_c, [.t 2]),
  (43, 9, slices_ContainsFunc_api_Up_api_Up_c, [.t 4]),
  (44, 8, proto_limits_2_c, [.t 3]),
  (45, 9, slices_ContainsFunc_api_Var_api_Var_c, [.t 4]),
  (46, 8, proto_limits_3_c, [.t 3]),
  (47, 9, slices_ContainsFunc_int_int_c, [.t 4]),
  (48, 5, proto_form_1_c, [.t 2]),
  (49, 6, proto_form_2_c, [.t 2]),
  (50, 74, value_Valid_c, [.t 2]),
  (51, 85, opcode_Check_c, [.t 2]),
  (52, 88, opcode_Reads_c, [.t 2, .t 3]),
  (53, 92, opcode_Writes_c, [.t 2, .t 3]),
  (54, 17, proto_within_c, [.t 6]),
  (55, 63, proto_refers_c, [.t 4]),
  (56, 8, slices_Clone_bool_bool_c, [.t 2]),
  (57, 15, verify_unset_c, []),
  (58, 42, slices_DeleteFunc_int_int_c, [.t 4]),
  (59, 8, verify_effect_1_c, [.t 3]),
  (60, 134, slices_pdqsortOrdered_int_c, []),
  (61, 8, math_bits_Len_c, [.t 2]),
  (62, 71, verify_reads_c, [.t 6]),
  (63, 8, verify_violates_1_c, [.t 3]),
  (64, 26, slices_Equal_int_int_c, [.t 4]),
  (65, 19, slices_IndexFunc_api_Up_api_Up_c, [.t 4]),
  (66, 19, slices_IndexFunc_api_Var_api_Var_c, [.t 4]),
  (67, 19, slices_IndexFunc_int_int_c, [.t 4]),
  (68, 33, rational_Valid_c, [.t 2]),
  (69, 25, opcode_of_c, [.c 2 6 true, .t 3]),
  (70, 24, opcode_fields_c, [.c 4 4 true, .c 5 4 true]),
  (71, 29, opcode_between_c, [.t 2, .t 3]),
  (72, 53, opcode_last_c, [.t 4]),
  (73, 7, opcode_sorted_c, [.t 2]),
  (74, 23, opcode_span_c, [.t 4, .t 5]),
  (75, 8, proto_within_1_c, [.t 3]),
  (76, 22, proto_constant_c, [.t 2, .t 3]),
  (77, 49, slices_insertionSortOrdered_int_c, []),
  (83, 17, cmp_Less_int_c, [.t 4]),
  (86, 19, math_bits_Len32_c, [.t 2]),
  (87, 25, math_bits_Len64_c, [.t 2]),
  (88, 10, verify_reads_1_c, [.t 3]),
  (89, 12, rational_gcd_c, [.t 4]),
  (90, 106, strings_Fields_c, [.t 2]),
  (91, 75, opcode_shape_c, [.c 2 6 true]),
  (97, 6, cmp_isNaN_int_c, [.t 2])]
theorem exT_ok : TabOK Tryd.prog exT := 
  (TabOK.cons scriptinglaw36_VerifyWithin_ok 
  (TabOK.cons scriptinglaw36_VerifyMarks_ok 
  (TabOK.cons scriptinglaw36_large_ok 
  (TabOK.cons verify_Check_ok 
  (TabOK.cons scriptinglaw36_lives_ok 
  (TabOK.cons scriptingref33_Each_ok 
  (TabOK.cons scriptingref33_Strip_ok 
  (TabOK.cons verify_States_ok 
  (TabOK.cons scriptinglaw33_Large_ok 
  (TabOK.cons verify_Explain_ok 
  (TabOK.cons proto_Check_ok 
  (TabOK.cons verify_states_ok 
  (TabOK.cons verify_edges_ok 
  (TabOK.cons verify_search_ok 
  (TabOK.cons proto_depth_ok 
  (TabOK.cons proto_Each_ok 
  (TabOK.cons proto_single_ok 
  (TabOK.cons verify_entry_ok 
  (TabOK.cons verify_passed_ok 
  (TabOK.cons verify_join_ok 
  (TabOK.cons flow_Next_ok 
  (TabOK.cons verify_first_ok 
  (TabOK.cons slices_Clone_int_int_ok 
  (TabOK.cons proto_Each_1_ok 
  (TabOK.cons proto_walk_ok 
  (TabOK.cons proto_copied_ok 
  (TabOK.cons proto_limits_ok 
  (TabOK.cons proto_form_ok 
  (TabOK.cons proto_instruction_ok 
  (TabOK.cons verify_effect_ok 
  (TabOK.cons opcode_Target_ok 
  (TabOK.cons opcode_Falls_ok 
  (TabOK.cons slices_Sort_int_int_ok 
  (TabOK.cons slices_Compact_int_int_ok 
  (TabOK.cons verify_violates_ok 
  (TabOK.cons slices_Clone_api_Instr_api_Instr_ok 
  (TabOK.cons slices_Clone_api_Value_api_Value_ok 
  (TabOK.cons slices_Clone_api_Up_api_Up_ok 
  (TabOK.cons slices_Clone_api_Var_api_Var_ok 
  (TabOK.cons proto_limits_1_ok 
  (TabOK.cons slices_ContainsFunc_api_Up_api_Up_ok 
  (TabOK.cons proto_limits_2_ok 
  (TabOK.cons slices_ContainsFunc_api_Var_api_Var_ok 
  (TabOK.cons proto_limits_3_ok 
  (TabOK.cons slices_ContainsFunc_int_int_ok 
  (TabOK.cons proto_form_1_ok 
  (TabOK.cons proto_form_2_ok 
  (TabOK.cons value_Valid_ok 
  (TabOK.cons opcode_Check_ok 
  (TabOK.cons opcode_Reads_ok 
  (TabOK.cons opcode_Writes_ok 
  (TabOK.cons proto_within_ok 
  (TabOK.cons proto_refers_ok 
  (TabOK.cons slices_Clone_bool_bool_ok 
  (TabOK.cons verify_unset_ok 
  (TabOK.cons slices_DeleteFunc_int_int_ok 
  (TabOK.cons verify_effect_1_ok 
  (TabOK.cons slices_pdqsortOrdered_int_ok 
  (TabOK.cons math_bits_Len_ok 
  (TabOK.cons verify_reads_ok 
  (TabOK.cons verify_violates_1_ok 
  (TabOK.cons slices_Equal_int_int_ok 
  (TabOK.cons slices_IndexFunc_api_Up_api_Up_ok 
  (TabOK.cons slices_IndexFunc_api_Var_api_Var_ok 
  (TabOK.cons slices_IndexFunc_int_int_ok 
  (TabOK.cons rational_Valid_ok 
  (TabOK.cons opcode_of_ok 
  (TabOK.cons opcode_fields_ok 
  (TabOK.cons opcode_between_ok 
  (TabOK.cons opcode_last_ok 
  (TabOK.cons opcode_sorted_ok 
  (TabOK.cons opcode_span_ok 
  (TabOK.cons proto_within_1_ok 
  (TabOK.cons proto_constant_ok 
  (TabOK.cons slices_insertionSortOrdered_int_ok 
  (TabOK.cons cmp_Less_int_ok 
  (TabOK.cons math_bits_Len32_ok 
  (TabOK.cons math_bits_Len64_ok 
  (TabOK.cons verify_reads_1_ok 
  (TabOK.cons rational_gcd_ok 
  (TabOK.cons strings_Fields_ok 
  (TabOK.cons opcode_shape_ok 
  (TabOK.cons cmp_isNaN_int_ok TabOK.nil)))))))))))))))))))))))))))))))))))))))))))))))))))))))))))))))))))))))))))))))))))

end Go.Proofs.YtlfnbfllnlkaiaaDoor
