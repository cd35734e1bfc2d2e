/-
  The code of the functions that this seat reaches, translated into abstract code (printed by a program, each proved to be the translation). No condition.
-/
import Derived.Test.YtabdlpfhfmeppaaGreatDoorCodeB
import Derived.Test.YtabdlpfhfmeppaaGreatDoorChecked
set_option maxRecDepth 1000000
namespace Go.Proofs.YtabdlpfhfmeppaaGreatDoor
open Go.Abs
@[go_sem] def scriptingref32_put_l0' : AC := .seq (.seq (.ops [[.j 9 (.mov (.t 7)), .j 10 (.mov (.t 0)), .j 11 (.len 0 (.t 10)), .j 12 (.bin .lss (.t 9) (.t 11))]]) (.cond (.t 12) (.skip) (.exit 0))) (.seq (.block 1 (.seq (.seq (.ops [[.j 15 (.mov (.t 6)), .j 16 (.un .not (.t 15)), .j 17 (.mov (.t 16)), .k 18 17 true (.mov (.t 0)), .k 19 17 true (.mov (.t 7)), .k 20 17 true (.iaddr 1 (.t 18) (.t 19)), .k 21 17 true (.load 1 false (.t 20)), .k 22 17 true (.mov (.t 1)), .k 23 17 true (.bin .geq (.t 21) (.t 22)), .j 24 (.pick (.t 17) (.t 23) (.c (.bool false)))]]) (.cond (.t 24) (.seq (.ops [[.j 25 (.mov (.t 5)), .j 26 (.mov (.t 1)), .j 27 (.mkisl 1 [(.t 26)]), .j 28 (.app 1110028 1 (.t 25) (.t 27)), .j 5 (.mov (.t 28))]]) (.ops [[.j 6 (.mov (.c (.bool true)))]])) (.skip))) (.seq (.ops [[.j 29 (.mov (.t 0)), .j 30 (.mov (.t 7)), .j 31 (.iaddr 1 (.t 29) (.t 30)), .j 32 (.load 1 false (.t 31)), .j 33 (.mov (.t 1)), .j 34 (.bin .neq (.t 32) (.t 33))]]) (.cond (.t 34) (.ops [[.j 35 (.mov (.t 5)), .j 36 (.mov (.t 0)), .j 37 (.mov (.t 7)), .j 38 (.iaddr 1 (.t 36) (.t 37)), .j 39 (.load 1 false (.t 38)), .j 40 (.mkisl 1 [(.t 39)]), .j 41 (.app 1110041 1 (.t 35) (.t 40)), .j 5 (.mov (.t 41))]]) (.skip))))) (.ops [[.j 13 (.mov (.t 7)), .j 14 (.bin .add (.t 13) (.z 1)), .j 7 (.mov (.t 14))]]))
def scriptingref32_put_l0 : AC := scriptingref32_put_l0'
theorem scriptingref32_put_l0_eq : scriptingref32_put_l0 = scriptingref32_put_l0' := rfl
@[go_sem] def scriptingref32_put_c : AC := .seq (.ops [[.j 4 (.mov (.c .nils))]]) (.seq (.ops [[.j 8 (.mkrow 1110008 1 []), .j 5 (.mov (.t 8))]]) (.seq (.ops [[.j 6 (.mov (.c (.bool false)))]]) (.seq (.seq (.ops [[.j 7 (.mov (.z 0))]]) (.block 0 (.loop scriptingref32_put_l0))) (.seq (.seq (.ops [[.j 42 (.mov (.t 6)), .j 43 (.un .not (.t 42))]]) (.cond (.t 43) (.ops [[.j 44 (.mov (.t 5)), .j 45 (.mov (.t 1)), .j 46 (.mkisl 1 [(.t 45)]), .j 47 (.app 1110047 1 (.t 44) (.t 46)), .j 5 (.mov (.t 47))]]) (.skip))) (.seq (.ops [[.j 48 (.mov (.t 5)), .j 4 (.mov (.t 48))]]) (.ret))))))
theorem scriptingref32_put_ok : compF Tryz.prog 111 = some (49, scriptingref32_put_c, [.t 4]) := by kernel_rfl
@[go_sem] def scriptingref32_a_c : AC := .seq (.ops [[.j 4 (.box 1160004 13 (.c (.agg [(.str []), (.bool false), (.bool false), (.bool false), (.bool false), (.int .i64 0), (.int .i64 0), (.int .i64 0), (.int .i64 0), (.int .i64 0), (.int .i64 0), (.int .i64 0), (.int .i64 0)])))]]) (.seq (.ops [[.j 5 (.mov (.t 0)), .j 6 (.build [(.bool false), (.bool false), (.bool false), (.bool false)] [(0, 1, (.c (.bool true))), (1, 1, (.c (.bool false))), (2, 1, (.c (.bool false))), (3, 1, (.c (.bool false)))]), .j 7 (.mov (.t 1)), .j 8 (.build [(.int .i64 0), (.int .i64 0), (.int .i64 0), (.int .i64 0)] [(0, 1, (.t 7)), (1, 1, (.z 0)), (2, 1, (.z 0)), (3, 1, (.z 0))]), .j 9 (.build [(.str []), (.bool false), (.bool false), (.bool false), (.bool false), (.int .i64 0), (.int .i64 0), (.int .i64 0), (.int .i64 0), (.int .i64 0), (.int .i64 0), (.int .i64 0), (.int .i64 0)] [(0, 1, (.t 5)), (1, 4, (.t 6)), (9, 4, (.t 8))]), .e (.store 13 (.t 4) (.t 9))]]) (.ret))
theorem scriptingref32_a_ok : compF Tryz.prog 116 = some (10, scriptingref32_a_c, [.c 4 13 true]) := by kernel_rfl
@[go_sem] def scriptingref32_none_c : AC := .seq (.ops [[.j 2 (.box 1170002 13 (.c (.agg [(.str []), (.bool false), (.bool false), (.bool false), (.bool false), (.int .i64 0), (.int .i64 0), (.int .i64 0), (.int .i64 0), (.int .i64 0), (.int .i64 0), (.int .i64 0), (.int .i64 0)])))]]) (.seq (.ops [[.j 3 (.mov (.t 0)), .j 4 (.build [(.str []), (.bool false), (.bool false), (.bool false), (.bool false), (.int .i64 0), (.int .i64 0), (.int .i64 0), (.int .i64 0), (.int .i64 0), (.int .i64 0), (.int .i64 0), (.int .i64 0)] [(0, 1, (.t 3))]), .e (.store 13 (.t 2) (.t 4))]]) (.ret))
theorem scriptingref32_none_ok : compF Tryz.prog 117 = some (5, scriptingref32_none_c, [.c 2 13 true]) := by kernel_rfl
def exT : List (FuncId × Nat × AC × List RV) := [
  (3, 33, scriptinglaw40_DumpPuts_c, [.t 2]),
  (4, 11, scriptinglaw40_large_c, [.t 2]),
  (5, 78, scriptinglaw40_awake_c, [.t 0]),
  (6, 41, dump_Put_c, [.t 2, .t 3]),
  (7, 22, scriptingref40_Put_c, [.t 2, .t 3]),
  (8, 6, scriptingref33_Count_c, [.t 2]),
  (9, 23, scriptingref33_Size_c, [.t 2]),
  (10, 5, scriptinglaw40_small_c, [.c 0 11 true]),
  (11, 71, dump_Get_c, [.c 2 11 true, .t 3]),
  (12, 33, scriptingref33_Same_c, [.t 4]),
  (13, 19, dump_Sum_c, [.t 2]),
  (14, 16, proto_Check_c, [.c 2 1 false]),
  (15, 181, dump_writer_function_c, []),
  (16, 25, scriptingref33_Check_c, [.t 2]),
  (17, 187, scriptingref40_function_c, [.t 2]),
  (18, 20, scriptingref40_word_c, [.t 4]),
  (19, 20, scriptingref40_Sum_c, [.t 2]),
  (20, 44, scriptingref33_Each_c, [.t 2]),
  (21, 20, dump_decode_c, [.c 2 11 true, .c 3 1 false]),
  (22, 185, scriptingref33_one_c, [.t 4]),
  (23, 20, proto_depth_c, [.t 2]),
  (24, 4, proto_Each_c, [.t 2]),
  (25, 74, proto_single_c, [.t 2]),
  (26, 17, dump_writer_str_c, []),
  (27, 23, dump_writer_num_c, []),
  (28, 23, dump_writer_truth_c, []),
  (29, 43, dump_writer_value_c, []),
  (30, 33, scriptingref33_Depth_c, [.t 2]),
  (31, 83, scriptingref33_single_c, [.t 2]),
  (32, 10, scriptingref40_str_c, [.t 2]),
  (33, 20, scriptingref40_integers_c, [.t 2]),
  (34, 6, scriptingref40_truth_c, [.t 2]),
  (35, 38, scriptingref40_value_c, [.t 2]),
  (36, 19, dump_decode_1_c, []),
  (37, 119, dump_reader_function_c, [.c 4 11 true]),
  (38, 7, dump_reader_fail_c, []),
  (39, 7, proto_Each_1_c, []),
  (40, 23, proto_walk_c, [.t 4]),
  (41, 42, proto_copied_c, [.c 2 11 true]),
  (42, 53, proto_limits_c, [.t 2]),
  (43, 118, proto_form_c, [.t 2]),
  (44, 60, proto_instruction_c, [.t 4]),
  (45, 74, scriptingref33_limits_c, [.t 2]),
  (46, 151, scriptingref33_form_c, [.t 2]),
  (47, 62, scriptingref33_instr_c, [.t 4]),
  (48, 8, dump_reader_str_c, [.t 2]),
  (49, 24, dump_reader_num_c, [.t 2]),
  (50, 14, dump_reader_truth_c, [.t 2]),
  (51, 22, dump_reader_length_c, [.t 2]),
  (52, 37, dump_reader_value_c, [.c 2 5 true]),
  (53, 8, slices_Clone_api_Instr_api_Instr_c, [.t 2]),
  (54, 8, slices_Clone_int_int_c, [.t 2]),
  (55, 8, slices_Clone_api_Value_api_Value_c, [.t 2]),
  (56, 8, slices_Clone_api_Up_api_Up_c, [.t 2]),
  (57, 8, slices_Clone_api_Var_api_Var_c, [.t 2]),
  (58, 6, proto_limits_1_c, [.t 2]),
  (59, 9, slices_ContainsFunc_api_Up_api_Up_c, [.t 4]),
  (60, 8, proto_limits_2_c, [.t 3]),
  (61, 9, slices_ContainsFunc_api_Var_api_Var_c, [.t 4]),
  (62, 8, proto_limits_3_c, [.t 3]),
  (63, 9, slices_ContainsFunc_int_int_c, [.t 4]),
  (64, 5, proto_form_1_c, [.t 2]),
  (65, 6, proto_form_2_c, [.t 2]),
  (66, 74, value_Valid_c, [.t 2]),
  (67, 85, opcode_Check_c, [.t 2]),
  (68, 88, opcode_Reads_c, [.t 2, .t 3]),
  (69, 92, opcode_Writes_c, [.t 2, .t 3]),
  (70, 17, proto_within_c, [.t 6]),
  (71, 14, opcode_Target_c, [.t 2, .t 3]),
  (72, 63, proto_refers_c, [.t 4]),
  (73, 88, scriptingref11_Valid_c, [.t 2]),
  (74, 73, scriptingref32_Check_c, [.t 2]),
  (75, 90, scriptingref32_Reads_c, [.t 2, .t 3]),
  (76, 93, scriptingref32_Writes_c, [.t 2, .t 3]),
  (77, 23, scriptingref33_below_c, [.t 6]),
  (78, 14, scriptingref32_Target_c, [.t 2, .t 3]),
  (79, 61, scriptingref33_refers_c, [.t 4]),
  (80, 31, dump_reader_take_c, [.t 4]),
  (81, 19, slices_IndexFunc_api_Up_api_Up_c, [.t 4]),
  (82, 19, slices_IndexFunc_api_Var_api_Var_c, [.t 4]),
  (83, 19, slices_IndexFunc_int_int_c, [.t 4]),
  (84, 33, rational_Valid_c, [.t 2]),
  (85, 25, opcode_of_c, [.c 2 6 true, .t 3]),
  (86, 24, opcode_fields_c, [.c 4 4 true, .c 5 4 true]),
  (87, 29, opcode_between_c, [.t 2, .t 3]),
  (88, 53, opcode_last_c, [.t 4]),
  (89, 7, opcode_sorted_c, [.t 2]),
  (90, 23, opcode_span_c, [.t 4, .t 5]),
  (91, 8, proto_within_1_c, [.t 3]),
  (92, 22, proto_constant_c, [.t 2, .t 3]),
  (93, 30, scriptingref01_Valid_c, [.t 2]),
  (94, 65, scriptingref32_data_c, [.c 2 13 true]),
  (95, 12, scriptingref32_fields_c, [.c 2 4 true]),
  (96, 46, scriptingref32_limit_c, [.t 2]),
  (97, 19, scriptingref32_set_c, [.t 2]),
  (98, 16, scriptingref32_open_c, [.t 6, .t 7]),
  (99, 20, scriptingref32_span_c, [.t 6]),
  (100, 19, scriptingref33_text_c, [.t 4]),
  (101, 12, rational_gcd_c, [.t 4]),
  (102, 106, strings_Fields_c, [.t 2]),
  (103, 75, opcode_shape_c, [.c 2 6 true]),
  (104, 11, slices_Sort_int_int_c, []),
  (105, 61, slices_Compact_int_int_c, [.t 2]),
  (106, 12, scriptingref01_gcd_c, [.t 4]),
  (107, 8, scriptingref01_abs_c, [.t 2]),
  (108, 17, scriptingref32_ab_c, [.c 8 13 true]),
  (109, 23, scriptingref32_abc_c, [.c 8 13 true]),
  (110, 70, scriptingref32_later_c, [.c 2 13 true]),
  (111, 49, scriptingref32_put_c, [.t 4]),
  (116, 10, scriptingref32_a_c, [.c 4 13 true]),
  (117, 5, scriptingref32_none_c, [.c 2 13 true])]
theorem exT_ok : TabOK Tryz.prog exT := 
  (TabOK.cons scriptinglaw40_DumpPuts_ok 
  (TabOK.cons scriptinglaw40_large_ok 
  (TabOK.cons scriptinglaw40_awake_ok 
  (TabOK.cons dump_Put_ok 
  (TabOK.cons scriptingref40_Put_ok 
  (TabOK.cons scriptingref33_Count_ok 
  (TabOK.cons scriptingref33_Size_ok 
  (TabOK.cons scriptinglaw40_small_ok 
  (TabOK.cons dump_Get_ok 
  (TabOK.cons scriptingref33_Same_ok 
  (TabOK.cons dump_Sum_ok 
  (TabOK.cons proto_Check_ok 
  (TabOK.cons dump_writer_function_ok 
  (TabOK.cons scriptingref33_Check_ok 
  (TabOK.cons scriptingref40_function_ok 
  (TabOK.cons scriptingref40_word_ok 
  (TabOK.cons scriptingref40_Sum_ok 
  (TabOK.cons scriptingref33_Each_ok 
  (TabOK.cons dump_decode_ok 
  (TabOK.cons scriptingref33_one_ok 
  (TabOK.cons proto_depth_ok 
  (TabOK.cons proto_Each_ok 
  (TabOK.cons proto_single_ok 
  (TabOK.cons dump_writer_str_ok 
  (TabOK.cons dump_writer_num_ok 
  (TabOK.cons dump_writer_truth_ok 
  (TabOK.cons dump_writer_value_ok 
  (TabOK.cons scriptingref33_Depth_ok 
  (TabOK.cons scriptingref33_single_ok 
  (TabOK.cons scriptingref40_str_ok 
  (TabOK.cons scriptingref40_integers_ok 
  (TabOK.cons scriptingref40_truth_ok 
  (TabOK.cons scriptingref40_value_ok 
  (TabOK.cons dump_decode_1_ok 
  (TabOK.cons dump_reader_function_ok 
  (TabOK.cons dump_reader_fail_ok 
  (TabOK.cons proto_Each_1_ok 
  (TabOK.cons proto_walk_ok 
  (TabOK.cons proto_copied_ok 
  (TabOK.cons proto_limits_ok 
  (TabOK.cons proto_form_ok 
  (TabOK.cons proto_instruction_ok 
  (TabOK.cons scriptingref33_limits_ok 
  (TabOK.cons scriptingref33_form_ok 
  (TabOK.cons scriptingref33_instr_ok 
  (TabOK.cons dump_reader_str_ok 
  (TabOK.cons dump_reader_num_ok 
  (TabOK.cons dump_reader_truth_ok 
  (TabOK.cons dump_reader_length_ok 
  (TabOK.cons dump_reader_value_ok 
  (TabOK.cons slices_Clone_api_Instr_api_Instr_ok 
  (TabOK.cons slices_Clone_int_int_ok 
  (TabOK.cons slices_Clone_api_Value_api_Value_ok 
  (TabOK.cons slices_Clone_api_Up_api_Up_ok 
  (TabOK.cons slices_Clone_api_Var_api_Var_ok 
  (TabOK.cons proto_limits_1_ok 
  (TabOK.cons slices_ContainsFunc_api_Up_api_Up_ok 
  (TabOK.cons proto_limits_2_ok 
  (TabOK.cons slices_ContainsFunc_api_Var_api_Var_ok 
  (TabOK.cons proto_limits_3_ok 
  (TabOK.cons slices_ContainsFunc_int_int_ok 
  (TabOK.cons proto_form_1_ok 
  (TabOK.cons proto_form_2_ok 
  (TabOK.cons value_Valid_ok 
  (TabOK.cons opcode_Check_ok 
  (TabOK.cons opcode_Reads_ok 
  (TabOK.cons opcode_Writes_ok 
  (TabOK.cons proto_within_ok 
  (TabOK.cons opcode_Target_ok 
  (TabOK.cons proto_refers_ok 
  (TabOK.cons scriptingref11_Valid_ok 
  (TabOK.cons scriptingref32_Check_ok 
  (TabOK.cons scriptingref32_Reads_ok 
  (TabOK.cons scriptingref32_Writes_ok 
  (TabOK.cons scriptingref33_below_ok 
  (TabOK.cons scriptingref32_Target_ok 
  (TabOK.cons scriptingref33_refers_ok 
  (TabOK.cons dump_reader_take_ok 
  (TabOK.cons slices_IndexFunc_api_Up_api_Up_ok 
  (TabOK.cons slices_IndexFunc_api_Var_api_Var_ok 
  (TabOK.cons slices_IndexFunc_int_int_ok 
  (TabOK.cons rational_Valid_ok 
  (TabOK.cons opcode_of_ok 
  (TabOK.cons opcode_fields_ok 
  (TabOK.cons opcode_between_ok 
  (TabOK.cons opcode_last_ok 
  (TabOK.cons opcode_sorted_ok 
  (TabOK.cons opcode_span_ok 
  (TabOK.cons proto_within_1_ok 
  (TabOK.cons proto_constant_ok 
  (TabOK.cons scriptingref01_Valid_ok 
  (TabOK.cons scriptingref32_data_ok 
  (TabOK.cons scriptingref32_fields_ok 
  (TabOK.cons scriptingref32_limit_ok 
  (TabOK.cons scriptingref32_set_ok 
  (TabOK.cons scriptingref32_open_ok 
  (TabOK.cons scriptingref32_span_ok 
  (TabOK.cons scriptingref33_text_ok 
  (TabOK.cons rational_gcd_ok 
  (TabOK.cons strings_Fields_ok 
  (TabOK.cons opcode_shape_ok 
  (TabOK.cons slices_Sort_int_int_ok 
  (TabOK.cons slices_Compact_int_int_ok 
  (TabOK.cons scriptingref01_gcd_ok 
  (TabOK.cons scriptingref01_abs_ok 
  (TabOK.cons scriptingref32_ab_ok 
  (TabOK.cons scriptingref32_abc_ok 
  (TabOK.cons scriptingref32_later_ok 
  (TabOK.cons scriptingref32_put_ok 
  (TabOK.cons scriptingref32_a_ok 
  (TabOK.cons scriptingref32_none_ok TabOK.nil)))))))))))))))))))))))))))))))))))))))))))))))))))))))))))))))))))))))))))))))))))))))))))))))))))))))))))))))
end Go.Proofs.YtabdlpfhfmeppaaGreatDoor
