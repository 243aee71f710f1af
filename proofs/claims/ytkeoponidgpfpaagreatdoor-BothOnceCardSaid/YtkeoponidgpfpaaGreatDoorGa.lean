/- Texts of the proofs of seat YtkeoponidgpfpaaGreatDoor, joined: Ids, Gen1, Gen2, Gen3, Gen4. They have no conditions of their own. -/
import Derived.Test.YtkeoponidgpfpaaGreatDoorMc
import Derived.Test.YtkeoponidgpfpaaGreatDoorChecked
import Derived.KernelRfl
set_option linter.unusedVariables false
set_option linter.unusedSimpArgs false

namespace Go.Proofs.YtkeoponidgpfpaaGreatDoor
abbrev F_gosem_cut_init : Nat := 2
abbrev F_milestonelaw14_BothErrors : Nat := 3
abbrev F_milestonelaw14_BothTurned : Nat := 4
abbrev F_milestonelaw14_BothLabels : Nat := 5
abbrev F_milestonelaw14_BothExact : Nat := 6
abbrev F_milestonelaw14_BothOnce : Nat := 7
abbrev F_milestonelaw14_BothPlain : Nat := 8
abbrev F_milestonelaw14_Draft_ask : Nat := 9
abbrev F_milestonelaw14_made : Nat := 10
abbrev F_both_Run : Nat := 11
abbrev F_milestoneref14_Error : Nat := 12
abbrev F_milestonelaw14_works : Nat := 13
abbrev F_graph_Turned : Nat := 14
abbrev F_milestoneref14_Feasible : Nat := 15
abbrev F_milestoneref14_Reach : Nat := 16
abbrev F_trace_Label : Nat := 17
abbrev F_milestoneref14_Open : Nat := 18
abbrev F_walk_Check : Nat := 19
abbrev F_milestonelaw14_within : Nat := 20
abbrev F_trace_Once : Nat := 21
abbrev F_trace_Heads : Nat := 22
abbrev F_trace_Pops : Nat := 23
abbrev F_trace_Scans : Nat := 24
abbrev F_net_Net_Out : Nat := 25
abbrev F_net_Net_In : Nat := 26
abbrev F_flood_From : Nat := 27
abbrev F_milestoneref07_Draft_Raw : Nat := 28
abbrev F_milestoneref10_To : Nat := 29
abbrev F_milestonelaw14_less : Nat := 30
abbrev F_net_New : Nat := 31
abbrev F_both_right : Nat := 32
abbrev F_both_search_begin : Nat := 33
abbrev F_both_Run_1 : Nat := 34
abbrev F_both_Run_2 : Nat := 35
abbrev F_both_search_reach : Nat := 36
abbrev F_both_search_next : Nat := 37
abbrev F_both_search_step : Nat := 38
abbrev F_both_search_back : Nat := 39
abbrev F_slices_Reverse_sl_int_int : Nat := 40
abbrev F_milestonelaw14_row : Nat := 41
abbrev F_milestonelaw14_finds : Nat := 42
abbrev F_graph_copied : Nat := 43
abbrev F_milestoneref14_In : Nat := 44
abbrev F_milestoneref14_pi : Nat := 45
abbrev F_trace_of : Nat := 46
abbrev F_walk_node : Nat := 47
abbrev F_walk_steps : Nat := 48
abbrev F_trace_may : Nat := 49
abbrev F_slices_ContainsFunc_sl_api_Event_api_Event : Nat := 50
abbrev F_trace_Once_1 : Nat := 51
abbrev F_trace_Heads_1 : Nat := 52
abbrev F_trace_tail : Nat := 53
abbrev F_trace_told_int : Nat := 54
abbrev F_trace_id : Nat := 55
abbrev F_net_one_sl_int : Nat := 56
abbrev F_slices_Clone_sl_int_int : Nat := 57
abbrev F_flood_flood : Nat := 58
abbrev F_flood_From_1 : Nat := 59
abbrev F_milestoneref07_Draft_Next : Nat := 60
abbrev F_milestoneref07_Draft_Weight : Nat := 61
abbrev F_milestoneref10_From : Nat := 62
abbrev F_milestoneref07_Turned : Nat := 63
abbrev F_graph_Check : Nat := 64
abbrev F_api_Told : Nat := 65
abbrev F_net_of : Nat := 66
abbrev F_net_own : Nat := 67
abbrev F_both_right_1 : Nat := 68
abbrev F_net_Net_Nodes : Nat := 69
abbrev F_both_right_2 : Nat := 70
abbrev F_net_Net_Arcs : Nat := 71
abbrev F_heap_New : Nat := 72
abbrev F_both_search_pi : Nat := 73
abbrev F_heap_Heap_Lower : Nat := 74
abbrev F_heap_Heap_Push : Nat := 75
abbrev F_heap_Heap_Least : Nat := 76
abbrev F_heap_Heap_Pop : Nat := 77
abbrev F_net_Net_Arc : Nat := 78
abbrev F_both_chain_int : Nat := 79
abbrev F_both_search_back_1 : Nat := 80
abbrev F_slices_Clone_sl_int64_int64 : Nat := 81
abbrev F_slices_Clone_sl_api_Arc_api_Arc : Nat := 82
abbrev F_trace_of_1 : Nat := 83
abbrev F_walk_steps_1 : Nat := 84
abbrev F_trace_may_1 : Nat := 85
abbrev F_slices_IndexFunc_sl_api_Event_api_Event : Nat := 86
abbrev F_slices_Repeat_sl_int64_int64 : Nat := 87
abbrev F_slices_Repeat_sl_int_int : Nat := 88
abbrev F_flood_arcs : Nat := 89
abbrev F_flood_run_reach : Nat := 90
abbrev F_milestoneref08_New : Nat := 91
abbrev F_milestoneref08_Heap_Push : Nat := 92
abbrev F_milestoneref08_Heap_Pop : Nat := 93
abbrev F_milestoneref07_Out : Nat := 94
abbrev F_milestoneref08_Heap_Key : Nat := 95
abbrev F_milestoneref08_Heap_Lower : Nat := 96
abbrev F_milestoneref07_Copy : Nat := 97
abbrev F_graph_Check_1 : Nat := 98
abbrev F_graph_look : Nat := 99
abbrev F_errors_As : Nat := 100
abbrev F_net_of_1 : Nat := 101
abbrev F_net_of_2 : Nat := 102
abbrev F_net_of_3 : Nat := 103
abbrev F_heap_row_up : Nat := 104
abbrev F_heap_Heap_Len : Nat := 105
abbrev F_heap_row_swap : Nat := 106
abbrev F_heap_row_down : Nat := 107
abbrev F_net_one_api_Arc : Nat := 108
abbrev F_math_bits_Mul : Nat := 109
abbrev F_flood_arcs_1 : Nat := 110
abbrev F_heap_Heap_Key : Nat := 111
abbrev F_milestoneref08_Heap_at : Nat := 112
abbrev F_milestoneref08_Heap_least : Nat := 113
abbrev F_graph_look_1 : Nat := 114
abbrev F_graph_one : Nat := 115
abbrev F_graph_look_2 : Nat := 116
abbrev F_graph_shapes : Nat := 117
abbrev F_graph_look_3 : Nat := 118
abbrev F_graph_nodes : Nat := 119
abbrev F_graph_look_4 : Nat := 120
abbrev F_graph_look_5 : Nat := 121
abbrev F_graph_arcs : Nat := 122
abbrev F_errors_as : Nat := 126
abbrev F_heap_row_ahead : Nat := 127
abbrev F_heap_row_below : Nat := 128
abbrev F_math_bits_Mul32 : Nat := 129
abbrev F_math_bits_Mul64 : Nat := 130
abbrev F_slices_Values_sl_graph_place_graph_place : Nat := 131
abbrev F_graph_nodes_1 : Nat := 132
abbrev F_graph_arcs_1 : Nat := 133
abbrev F_cmp_Or_int : Nat := 137
abbrev F_cmp_Compare_int64 : Nat := 138
abbrev F_cmp_Compare_int : Nat := 139
abbrev F_heap_row_below_1 : Nat := 140
abbrev F_slices_Values_sl_graph_place_graph_place_1 : Nat := 141
abbrev F_cmp_isNaN_int64 : Nat := 142
abbrev F_cmp_isNaN_int : Nat := 143
abbrev F_api_Fault_Unwrap : Nat := 163
abbrev F_net_trouble_Unwrap : Nat := 164
abbrev F_graph_trouble_Unwrap : Nat := 165
abbrev F_gosem_cut_vars : Nat := 184
abbrev T_ : Nat := 0
abbrev T_func : Nat := 1
abbrev T_int64 : Nat := 2
abbrev T_int : Nat := 3
abbrev T_bool : Nat := 4
abbrev T_uint8 : Nat := 5
abbrev T_abi_BoundsErrorCode : Nat := 6
abbrev T_struct_x_int64_y_int_signed_bool_code_abi_BoundsErrorCode : Nat := 7
abbrev T_runtime_boundsError : Nat := 8
abbrev T_string : Nat := 9
abbrev T_runtime_errorString : Nat := 10
abbrev T_runtime_plainError : Nat := 11
abbrev T_uintptr : Nat := 12
abbrev T_struct_msg_string_addr_uintptr : Nat := 13
abbrev T_runtime_errorAddressString : Nat := 14
abbrev T_p_runtime_TypeAssertionError : Nat := 15
abbrev T_p_runtime_PanicNilError : Nat := 16
abbrev T_p_abi_Type : Nat := 17
abbrev T_struct_typ_p_abi_Type : Nat := 18
abbrev T_maps_unhashableTypeError : Nat := 19
abbrev T_interface : Nat := 20
abbrev T_int32 : Nat := 21
abbrev T_sl_uint8 : Nat := 22
abbrev T_uint64 : Nat := 23
abbrev T_sl_int64 : Nat := 24
abbrev T_struct_B_sl_uint8_From_uint8_To_uint8_Some_bool_Mark_bool_Out_uint64_Pi_sl_int64_Land_uint8 : Nat := 25
abbrev T_milestonelaw14_Draft : Nat := 26
abbrev T_sl_bool : Nat := 27
abbrev T_struct_From_int_To_int_Allow_sl_bool_Pi_sl_int64 : Nat := 28
abbrev T_api_Ask : Nat := 29
abbrev T_sl_api_Arc : Nat := 30
abbrev T_struct_Nodes_int_X_sl_int64_Y_sl_int64_Arcs_sl_api_Arc : Nat := 31
abbrev T_api_Raw : Nat := 32
abbrev T_api_Raw_api_Ask : Nat := 33
abbrev T_func_api_Raw_api_Ask : Nat := 34
abbrev T_p_net_Net : Nat := 35
abbrev T_func_api_Raw_p_net_Net : Nat := 36
abbrev T_4_api_Ask : Nat := 37
abbrev T_sl_int : Nat := 38
abbrev T_sl_api_Event : Nat := 39
abbrev T_struct_Dist_int64_Arcs_sl_int_Events_sl_api_Event : Nat := 40
abbrev T_api_Found : Nat := 41
abbrev T_api_Errno : Nat := 42
abbrev T_api_Found_api_Errno : Nat := 43
abbrev T_funcnet_Net_api_Ask_api_Found_api_Errno : Nat := 44
abbrev T_func_api_Raw_api_Ask_api_Errno : Nat := 45
abbrev T_func_bool : Nat := 46
abbrev T_func_milestonelaw14_Draft_api_Ask_bool : Nat := 47
abbrev T_func_api_Raw_api_Raw : Nat := 48
abbrev T_func_milestonelaw14_Draft_bool : Nat := 49
abbrev T_func_api_Raw_api_Ask_bool : Nat := 50
abbrev T_func_api_Raw_api_Ask_int_sl_int64 : Nat := 51
abbrev T_int64_bool : Nat := 52
abbrev T_func_sl_api_Event_int_int_int64_bool : Nat := 53
abbrev T_func_api_Ask_int_bool : Nat := 54
abbrev T_funcnet_Net_int_int_sl_int_int64_bool : Nat := 55
abbrev T_func_api_Raw_api_Ask_sl_int_bool : Nat := 56
abbrev T_funcnet_Net_sl_api_Event_bool : Nat := 57
abbrev T_2_int : Nat := 58
abbrev T_func_sl_api_Event_int_sl_int : Nat := 59
abbrev T_struct_Kind_int_Side_int_Id_int_Label_int64 : Nat := 60
abbrev T_api_Event : Nat := 61
abbrev T_func_int_sl_int : Nat := 62
abbrev T_struct_Dist_sl_int64_Arc_sl_int_Order_sl_int : Nat := 63
abbrev T_flood_Tree : Nat := 64
abbrev T_funcnet_Net_int_flood_Tree : Nat := 65
abbrev T_2_int64 : Nat := 66
abbrev T_p_milestoneref07_Draft : Nat := 67
abbrev T_struct_B_sl_uint8_At_int : Nat := 68
abbrev T_milestoneref07_Draft : Nat := 69
abbrev T_func_api_Raw : Nat := 70
abbrev T_milestoneref10_Tree : Nat := 71
abbrev T_func_api_Raw_int_milestoneref10_Tree : Nat := 72
abbrev T_func_int64_int64_int64 : Nat := 73
abbrev T_interface_Error_string : Nat := 74
abbrev T_error : Nat := 75
abbrev T_net_Net_error : Nat := 76
abbrev T_func_api_Raw_net_Net_error : Nat := 77
abbrev T_funcnet_Net_api_Ask_bool : Nat := 78
abbrev T_p_both_search : Nat := 79
abbrev T_p_both_side : Nat := 80
abbrev T_2_p_both_side : Nat := 81
abbrev T_struct_n_p_net_Net_ask_api_Ask_sides_2_p_both_side_found_api_Found_meet_int : Nat := 82
abbrev T_both_search : Nat := 83
abbrev T_func_int_int_int64_func_int_sl_int_func_api_Arc_int : Nat := 84
abbrev T_struct_From_int_To_int_Weight_int64 : Nat := 85
abbrev T_api_Arc : Nat := 86
abbrev T_func_api_Arc_int : Nat := 87
abbrev T_funcboth_side_int_int_int64 : Nat := 88
abbrev T_func_p_both_side : Nat := 89
abbrev T_funcboth_side : Nat := 90
abbrev T_funcboth_side_sl_int : Nat := 91
abbrev T_func_sl_int : Nat := 92
abbrev T_func_api_Raw_api_Ask_int64_int_bool : Nat := 93
abbrev T_func_api_Raw_api_Ask_int_bool : Nat := 94
abbrev T_func_api_Ask_int_int64 : Nat := 95
abbrev T_func_func_int_api_Event_bool : Nat := 96
abbrev T_iter_Seq2_int_api_Event : Nat := 97
abbrev T_func_sl_api_Event_int_int_iter_Seq2_int_api_Event : Nat := 98
abbrev T_funcnet_Net_int_bool : Nat := 99
abbrev T_func_func_api_Arc_bool_bool : Nat := 100
abbrev T_iter_Seq2_api_Arc_bool : Nat := 101
abbrev T_funcnet_Net_int_sl_int_iter_Seq2_api_Arc_bool : Nat := 102
abbrev T_func_api_Event_bool : Nat := 103
abbrev T_funcnet_Net_func_api_Event_bool : Nat := 104
abbrev T_map_3_int_int : Nat := 105
abbrev T_func_sl_api_Event_func_api_Event_bool_bool : Nat := 106
abbrev T_3_int : Nat := 107
abbrev T_funcnet_Net_int_int_int : Nat := 108
abbrev T_func_iter_Seq2_int_api_Event_func_api_Event_int_sl_int : Nat := 109
abbrev T_func_api_Event_int : Nat := 110
abbrev T_sl_int_bool : Nat := 111
abbrev T_func_sl_sl_int_int_sl_int_bool : Nat := 112
abbrev T_sl_sl_int : Nat := 113
abbrev T_struct_raw_api_Raw_out_sl_sl_int_in_sl_sl_int : Nat := 114
abbrev T_net_Net : Nat := 115
abbrev T_func_sl_int_sl_int : Nat := 116
abbrev T_funcnet_Net_int_func_int_sl_int_func_api_Arc_int_flood_Tree : Nat := 117
abbrev T_func_int_int : Nat := 118
abbrev T_func_int64 : Nat := 119
abbrev T_func_api_Raw_error : Nat := 120
abbrev T_struct_Code_api_Errno_Phase_int_Index_int_Field_int : Nat := 121
abbrev T_api_Fault : Nat := 122
abbrev T_func_error_api_Fault : Nat := 123
abbrev T_p_api_Fault : Nat := 124
abbrev T_struct_p_api_Fault : Nat := 125
abbrev T_net_trouble : Nat := 126
abbrev T_func_int : Nat := 127
abbrev T_func_int_bool : Nat := 128
abbrev T_func_int_int_bool : Nat := 129
abbrev T_p_heap_Heap : Nat := 130
abbrev T_func_int_p_heap_Heap : Nat := 131
abbrev T_map_int_int64 : Nat := 132
abbrev T_map_int_int : Nat := 133
abbrev T_struct_p_heap_Heap_own_int_sign_int64_arcs_func_int_sl_int_head_func_api_Arc_int_label_map_int_int64_arc_map_int_int_closed_map_int_int : Nat := 134
abbrev T_both_side : Nat := 135
abbrev T_func_int_int64_bool : Nat := 136
abbrev T_func_int_int64_api_Errno : Nat := 137
abbrev T_func_int64_bool : Nat := 138
abbrev T_int_int64_bool : Nat := 139
abbrev T_func_int_int64_bool_v2 : Nat := 140
abbrev T_api_Arc_bool : Nat := 141
abbrev T_func_int_api_Arc_bool : Nat := 142
abbrev T_func_int_func_int_int_int_bool_sl_int : Nat := 143
abbrev T_func_int_int_int_bool : Nat := 144
abbrev T_func_sl_int64_sl_int64 : Nat := 145
abbrev T_func_sl_api_Arc_sl_api_Arc : Nat := 146
abbrev T_func_int_api_Event_bool : Nat := 147
abbrev T_func_api_Arc_bool_bool : Nat := 148
abbrev T_func_sl_api_Event_func_api_Event_bool_int : Nat := 149
abbrev T_p_flood_run : Nat := 150
abbrev T_func_sl_int64_int_sl_int64 : Nat := 151
abbrev T_func_sl_int_int_sl_int : Nat := 152
abbrev T_struct_p_heap_Heap_flood_Tree_closed_map_int_int : Nat := 153
abbrev T_flood_run : Nat := 154
abbrev T_func_func_int_api_Arc_bool : Nat := 155
abbrev T_iter_Seq2_int_api_Arc : Nat := 156
abbrev T_funcnet_Net_sl_int_func_api_Arc_int_iter_Seq2_int_api_Arc : Nat := 157
abbrev T_func_int_int_int64 : Nat := 158
abbrev T_p_milestoneref08_Heap : Nat := 159
abbrev T_func_int_p_milestoneref08_Heap : Nat := 160
abbrev T_sl_milestoneref08_Held : Nat := 161
abbrev T_struct_N_int_L_sl_milestoneref08_Held : Nat := 162
abbrev T_milestoneref08_Heap : Nat := 163
abbrev T_func_api_Raw_int_sl_int : Nat := 164
abbrev T_graph_trouble : Nat := 165
abbrev T_graph_trouble_bool : Nat := 166
abbrev T_func_api_Raw_v2 : Nat := 167
abbrev T_func_error_interface_bool : Nat := 168
abbrev T_p_p_api_Fault : Nat := 169
abbrev T_p_api_Errno : Nat := 170
abbrev T_func_func_api_Arc_int_sl_sl_int : Nat := 171
abbrev T_sl_heap_held : Nat := 172
abbrev T_struct_l_sl_heap_held_at_map_int_int : Nat := 173
abbrev T_heap_row : Nat := 174
abbrev T_struct_heap_row_n_int : Nat := 175
abbrev T_heap_Heap : Nat := 176
abbrev T_int_bool : Nat := 177
abbrev T_struct_id_int_key_int64 : Nat := 178
abbrev T_heap_held : Nat := 179
abbrev T_func_int_v2 : Nat := 180
abbrev T_func_int_int_v2 : Nat := 181
abbrev T_func_sl_api_Arc_int_api_Arc_bool : Nat := 182
abbrev T_int_int_bool : Nat := 183
abbrev T_uint : Nat := 184
abbrev T_uint_uint : Nat := 185
abbrev T_func_uint_uint_uint_uint : Nat := 186
abbrev T_func_int_api_Arc_bool_v2 : Nat := 187
abbrev T_struct_Id_int_Key_int64 : Nat := 188
abbrev T_milestoneref08_Held : Nat := 189
abbrev T_func_func_graph_place_bool : Nat := 190
abbrev T_iter_Seq_graph_place : Nat := 191
abbrev T_func_api_Errno_int_int_int_iter_Seq_graph_place : Nat := 192
abbrev T_func_iter_Seq_graph_place : Nat := 193
abbrev T_func_api_Raw_iter_Seq_graph_place : Nat := 194
abbrev T_sl_func_iter_Seq_graph_place : Nat := 195
abbrev T_struct_index_int_field_int_code_api_Errno_n_int64_least_int64_end_int64 : Nat := 196
abbrev T_graph_place : Nat := 197
abbrev T_unsafe_Pointer : Nat := 198
abbrev T_reflectlite_flag : Nat := 199
abbrev T_struct_typ_p_abi_Type_ptr_unsafe_Pointer_reflectlite_flag : Nat := 200
abbrev T_reflectlite_Value : Nat := 201
abbrev T_func_interface_reflectlite_Value : Nat := 202
abbrev T_interface_AssignableTo_reflectlite_Type_bool_Comparable_bool_Elem_reflectlite_Type_Implements_reflectlite_Type_bool_Kind_abi_Kind_Name_string_PkgPath_string_Size_uintptr_String_string_reflectlite_common_p_abi_Type_reflectlite_uncommon_p_abi_UncommonType : Nat := 203
abbrev T_reflectlite_Type : Nat := 204
abbrev T_func_reflectlite_Type : Nat := 205
abbrev T_abi_Kind : Nat := 206
abbrev T_func_abi_Kind : Nat := 207
abbrev T_func_reflectlite_Type_bool : Nat := 208
abbrev T_func_error_interface_reflectlite_Value_reflectlite_Type_bool : Nat := 209
abbrev T_p_heap_row : Nat := 210
abbrev T_func_func_int_bool : Nat := 211
abbrev T_iter_Seq_int : Nat := 212
abbrev T_func_int_iter_Seq_int : Nat := 213
abbrev T_uint32 : Nat := 214
abbrev T_uint32_uint32 : Nat := 215
abbrev T_func_uint32_uint32_uint32_uint32 : Nat := 216
abbrev T_uint64_uint64 : Nat := 217
abbrev T_func_uint64_uint64_uint64_uint64 : Nat := 218
abbrev T_func_sl_graph_place_iter_Seq_graph_place : Nat := 219
abbrev T_sl_graph_place : Nat := 220
abbrev T_func_graph_place_bool : Nat := 221
abbrev T_struct_p_abi_Type : Nat := 222
abbrev T_reflectlite_rtype : Nat := 223
abbrev T_p_reflectlite_ValueError : Nat := 224
abbrev T_func_interface_reflectlite_Type : Nat := 225
abbrev T_func_reflectlite_Value : Nat := 226
abbrev T_func_reflectlite_Value_v2 : Nat := 227
abbrev T_interface_As_interface_bool : Nat := 228
abbrev T_interface_As_interface_bool_bool : Nat := 229
abbrev T_func_interface_bool : Nat := 230
abbrev T_interface_Unwrap_error : Nat := 231
abbrev T_func_error : Nat := 232
abbrev T_interface_Unwrap_sl_error : Nat := 233
abbrev T_sl_error : Nat := 234
abbrev T_func_sl_error : Nat := 235
abbrev T_func_int_int_v3 : Nat := 236
abbrev T_func_int64_int64_int : Nat := 237
abbrev T_func_int_int_int : Nat := 238
abbrev T_func_int64_bool_v2 : Nat := 239
abbrev T_func_string : Nat := 240
abbrev T_struct_interface_p_abi_Type_concrete_p_abi_Type_asserted_p_abi_Type_missingMethod_string : Nat := 241
abbrev T_runtime_TypeAssertionError : Nat := 242
abbrev T_0_p_runtime_PanicNilError : Nat := 243
abbrev T_struct_0_p_runtime_PanicNilError : Nat := 244
abbrev T_runtime_PanicNilError : Nat := 245
abbrev T_func_p_abi_Type : Nat := 246
abbrev T_abi_TFlag : Nat := 247
abbrev T_func_unsafe_Pointer_unsafe_Pointer_bool : Nat := 248
abbrev T_p_uint8 : Nat := 249
abbrev T_abi_NameOff : Nat := 250
abbrev T_abi_TypeOff : Nat := 251
abbrev T_struct_Size_uintptr_PtrBytes_uintptr_Hash_uint32_TFlag_abi_TFlag_Align_uint8_FieldAlign_uint8_Kind_abi_Kind_Equal_func_unsafe_Pointer_unsafe_Pointer_bool_GCData_p_uint8_Str_abi_NameOff_PtrToThis_abi_TypeOff : Nat := 252
abbrev T_abi_Type : Nat := 253
abbrev T_func_uintptr : Nat := 254
abbrev T_func_p_abi_UncommonType : Nat := 255
abbrev T_struct_Method_string_Kind_abi_Kind : Nat := 256
abbrev T_reflectlite_ValueError : Nat := 257
abbrev T_p_abi_UncommonType : Nat := 258
abbrev T_func_sl_abi_Method : Nat := 259
abbrev T_uint16 : Nat := 260
abbrev T_struct_PkgPath_abi_NameOff_Mcount_uint16_Xcount_uint16_Moff_uint32_uint32 : Nat := 261
abbrev T_abi_UncommonType : Nat := 262
abbrev T_sl_abi_Method : Nat := 263
abbrev T_abi_TextOff : Nat := 264
abbrev T_struct_Name_abi_NameOff_Mtyp_abi_TypeOff_Ifn_abi_TextOff_Tfn_abi_TextOff : Nat := 265
abbrev T_abi_Method : Nat := 266
abbrev T_p_error : Nat := 267
abbrev G_errors_errorType : Nat := 0
end Go.Proofs.YtkeoponidgpfpaaGreatDoor

namespace Go.Proofs.YtkeoponidgpfpaaGreatDoor
open Go Go.Mh
set_option maxHeartbeats 0
set_option linter.unusedVariables false

/-! milestone/milestonelaw14.BothErrors -/

def sh_milestonelaw14_BothErrors_k2 (P : Program) (K : Value → Heap → Prop) (h_28 : Heap) : Prop :=
  K (.bool false) h_28

def sh_milestonelaw14_BothErrors_k3 (P : Program) (t56 : Value) (Z : Value → Heap → Prop) (h_29 : Heap) : Prop :=
  pBin .add t56 (.int .i64 1) fun t91 =>
  Z t91 h_29

def sh_milestonelaw14_BothErrors_L1 (P : Program) (t55 t20 g5 : Value) (K : Value → Heap → Prop) (t56 : Value) (h_21 : Heap) (Z : Value → Heap → Prop) : Prop :=
  pBin .lss t56 (.int .i64 4) fun t57 =>
  ifV t57
  (pIdxVN 4 4 t55 t56 fun t58 =>
  pBox T_api_Ask (.agg #[(.int .i64 0), (.int .i64 0), (.slice none 0 0), (.slice none 0 0)]) h_21 fun x11 h_22 =>
  pStore 4 x11 t58 h_22 fun u_8 h_23 =>
  pLoadN 4 h_23 x11 fun t61 =>
  callS P F_both_Run [t20, t61] h_23 fun t62 h_24 =>
  pExt t62 0 fun t63 =>
  pExt t62 1 fun t64 =>
  pBox T_api_Found (.agg #[(.int .i64 0), (.slice none 0 0), (.slice none 0 0)]) h_24 fun f12 h_25 =>
  pStore 3 f12 t63 h_25 fun u_9 h_26 =>
  pLoadN 4 h_26 g5 fun t66 =>
  pLoadN 4 h_26 x11 fun t67 =>
  callS P F_milestoneref14_Error [t66, t67] h_26 fun t68 h_27 =>
  pBin .neq t64 t68 fun t69 =>
  ifV t69
  (sh_milestonelaw14_BothErrors_k2 P K h_27)
  (pBin .neq t64 (.int .i64 0) fun t72 =>
  ifV t72
  (pField 0 f12 fun t74 =>
  pLoad h_27 t74 fun t75 =>
  pBin .neq t75 (.int .i64 0) fun t76 =>
  ifV t76
  (sh_milestonelaw14_BothErrors_k2 P K h_27)
  (pField 1 f12 fun t78 =>
  pLoad h_27 t78 fun t79 =>
  pLen t79 fun t80 =>
  pBin .gtr t80 (.int .i64 0) fun t81 =>
  ifV t81
  (sh_milestonelaw14_BothErrors_k2 P K h_27)
  (pField 2 f12 fun t84 =>
  pLoad h_27 t84 fun t85 =>
  pLen t85 fun t86 =>
  pBin .gtr t86 (.int .i64 0) fun t87 =>
  ifV t87
  (sh_milestonelaw14_BothErrors_k2 P K h_27)
  (sh_milestonelaw14_BothErrors_k3 P t56 Z h_27))))
  (sh_milestonelaw14_BothErrors_k3 P t56 Z h_27)))
  (callS P F_milestonelaw14_works [] h_21 fun t92 h_30 =>
  K t92 h_30)

def sh_milestonelaw14_BothErrors (P : Program) (d0 ask1 : Value) (h : Heap) (K : Value → Heap → Prop) : Prop :=
  pBox T_milestonelaw14_Draft d0 h fun d2 h_1 =>
  pBox T_api_Ask ask1 h_1 fun ask3 h_2 =>
  pLoadN 8 h_2 d2 fun t15 =>
  callS P F_milestonelaw14_Draft_ask [t15] h_2 fun t16 h_3 =>
  pExt t16 0 fun t17 =>
  pExt t16 1 fun t18 =>
  pBox T_api_Raw (.agg #[(.int .i64 0), (.slice none 0 0), (.slice none 0 0), (.slice none 0 0)]) h_3 fun g5 h_4 =>
  pBox T_api_Ask (.agg #[(.int .i64 0), (.int .i64 0), (.slice none 0 0), (.slice none 0 0)]) h_4 fun own6 h_5 =>
  pStore 4 g5 t17 h_5 fun u h_6 =>
  pStore 4 own6 t18 h_6 fun u_1 h_7 =>
  pLoadN 4 h_7 g5 fun t19 =>
  callS P F_milestonelaw14_made [t19] h_7 fun t20 h_8 =>
  pEq false .ptr t20 (.pointer none) fun t22 =>
  ifV t22
  (K (.bool false) h_8)
  (pField 2 ask3 fun t23 =>
  pLoad h_8 t23 fun t24 =>
  pField 2 ask3 fun t25 =>
  pLoad h_8 t25 fun t26 =>
  pLen t26 fun t27 =>
  pMin t27 (.int .i64 30) fun t28 =>
  pSlice 1 t24 none (some t28) none fun t29 =>
  pField 2 ask3 fun t30 =>
  pStore 1 t30 t29 h_8 fun u_2 h_9 =>
  pField 3 ask3 fun t31 =>
  pLoad h_9 t31 fun t32 =>
  pField 3 ask3 fun t33 =>
  pLoad h_9 t33 fun t34 =>
  pLen t34 fun t35 =>
  pMin t35 (.int .i64 30) fun t36 =>
  pSlice 1 t32 none (some t36) none fun t37 =>
  pField 3 ask3 fun t38 =>
  pStore 1 t38 t37 h_9 fun u_3 h_10 =>
  pLoadN 4 h_10 own6 fun t39 =>
  pBox T_api_Ask (.agg #[(.int .i64 0), (.int .i64 0), (.slice none 0 0), (.slice none 0 0)]) h_10 fun near8 h_11 =>
  pStore 4 near8 t39 h_11 fun u_4 h_12 =>
  pField 0 ask3 fun t40 =>
  pLoad h_12 t40 fun t41 =>
  pField 0 near8 fun t42 =>
  pStore 1 t42 t41 h_12 fun u_5 h_13 =>
  pLoadN 4 h_13 own6 fun t43 =>
  pBox T_api_Ask (.agg #[(.int .i64 0), (.int .i64 0), (.slice none 0 0), (.slice none 0 0)]) h_13 fun wide9 h_14 =>
  pStore 4 wide9 t43 h_14 fun u_6 h_15 =>
  pBuildSlice T_int64 (zerosL [(.int .i64 0)] 0) [] 0 h_15 fun t44 h_16 =>
  pField 3 own6 fun t45 =>
  pLoad h_16 t45 fun t46 =>
  pAppend T_int64 1 8 [(.int .i64 0)] t44 t46 h_16 fun t47 h_17 =>
  pBuildSlice T_int64 (zerosL [(.int .i64 0)] 1) [(0, 1, (.int .i64 0))] 1 h_17 fun t48 h_18 =>
  pAppend T_int64 1 8 [(.int .i64 0)] t47 t48 h_18 fun t49 h_19 =>
  pField 3 wide9 fun t50 =>
  pStore 1 t50 t49 h_19 fun u_7 h_20 =>
  pLoadN 4 h_20 ask3 fun t51 =>
  pLoadN 4 h_20 own6 fun t52 =>
  pLoadN 4 h_20 near8 fun t53 =>
  pLoadN 4 h_20 wide9 fun t54 =>
  pBuild [(.int .i64 0), (.int .i64 0), (.slice none 0 0), (.slice none 0 0), (.int .i64 0), (.int .i64 0), (.slice none 0 0), (.slice none 0 0), (.int .i64 0), (.int .i64 0), (.slice none 0 0), (.slice none 0 0), (.int .i64 0), (.int .i64 0), (.slice none 0 0), (.slice none 0 0)] [(0, 4, t51), (4, 4, t52), (8, 4, t53), (12, 4, t54)] fun t55 =>
  LoopH (σ := Vals [56]) (fun x hh ZZ => sh_milestonelaw14_BothErrors_L1 P t55 t20 g5 K x.1 hh (fun a0 hz => ZZ (a0, ()) hz)) ((.int .i64 0), ()) h_20)

set_option maxRecDepth 100000 in
theorem lk_milestonelaw14_BothErrors (d0 ask1 : Value) {h : Heap} {K : Value → Heap → Prop} (H : sh_milestonelaw14_BothErrors Tryz.prog d0 ask1 h K) : CallsH Tryz.prog F_milestonelaw14_BothErrors [d0, ask1].toArray h K :=
  callsH_of (ann := (annG (Tryz.f3.body.getD .skip) 0 [(14, [56])]).1) (c := Tryz.f3.body.getD .skip) Tryz.func3 (by kernel_rfl) (by kernel_rfl) (by kernel_rfl) (of_decide_eq_true (by kernel_rfl))
    (Eq.mpr (by kernel_rfl) H)

/-! milestone/milestonelaw14.BothTurned -/

def sh_milestonelaw14_BothTurned_k1 (P : Program) (K : Value → Heap → Prop) (h_12 : Heap) : Prop :=
  K (.bool false) h_12

def sh_milestonelaw14_BothTurned_L2 (P : Program) (ask4 back7 t22 t25 : Value) (K : Value → Heap → Prop) (i8 : Value) (h_15 : Heap) (Z : Value → Heap → Prop) : Prop :=
  pField 3 ask4 fun t40 =>
  pLoad h_15 t40 fun t41 =>
  pLen t41 fun t42 =>
  pBin .lss i8 t42 fun t43 =>
  ifV t43
  (pField 3 back7 fun t46 =>
  pLoad h_15 t46 fun t47 =>
  pField 3 ask4 fun t48 =>
  pLoad h_15 t48 fun t49 =>
  pIdx 1 t49 i8 fun t51 =>
  pLoad h_15 t51 fun t52 =>
  pUn .neg t52 fun t53 =>
  pBuildSlice T_int64 (zerosL [(.int .i64 0)] 1) [(0, 1, t53)] 1 h_15 fun t54 h_16 =>
  pAppend T_int64 1 8 [(.int .i64 0)] t47 t54 h_16 fun t55 h_17 =>
  pField 3 back7 fun t56 =>
  pStore 1 t56 t55 h_17 fun u_4 h_18 =>
  pBin .add i8 (.int .i64 1) fun t45 =>
  Z t45 h_18)
  (pLoadN 4 h_15 ask4 fun t59 =>
  callS P F_both_Run [t22, t59] h_15 fun t60 h_19 =>
  pExt t60 0 fun t61 =>
  pExt t60 1 fun t62 =>
  pBox T_api_Found (.agg #[(.int .i64 0), (.slice none 0 0), (.slice none 0 0)]) h_19 fun f9 h_20 =>
  pStore 3 f9 t61 h_20 fun u_5 h_21 =>
  pLoadN 4 h_21 back7 fun t65 =>
  callS P F_both_Run [t25, t65] h_21 fun t66 h_22 =>
  pExt t66 0 fun t67 =>
  pExt t66 1 fun t68 =>
  pBox T_api_Found (.agg #[(.int .i64 0), (.slice none 0 0), (.slice none 0 0)]) h_22 fun h11 h_23 =>
  pStore 3 h11 t67 h_23 fun u_6 h_24 =>
  pBin .eql t62 (.int .i64 0) fun t70 =>
  ifV t70
  (pBin .eql t68 (.int .i64 0) fun t73 =>
  ifV t73
  (pField 0 f9 fun t76 =>
  pLoad h_24 t76 fun t77 =>
  pField 0 h11 fun t78 =>
  pLoad h_24 t78 fun t79 =>
  pBin .eql t77 t79 fun t80 =>
  K t80 h_24)
  (K (.bool false) h_24))
  (K (.bool false) h_24))

def sh_milestonelaw14_BothTurned (P : Program) (d0 : Value) (h : Heap) (K : Value → Heap → Prop) : Prop :=
  pBox T_milestonelaw14_Draft d0 h fun d1 h_1 =>
  callS P F_milestonelaw14_works [] h_1 fun t13 h_2 =>
  pUn .not t13 fun t14 =>
  ifV t14
  (K (.bool false) h_2)
  (pField 4 d1 fun t15 =>
  pStore 1 t15 (.bool true) h_2 fun u h_3 =>
  pLoadN 8 h_3 d1 fun t17 =>
  callS P F_milestonelaw14_Draft_ask [t17] h_3 fun t18 h_4 =>
  pExt t18 0 fun t19 =>
  pExt t18 1 fun t20 =>
  pBox T_api_Raw (.agg #[(.int .i64 0), (.slice none 0 0), (.slice none 0 0), (.slice none 0 0)]) h_4 fun g3 h_5 =>
  pBox T_api_Ask (.agg #[(.int .i64 0), (.int .i64 0), (.slice none 0 0), (.slice none 0 0)]) h_5 fun ask4 h_6 =>
  pStore 4 g3 t19 h_6 fun u_1 h_7 =>
  pStore 4 ask4 t20 h_7 fun u_2 h_8 =>
  pLoadN 4 h_8 g3 fun t21 =>
  pLoadN 4 h_8 g3 fun t23 =>
  callS P F_milestonelaw14_made [t21] h_8 fun t22 h_9 =>
  (pLoadN 4 h_9 g3 fun t23_1 =>
  t23_1 = t23) ∧
  (callS P F_graph_Turned [t23] h_9 fun t24 h_10 =>
  callS P F_milestonelaw14_made [t24] h_10 fun t25 h_11 =>
  pEq false .ptr t22 (.pointer none) fun t27 =>
  ifV t27
  (sh_milestonelaw14_BothTurned_k1 P K h_11)
  (pEq false .ptr t25 (.pointer none) fun t30 =>
  ifV t30
  (sh_milestonelaw14_BothTurned_k1 P K h_11)
  (pField 1 ask4 fun t32 =>
  pLoad h_11 t32 fun t33 =>
  pField 0 ask4 fun t34 =>
  pLoad h_11 t34 fun t35 =>
  pField 2 ask4 fun t36 =>
  pLoad h_11 t36 fun t37 =>
  pBuild [(.int .i64 0), (.int .i64 0), (.slice none 0 0), (.slice none 0 0)] [(0, 1, t33), (1, 1, t35), (2, 1, t37)] fun t38 =>
  pBox T_api_Ask (.agg #[(.int .i64 0), (.int .i64 0), (.slice none 0 0), (.slice none 0 0)]) h_11 fun back7 h_13 =>
  pStore 4 back7 t38 h_13 fun u_3 h_14 =>
  LoopH (σ := Vals [8]) (fun x hh ZZ => sh_milestonelaw14_BothTurned_L2 P ask4 back7 t22 t25 K x.1 hh (fun a0 hz => ZZ (a0, ()) hz)) ((.int .i64 0), ()) h_14))))

set_option maxRecDepth 100000 in
theorem lk_milestonelaw14_BothTurned (d0 : Value) {h : Heap} {K : Value → Heap → Prop} (H : sh_milestonelaw14_BothTurned Tryz.prog d0 h K) : CallsH Tryz.prog F_milestonelaw14_BothTurned [d0].toArray h K :=
  callsH_of (ann := (annG (Tryz.f4.body.getD .skip) 0 [(13, [8])]).1) (c := Tryz.f4.body.getD .skip) Tryz.func4 (by kernel_rfl) (by kernel_rfl) (by kernel_rfl) (of_decide_eq_true (by kernel_rfl))
    (Eq.mpr (by kernel_rfl) H)

/-! milestone/milestonelaw14.BothLabels -/

def sh_milestonelaw14_BothLabels_k3 (P : Program) (K : Value → Heap → Prop) (h_16 : Heap) : Prop :=
  K (.bool false) h_16

def sh_milestonelaw14_BothLabels_k5 (P : Program) (v11 : Value) (Z_1 : Value → Heap → Prop) (h_19 : Heap) : Prop :=
  pBin .add v11 (.int .i64 1) fun t47 =>
  Z_1 t47 h_19

def sh_milestonelaw14_BothLabels_k4 (P : Program) (K : Value → Heap → Prop) (v11 : Value) (Z_1 : Value → Heap → Prop) (t85 : Value) (h_18 : Heap) : Prop :=
  ifV t85
  (sh_milestonelaw14_BothLabels_k3 P K h_18)
  (sh_milestonelaw14_BothLabels_k5 P v11 Z_1 h_18)

def sh_milestonelaw14_BothLabels_L2 (P : Program) (g3 f6 side9 t41 : Value) (K : Value → Heap → Prop) (t33 ask4 : Value) (Z : Value → Heap → Prop) (v11 : Value) (h_14 : Heap) (Z_1 : Value → Heap → Prop) : Prop :=
  pField 0 g3 fun t43 =>
  pLoad h_14 t43 fun t44 =>
  pBin .lss v11 t44 fun t45 =>
  ifV t45
  (pField 2 f6 fun t49 =>
  pLoad h_14 t49 fun t50 =>
  callS P F_trace_Label [t50, side9, v11] h_14 fun t53 h_15 =>
  pExt t53 0 fun t54 =>
  pExt t53 1 fun t55 =>
  ifV t55
  (pIdx 1 t41 v11 fun t61 =>
  pLoad h_15 t61 fun t62 =>
  pBin .lss t54 t62 fun t63 =>
  ifV t63
  (sh_milestonelaw14_BothLabels_k3 P K h_15)
  (pBin .geq t54 (.int .i64 72057594037927936) fun t66 =>
  ifV t66
  (sh_milestonelaw14_BothLabels_k3 P K h_15)
  (ifV t33
  (pIdx 1 t41 v11 fun t74 =>
  pLoad h_15 t74 fun t75 =>
  pBin .neq t54 t75 fun t76 =>
  ifV t76
  (sh_milestonelaw14_BothLabels_k3 P K h_15)
  (pLoadN 4 h_15 ask4 fun t80 =>
  callS P F_milestoneref14_Open [t80, v11] h_15 fun t82 h_17 =>
  pUn .not t82 fun t83 =>
  sh_milestonelaw14_BothLabels_k4 P K v11 Z_1 t83 h_17))
  (pLoadN 4 h_15 ask4 fun t80_1 =>
  callS P F_milestoneref14_Open [t80_1, v11] h_15 fun t82_1 h_20 =>
  pUn .not t82_1 fun t83_1 =>
  sh_milestonelaw14_BothLabels_k4 P K v11 Z_1 t83_1 h_20))))
  (sh_milestonelaw14_BothLabels_k5 P v11 Z_1 h_15))
  (pBin .add side9 (.int .i64 1) fun t37 =>
  Z t37 h_14)

def sh_milestonelaw14_BothLabels_L1 (P : Program) (g3 ask4 f6 : Value) (K : Value → Heap → Prop) (t33 side9 : Value) (h_12 : Heap) (Z : Value → Heap → Prop) : Prop :=
  pBin .lss side9 (.int .i64 2) fun t35 =>
  ifV t35
  (pLoadN 4 h_12 g3 fun t38 =>
  pLoadN 4 h_12 ask4 fun t39 =>
  callS P F_milestoneref14_Reach [t38, t39, side9] h_12 fun t41 h_13 =>
  LoopH (σ := Vals [11]) (fun x hh ZZ => sh_milestonelaw14_BothLabels_L2 P g3 f6 side9 t41 K t33 ask4 Z x.1 hh (fun a0 hz => ZZ (a0, ()) hz)) ((.int .i64 0), ()) h_13)
  (callS P F_milestonelaw14_works [] h_12 fun t86 h_21 =>
  K t86 h_21)

def sh_milestonelaw14_BothLabels (P : Program) (d0 : Value) (h : Heap) (K : Value → Heap → Prop) : Prop :=
  pBox T_milestonelaw14_Draft d0 h fun d1 h_1 =>
  pLoadN 8 h_1 d1 fun t15 =>
  callS P F_milestonelaw14_Draft_ask [t15] h_1 fun t16 h_2 =>
  pExt t16 0 fun t17 =>
  pExt t16 1 fun t18 =>
  pBox T_api_Raw (.agg #[(.int .i64 0), (.slice none 0 0), (.slice none 0 0), (.slice none 0 0)]) h_2 fun g3 h_3 =>
  pBox T_api_Ask (.agg #[(.int .i64 0), (.int .i64 0), (.slice none 0 0), (.slice none 0 0)]) h_3 fun ask4 h_4 =>
  pStore 4 g3 t17 h_4 fun u h_5 =>
  pStore 4 ask4 t18 h_5 fun u_1 h_6 =>
  pLoadN 4 h_6 g3 fun t19 =>
  callS P F_milestonelaw14_made [t19] h_6 fun t20 h_7 =>
  pEq false .ptr t20 (.pointer none) fun t22 =>
  ifV t22
  (K (.bool false) h_7)
  (pLoadN 4 h_7 ask4 fun t25 =>
  callS P F_both_Run [t20, t25] h_7 fun t26 h_8 =>
  pExt t26 0 fun t27 =>
  pExt t26 1 fun t28 =>
  pBox T_api_Found (.agg #[(.int .i64 0), (.slice none 0 0), (.slice none 0 0)]) h_8 fun f6 h_9 =>
  pStore 3 f6 t27 h_9 fun u_2 h_10 =>
  pBin .neq t28 (.int .i64 0) fun t30 =>
  ifV t30
  (K (.bool false) h_10)
  (pLoadN 4 h_10 g3 fun t31 =>
  pLoadN 4 h_10 ask4 fun t32 =>
  callS P F_milestoneref14_Feasible [t31, t32] h_10 fun t33 h_11 =>
  LoopH (σ := Vals [9]) (fun x hh ZZ => sh_milestonelaw14_BothLabels_L1 P g3 ask4 f6 K t33 x.1 hh (fun a0 hz => ZZ (a0, ()) hz)) ((.int .i64 0), ()) h_11))

set_option maxRecDepth 100000 in
theorem lk_milestonelaw14_BothLabels (d0 : Value) {h : Heap} {K : Value → Heap → Prop} (H : sh_milestonelaw14_BothLabels Tryz.prog d0 h K) : CallsH Tryz.prog F_milestonelaw14_BothLabels [d0].toArray h K :=
  callsH_of (ann := (annG (Tryz.f5.body.getD .skip) 0 [(13, [9]), (19, [11])]).1) (c := Tryz.f5.body.getD .skip) Tryz.func5 (by kernel_rfl) (by kernel_rfl) (by kernel_rfl) (of_decide_eq_true (by kernel_rfl))
    (Eq.mpr (by kernel_rfl) H)

/-! milestone/milestonelaw14.BothExact -/

def sh_milestonelaw14_BothExact_k1 (P : Program) (K : Value → Heap → Prop) (h_11 : Heap) : Prop :=
  K (.bool false) h_11

def sh_milestonelaw14_BothExact_k2 (P : Program) (K : Value → Heap → Prop) (h_14 : Heap) : Prop :=
  K (.bool false) h_14

def sh_milestonelaw14_BothExact_k4 (P : Program) (f6 : Value) (K : Value → Heap → Prop) (least10 : Value) (h_21 : Heap) : Prop :=
  pField 0 f6 fun t112 =>
  pLoad h_21 t112 fun t113 =>
  pBin .eql t113 least10 fun t115 =>
  ifV t115
  (callS P F_milestonelaw14_works [] h_21 fun t117 h_22 =>
  K t117 h_22)
  (K (.bool false) h_21)

def sh_milestonelaw14_BothExact_k3 (P : Program) (g3 ask4 : Value) (K : Value → Heap → Prop) (f6 : Value) (h_16 : Heap) : Prop :=
  pLoadN 4 h_16 g3 fun t95 =>
  pLoadN 4 h_16 ask4 fun t96 =>
  callS P F_milestoneref14_Feasible [t95, t96] h_16 fun t97 h_17 =>
  pUn .not t97 fun t98 =>
  ifV t98
  (callS P F_milestonelaw14_works [] h_17 fun t99 h_18 =>
  K t99 h_18)
  (pLoadN 4 h_17 g3 fun t100 =>
  pLoadN 4 h_17 ask4 fun t101 =>
  pField 1 ask4 fun t103 =>
  pLoad h_17 t103 fun t104 =>
  callS P F_milestoneref14_Reach [t100, t101, (.int .i64 0)] h_17 fun t102 h_19 =>
  (pLoad h_19 t103 fun t104_1 =>
  t104_1 = t104) ∧
  (pIdx 1 t102 t104 fun t105 =>
  pLoad h_19 t105 fun t106 =>
  pLoadN 4 h_19 ask4 fun t107 =>
  pField 1 ask4 fun t108 =>
  pLoad h_19 t108 fun t109 =>
  callS P F_milestoneref14_Open [t107, t109] h_19 fun t110 h_20 =>
  pUn .not t110 fun t111 =>
  ifV t111
  (sh_milestonelaw14_BothExact_k4 P f6 K (.int .i64 72057594037927936) h_20)
  (sh_milestonelaw14_BothExact_k4 P f6 K t106 h_20)))

def sh_milestonelaw14_BothExact (P : Program) (d0 : Value) (h : Heap) (K : Value → Heap → Prop) : Prop :=
  pBox T_milestonelaw14_Draft d0 h fun d1 h_1 =>
  pLoadN 8 h_1 d1 fun t12 =>
  callS P F_milestonelaw14_Draft_ask [t12] h_1 fun t13 h_2 =>
  pExt t13 0 fun t14 =>
  pExt t13 1 fun t15 =>
  pBox T_api_Raw (.agg #[(.int .i64 0), (.slice none 0 0), (.slice none 0 0), (.slice none 0 0)]) h_2 fun g3 h_3 =>
  pBox T_api_Ask (.agg #[(.int .i64 0), (.int .i64 0), (.slice none 0 0), (.slice none 0 0)]) h_3 fun ask4 h_4 =>
  pStore 4 g3 t14 h_4 fun u h_5 =>
  pStore 4 ask4 t15 h_5 fun u_1 h_6 =>
  pLoadN 4 h_6 g3 fun t16 =>
  callS P F_milestonelaw14_made [t16] h_6 fun t17 h_7 =>
  pEq false .ptr t17 (.pointer none) fun t19 =>
  ifV t19
  (K (.bool false) h_7)
  (pLoadN 4 h_7 ask4 fun t22 =>
  callS P F_both_Run [t17, t22] h_7 fun t23 h_8 =>
  pExt t23 0 fun t24 =>
  pExt t23 1 fun t25 =>
  pBox T_api_Found (.agg #[(.int .i64 0), (.slice none 0 0), (.slice none 0 0)]) h_8 fun f6 h_9 =>
  pStore 3 f6 t24 h_9 fun u_2 h_10 =>
  pBin .neq t25 (.int .i64 0) fun t27 =>
  ifV t27
  (sh_milestonelaw14_BothExact_k1 P K h_10)
  (pField 0 f6 fun t29 =>
  pLoad h_10 t29 fun t30 =>
  pBin .lss t30 (.int .i64 0) fun t31 =>
  ifV t31
  (sh_milestonelaw14_BothExact_k1 P K h_10)
  (pField 0 f6 fun t34 =>
  pLoad h_10 t34 fun t35 =>
  pBin .gtr t35 (.int .i64 72057594037927936) fun t36 =>
  ifV t36
  (sh_milestonelaw14_BothExact_k1 P K h_10)
  (pField 0 ask4 fun t38 =>
  pLoad h_10 t38 fun t39 =>
  pField 1 ask4 fun t40 =>
  pLoad h_10 t40 fun t41 =>
  pBin .eql t39 t41 fun t42 =>
  ifV t42
  (pField 0 f6 fun t43 =>
  pLoad h_10 t43 fun t44 =>
  pBin .eql t44 (.int .i64 0) fun t45 =>
  ifV t45
  (pField 1 f6 fun t47 =>
  pLoad h_10 t47 fun t48 =>
  pLen t48 fun t49 =>
  pBin .eql t49 (.int .i64 0) fun t50 =>
  ifV t50
  (pField 2 f6 fun t53 =>
  pLoad h_10 t53 fun t54 =>
  pLen t54 fun t55 =>
  pBin .eql t55 (.int .i64 0) fun t56 =>
  ifV t56
  (callS P F_milestonelaw14_works [] h_10 fun t59 h_12 =>
  K t59 h_12)
  (K (.bool false) h_10))
  (K (.bool false) h_10))
  (K (.bool false) h_10))
  (pField 0 f6 fun t61 =>
  pLoad h_10 t61 fun t62 =>
  pBin .lss t62 (.int .i64 72057594037927936) fun t63 =>
  ifV t63
  (pField 0 ask4 fun t66 =>
  pLoad h_10 t66 fun t67 =>
  pField 1 ask4 fun t68 =>
  pLoad h_10 t68 fun t69 =>
  pField 1 f6 fun t70 =>
  pLoad h_10 t70 fun t71 =>
  callS P F_walk_Check [t17, t67, t69, t71] h_10 fun t72 h_13 =>
  pExt t72 0 fun t73 =>
  pExt t72 1 fun t74 =>
  pUn .not t74 fun t76 =>
  ifV t76
  (sh_milestonelaw14_BothExact_k2 P K h_13)
  (pField 0 f6 fun t79 =>
  pLoad h_13 t79 fun t80 =>
  pBin .neq t73 t80 fun t81 =>
  ifV t81
  (sh_milestonelaw14_BothExact_k2 P K h_13)
  (pLoadN 4 h_13 g3 fun t84 =>
  pLoadN 4 h_13 ask4 fun t85 =>
  pField 1 f6 fun t86 =>
  pLoad h_13 t86 fun t87 =>
  callS P F_milestonelaw14_within [t84, t85, t87] h_13 fun t88 h_15 =>
  pUn .not t88 fun t89 =>
  ifV t89
  (sh_milestonelaw14_BothExact_k2 P K h_15)
  (sh_milestonelaw14_BothExact_k3 P g3 ask4 K f6 h_15))))
  (pField 1 f6 fun t91 =>
  pLoad h_10 t91 fun t92 =>
  pLen t92 fun t93 =>
  pBin .gtr t93 (.int .i64 0) fun t94 =>
  ifV t94
  (K (.bool false) h_10)
  (sh_milestonelaw14_BothExact_k3 P g3 ask4 K f6 h_10)))))))

set_option maxRecDepth 100000 in
theorem lk_milestonelaw14_BothExact (d0 : Value) {h : Heap} {K : Value → Heap → Prop} (H : sh_milestonelaw14_BothExact Tryz.prog d0 h K) : CallsH Tryz.prog F_milestonelaw14_BothExact [d0].toArray h K :=
  callsH_of (ann := (annG (Tryz.f6.body.getD .skip) 0 []).1) (c := Tryz.f6.body.getD .skip) Tryz.func6 (by kernel_rfl) (by kernel_rfl) (by kernel_rfl) (of_decide_eq_true (by kernel_rfl))
    (Eq.mpr (by kernel_rfl) H)

/-! milestone/milestonelaw14.BothOnce -/

def sh_milestonelaw14_BothOnce_k1 (P : Program) (K : Value → Heap → Prop) (h_12 : Heap) : Prop :=
  K (.bool false) h_12

def sh_milestonelaw14_BothOnce_k5 (P : Program) (side9 : Value) (Z : Value → Heap → Prop) (h_23 : Heap) : Prop :=
  pBin .add side9 (.int .i64 1) fun t59 =>
  Z t59 h_23

def sh_milestonelaw14_BothOnce_C4 (P : Program) (K : Value → Heap → Prop) (side9 : Value) (Z : Value → Heap → Prop) (t103 : Value) (h_22 : Heap) : Prop :=
  ifV t103
  (K (.bool false) h_22)
  (sh_milestonelaw14_BothOnce_k5 P side9 Z h_22)

def sh_milestonelaw14_BothOnce_C3 (P : Program) (K : Value → Heap → Prop) (t63 f6 ends8 side9 : Value) (Z : Value → Heap → Prop) (t79 : Value) (h_20 : Heap) : Prop :=
  ifV t79
  (K (.bool false) h_20)
  (pLen t63 fun t81 =>
  pBin .gtr t81 (.int .i64 0) fun t82 =>
  ifV t82
  (pField 2 f6 fun t84 =>
  pLoad h_20 t84 fun t85 =>
  pIdxA 1 2 ends8 side9 fun t88 =>
  pLoad h_20 t88 fun t89 =>
  callS P F_trace_Label [t85, side9, t89] h_20 fun t90 h_21 =>
  pExt t90 0 fun t91 =>
  pExt t90 1 fun t92 =>
  cutP (σ := Vals [103]) (fun J_1 =>
  pIdx 1 t63 (.int .i64 0) fun t94 =>
  pLoad h_21 t94 fun t95 =>
  pIdxA 1 2 ends8 side9 fun t97 =>
  pLoad h_21 t97 fun t98 =>
  pBin .neq t95 t98 fun t99 =>
  ifV t99
  (J_1 ((.bool true), ()) h_21)
  (pBin .neq t91 (.int .i64 0) fun t102 =>
  J_1 (t102, ()) h_21))
  (fun x hh => sh_milestonelaw14_BothOnce_C4 P K side9 Z x.1 hh))
  (sh_milestonelaw14_BothOnce_k5 P side9 Z h_20))

def sh_milestonelaw14_BothOnce_k7 (P : Program) (i13 : Value) (Z_1 : Value → Heap → Prop) (h_27 : Heap) : Prop :=
  pBin .add i13 (.int .i64 1) fun t110 =>
  Z_1 t110 h_27

def sh_milestonelaw14_BothOnce_k11 (P : Program) (j17 : Value) (Z_2 : Value → Value → Heap → Prop) (k16_1 : Value) (h_33 : Heap) : Prop :=
  pBin .add j17 (.int .i64 1) fun t137 =>
  Z_2 k16_1 t137 h_33

def sh_milestonelaw14_BothOnce_C12 (P : Program) (K : Value → Heap → Prop) (k16 j17 : Value) (Z_2 : Value → Value → Heap → Prop) (t172 : Value) (h_34 : Heap) : Prop :=
  ifV t172
  (K (.bool false) h_34)
  (pBin .add k16 (.int .i64 1) fun t174 =>
  sh_milestonelaw14_BothOnce_k11 P j17 Z_2 t174 h_34)

def sh_milestonelaw14_BothOnce_C10 (P : Program) (j17 : Value) (Z_2 : Value → Value → Heap → Prop) (k16 f6 x14 arcs15 : Value) (K : Value → Heap → Prop) (t152 : Value) (h_32 : Heap) : Prop :=
  ifV t152
  (sh_milestonelaw14_BothOnce_k11 P j17 Z_2 k16 h_32)
  (cutP (σ := Vals [172]) (fun J_3 =>
  pField 2 f6 fun t154 =>
  pLoad h_32 t154 fun t155 =>
  pLen t155 fun t156 =>
  pBin .geq k16 t156 fun t157 =>
  ifV t157
  (J_3 ((.bool true), ()) h_32)
  (pField 2 f6 fun t159 =>
  pLoad h_32 t159 fun t160 =>
  pIdx 4 t160 k16 fun t162 =>
  pLoadN 4 h_32 t162 fun t163 =>
  pField 1 x14 fun t164 =>
  pLoad h_32 t164 fun t165 =>
  pIdx 1 arcs15 j17 fun t168 =>
  pLoad h_32 t168 fun t169 =>
  pBuild [(.int .i64 0), (.int .i64 0), (.int .i64 0), (.int .i64 0)] [(0, 1, (.int .i64 1)), (1, 1, t165), (2, 1, t169)] fun t170 =>
  pEqS .neq 4 t163 t170 fun t171 =>
  J_3 (t171, ()) h_32))
  (fun x hh => sh_milestonelaw14_BothOnce_C12 P K k16 j17 Z_2 x.1 hh))

def sh_milestonelaw14_BothOnce_L9 (P : Program) (arcs15 ask4 f6 x14 : Value) (K : Value → Heap → Prop) (i13 : Value) (Z_1 : Value → Heap → Prop) (k16 j17 : Value) (h_31 : Heap) (Z_2 : Value → Value → Heap → Prop) : Prop :=
  pLen arcs15 fun t134 =>
  pBin .lss j17 t134 fun t135 =>
  ifV t135
  (cutP (σ := Vals [152]) (fun J_2 =>
  pField 2 ask4 fun t138 =>
  pLoad h_31 t138 fun t139 =>
  pLen t139 fun t140 =>
  pBin .gtr t140 (.int .i64 0) fun t141 =>
  ifV t141
  (pField 2 ask4 fun t143 =>
  pLoad h_31 t143 fun t144 =>
  pIdx 1 arcs15 j17 fun t147 =>
  pLoad h_31 t147 fun t148 =>
  pIdx 1 t144 t148 fun t149 =>
  pLoad h_31 t149 fun t150 =>
  pUn .not t150 fun t151 =>
  J_2 (t151, ()) h_31)
  (J_2 ((.bool false), ()) h_31))
  (fun x hh => sh_milestonelaw14_BothOnce_C10 P j17 Z_2 k16 f6 x14 arcs15 K x.1 hh))
  (pField 2 f6 fun t176 =>
  pLoad h_31 t176 fun t177 =>
  pLen t177 fun t178 =>
  pBin .lss k16 t178 fun t179 =>
  ifV t179
  (pField 2 f6 fun t181 =>
  pLoad h_31 t181 fun t182 =>
  pIdx 4 t182 k16 fun t184 =>
  pField 0 t184 fun t185 =>
  pLoad h_31 t185 fun t186 =>
  pBin .neq t186 (.int .i64 0) fun t187 =>
  ifV t187
  (K (.bool false) h_31)
  (sh_milestonelaw14_BothOnce_k7 P i13 Z_1 h_31))
  (sh_milestonelaw14_BothOnce_k7 P i13 Z_1 h_31))

def sh_milestonelaw14_BothOnce_k8 (P : Program) (i13 ask4 f6 x14 : Value) (K Z_1 : Value → Heap → Prop) (arcs15 : Value) (h_30 : Heap) : Prop :=
  pBin .add i13 (.int .i64 1) fun t131 =>
  LoopH (σ := Vals [16, 17]) (fun x hh ZZ => sh_milestonelaw14_BothOnce_L9 P arcs15 ask4 f6 x14 K i13 Z_1 x.1 x.2.1 hh (fun a0 a1 hz => ZZ (a0, (a1, ())) hz)) (t131, ((.int .i64 0), ())) h_30

def sh_milestonelaw14_BothOnce_L6 (P : Program) (f6 t26 ask4 : Value) (K : Value → Heap → Prop) (i13 : Value) (h_24 : Heap) (Z_1 : Value → Heap → Prop) : Prop :=
  pField 2 f6 fun t105 =>
  pLoad h_24 t105 fun t106 =>
  pLen t106 fun t107 =>
  pBin .lss i13 t107 fun t108 =>
  ifV t108
  (pField 2 f6 fun t111 =>
  pLoad h_24 t111 fun t112 =>
  pIdx 4 t112 i13 fun t114 =>
  pLoadN 4 h_24 t114 fun t115 =>
  pBox T_api_Event (.agg #[(.int .i64 0), (.int .i64 0), (.int .i64 0), (.int .i64 0)]) h_24 fun x14 h_25 =>
  pStore 4 x14 t115 h_25 fun u_4 h_26 =>
  pField 0 x14 fun t116 =>
  pLoad h_26 t116 fun t117 =>
  pBin .neq t117 (.int .i64 0) fun t118 =>
  ifV t118
  (sh_milestonelaw14_BothOnce_k7 P i13 Z_1 h_26)
  (pField 2 x14 fun t120 =>
  pLoad h_26 t120 fun t121 =>
  callS P F_net_Net_Out [t26, t121] h_26 fun t122 h_28 =>
  pField 1 x14 fun t123 =>
  pLoad h_28 t123 fun t124 =>
  pBin .eql t124 (.int .i64 1) fun t125 =>
  ifV t125
  (pField 2 x14 fun t127 =>
  pLoad h_28 t127 fun t128 =>
  callS P F_net_Net_In [t26, t128] h_28 fun t129 h_29 =>
  sh_milestonelaw14_BothOnce_k8 P i13 ask4 f6 x14 K Z_1 t129 h_29)
  (sh_milestonelaw14_BothOnce_k8 P i13 ask4 f6 x14 K Z_1 t122 h_28)))
  (K (.bool true) h_24)

def sh_milestonelaw14_BothOnce_L2 (P : Program) (f6 g3 : Value) (K : Value → Heap → Prop) (ends8 t26 ask4 side9 : Value) (h_17 : Heap) (Z : Value → Heap → Prop) : Prop :=
  pBin .lss side9 (.int .i64 2) fun t57 =>
  ifV t57
  (pField 2 f6 fun t60 =>
  pLoad h_17 t60 fun t61 =>
  callS P F_trace_Pops [t61, side9] h_17 fun t63 h_18 =>
  cutP (σ := Vals [79]) (fun J =>
  pLen t63 fun t65 =>
  pField 0 g3 fun t66 =>
  pLoad h_18 t66 fun t67 =>
  pBin .gtr t65 t67 fun t68 =>
  ifV t68
  (J ((.bool true), ()) h_18)
  (pField 2 f6 fun t70 =>
  pLoad h_18 t70 fun t71 =>
  pField 3 g3 fun t75 =>
  pLoad h_18 t75 fun t76 =>
  pLen t76 fun t77 =>
  callS P F_trace_Scans [t71, side9] h_18 fun t73 h_19 =>
  (pLoad h_19 t75 fun t76_1 =>
  t76_1 = t76) ∧
  (pLen t73 fun t74 =>
  pBin .gtr t74 t77 fun t78 =>
  J (t78, ()) h_19)))
  (fun x hh => sh_milestonelaw14_BothOnce_C3 P K t63 f6 ends8 side9 Z x.1 hh))
  (LoopH (σ := Vals [13]) (fun x hh ZZ => sh_milestonelaw14_BothOnce_L6 P f6 t26 ask4 K x.1 hh (fun a0 hz => ZZ (a0, ()) hz)) ((.int .i64 0), ()) h_17)

def sh_milestonelaw14_BothOnce (P : Program) (d0 : Value) (h : Heap) (K : Value → Heap → Prop) : Prop :=
  pBox T_milestonelaw14_Draft d0 h fun d1 h_1 =>
  callS P F_milestonelaw14_works [] h_1 fun t18 h_2 =>
  pUn .not t18 fun t19 =>
  ifV t19
  (K (.bool false) h_2)
  (pLoadN 8 h_2 d1 fun t21 =>
  callS P F_milestonelaw14_Draft_ask [t21] h_2 fun t22 h_3 =>
  pExt t22 0 fun t23 =>
  pExt t22 1 fun t24 =>
  pBox T_api_Raw (.agg #[(.int .i64 0), (.slice none 0 0), (.slice none 0 0), (.slice none 0 0)]) h_3 fun g3 h_4 =>
  pBox T_api_Ask (.agg #[(.int .i64 0), (.int .i64 0), (.slice none 0 0), (.slice none 0 0)]) h_4 fun ask4 h_5 =>
  pStore 4 g3 t23 h_5 fun u h_6 =>
  pStore 4 ask4 t24 h_6 fun u_1 h_7 =>
  pLoadN 4 h_7 g3 fun t25 =>
  callS P F_milestonelaw14_made [t25] h_7 fun t26 h_8 =>
  pEq false .ptr t26 (.pointer none) fun t28 =>
  ifV t28
  (K (.bool false) h_8)
  (pLoadN 4 h_8 ask4 fun t31 =>
  callS P F_both_Run [t26, t31] h_8 fun t32 h_9 =>
  pExt t32 0 fun t33 =>
  pExt t32 1 fun t34 =>
  pBox T_api_Found (.agg #[(.int .i64 0), (.slice none 0 0), (.slice none 0 0)]) h_9 fun f6 h_10 =>
  pStore 3 f6 t33 h_10 fun u_2 h_11 =>
  pBin .neq t34 (.int .i64 0) fun t36 =>
  ifV t36
  (sh_milestonelaw14_BothOnce_k1 P K h_11)
  (pField 2 f6 fun t39 =>
  pLoad h_11 t39 fun t40 =>
  callS P F_trace_Once [t26, t40] h_11 fun t41 h_13 =>
  pUn .not t41 fun t42 =>
  ifV t42
  (sh_milestonelaw14_BothOnce_k1 P K h_13)
  (pField 2 f6 fun t46 =>
  pLoad h_13 t46 fun t47 =>
  callS P F_trace_Heads [t26, t47] h_13 fun t48 h_14 =>
  pUn .not t48 fun t49 =>
  ifV t49
  (sh_milestonelaw14_BothOnce_k1 P K h_14)
  (pField 0 ask4 fun t51 =>
  pLoad h_14 t51 fun t52 =>
  pField 1 ask4 fun t53 =>
  pLoad h_14 t53 fun t54 =>
  pBuild [(.int .i64 0), (.int .i64 0)] [(0, 1, t52), (1, 1, t54)] fun t55 =>
  pBox T_2_int (.agg #[(.int .i64 0), (.int .i64 0)]) h_14 fun ends8 h_15 =>
  pStore 2 ends8 t55 h_15 fun u_3 h_16 =>
  LoopH (σ := Vals [9]) (fun x hh ZZ => sh_milestonelaw14_BothOnce_L2 P f6 g3 K ends8 t26 ask4 x.1 hh (fun a0 hz => ZZ (a0, ()) hz)) ((.int .i64 0), ()) h_16)))))

set_option maxRecDepth 100000 in
theorem lk_milestonelaw14_BothOnce (d0 : Value) {h : Heap} {K : Value → Heap → Prop} (H : sh_milestonelaw14_BothOnce Tryz.prog d0 h K) : CallsH Tryz.prog F_milestonelaw14_BothOnce [d0].toArray h K :=
  callsH_of (ann := (annG (Tryz.f7.body.getD .skip) 0 [(16, [9]), (22, [79]), (26, [103]), (30, [13]), (43, [16, 17]), (48, [152]), (50, [172])]).1) (c := Tryz.f7.body.getD .skip) Tryz.func7 (by kernel_rfl) (by kernel_rfl) (by kernel_rfl) (of_decide_eq_true (by kernel_rfl))
    (Eq.mpr (by kernel_rfl) H)

/-! milestone/milestonelaw14.BothPlain -/

def sh_milestonelaw14_BothPlain_k3 (P : Program) (i10 : Value) (Z : Value → Heap → Prop) (h_21 : Heap) : Prop :=
  pBin .add i10 (.int .i64 1) fun t65 =>
  Z t65 h_21

def sh_milestonelaw14_BothPlain_C4 (P : Program) (K : Value → Heap → Prop) (y11 last9 i10 : Value) (Z : Value → Heap → Prop) (t92 : Value) (h_22 : Heap) : Prop :=
  ifV t92
  (K (.bool false) h_22)
  (pField 1 y11 fun t93 =>
  pLoad h_22 t93 fun t94 =>
  pField 3 y11 fun t95 =>
  pLoad h_22 t95 fun t96 =>
  pIdxA 1 2 last9 t94 fun t97 =>
  pStore 1 t97 t96 h_22 fun u_6 h_23 =>
  sh_milestonelaw14_BothPlain_k3 P i10 Z h_23)

def sh_milestonelaw14_BothPlain_L2 (P : Program) (f6 last9 : Value) (K : Value → Heap → Prop) (i10 : Value) (h_18 : Heap) (Z : Value → Heap → Prop) : Prop :=
  pField 2 f6 fun t60 =>
  pLoad h_18 t60 fun t61 =>
  pLen t61 fun t62 =>
  pBin .lss i10 t62 fun t63 =>
  ifV t63
  (pField 2 f6 fun t66 =>
  pLoad h_18 t66 fun t67 =>
  pIdx 4 t67 i10 fun t69 =>
  pLoadN 4 h_18 t69 fun t70 =>
  pBox T_api_Event (.agg #[(.int .i64 0), (.int .i64 0), (.int .i64 0), (.int .i64 0)]) h_18 fun y11 h_19 =>
  pStore 4 y11 t70 h_19 fun u_5 h_20 =>
  pField 0 y11 fun t71 =>
  pLoad h_20 t71 fun t72 =>
  pBin .neq t72 (.int .i64 0) fun t73 =>
  ifV t73
  (sh_milestonelaw14_BothPlain_k3 P i10 Z h_20)
  (cutP (σ := Vals [92]) (fun J_1 =>
  pField 3 y11 fun t74 =>
  pLoad h_20 t74 fun t75 =>
  pField 1 y11 fun t76 =>
  pLoad h_20 t76 fun t77 =>
  pIdxA 1 2 last9 t77 fun t78 =>
  pLoad h_20 t78 fun t79 =>
  pBin .lss t75 t79 fun t80 =>
  ifV t80
  (J_1 ((.bool true), ()) h_20)
  (pField 0 f6 fun t82 =>
  pLoad h_20 t82 fun t83 =>
  pBin .lss t83 (.int .i64 72057594037927936) fun t84 =>
  ifV t84
  (pField 3 y11 fun t86 =>
  pLoad h_20 t86 fun t87 =>
  pField 0 f6 fun t88 =>
  pLoad h_20 t88 fun t89 =>
  pBin .gtr t87 t89 fun t90 =>
  J_1 (t90, ()) h_20)
  (J_1 ((.bool false), ()) h_20)))
  (fun x hh => sh_milestonelaw14_BothPlain_C4 P K y11 last9 i10 Z x.1 hh)))
  (K (.bool true) h_18)

def sh_milestonelaw14_BothPlain_C1 (P : Program) (K : Value → Heap → Prop) (f6 t57 : Value) (h_15 : Heap) : Prop :=
  ifV t57
  (K (.bool false) h_15)
  (pBuild [(.int .i64 0), (.int .i64 0)] [(0, 1, (.int .i64 0)), (1, 1, (.int .i64 0))] fun t58 =>
  pBox T_2_int64 (.agg #[(.int .i64 0), (.int .i64 0)]) h_15 fun last9 h_16 =>
  pStore 2 last9 t58 h_16 fun u_4 h_17 =>
  LoopH (σ := Vals [10]) (fun x hh ZZ => sh_milestonelaw14_BothPlain_L2 P f6 last9 K x.1 hh (fun a0 hz => ZZ (a0, ()) hz)) ((.int .i64 0), ()) h_17)

def sh_milestonelaw14_BothPlain (P : Program) (d0 : Value) (h : Heap) (K : Value → Heap → Prop) : Prop :=
  pBox T_milestonelaw14_Draft d0 h fun d1 h_1 =>
  callS P F_milestonelaw14_works [] h_1 fun t12 h_2 =>
  pUn .not t12 fun t13 =>
  ifV t13
  (K (.bool false) h_2)
  (pLoadN 8 h_2 d1 fun t15 =>
  callS P F_milestonelaw14_Draft_ask [t15] h_2 fun t16 h_3 =>
  pExt t16 0 fun t17 =>
  pExt t16 1 fun t18 =>
  pBox T_api_Raw (.agg #[(.int .i64 0), (.slice none 0 0), (.slice none 0 0), (.slice none 0 0)]) h_3 fun g3 h_4 =>
  pBox T_api_Ask (.agg #[(.int .i64 0), (.int .i64 0), (.slice none 0 0), (.slice none 0 0)]) h_4 fun own4 h_5 =>
  pStore 4 g3 t17 h_5 fun u h_6 =>
  pStore 4 own4 t18 h_6 fun u_1 h_7 =>
  pLoadN 4 h_7 g3 fun t19 =>
  callS P F_milestonelaw14_made [t19] h_7 fun t20 h_8 =>
  pEq false .ptr t20 (.pointer none) fun t22 =>
  ifV t22
  (K (.bool false) h_8)
  (pField 0 own4 fun t25 =>
  pLoad h_8 t25 fun t26 =>
  pField 1 own4 fun t27 =>
  pLoad h_8 t27 fun t28 =>
  pBuild [(.int .i64 0), (.int .i64 0), (.slice none 0 0), (.slice none 0 0)] [(0, 1, t26), (1, 1, t28)] fun t29 =>
  callS P F_both_Run [t20, t29] h_8 fun t30 h_9 =>
  pExt t30 0 fun t31 =>
  pExt t30 1 fun t32 =>
  pBox T_api_Found (.agg #[(.int .i64 0), (.slice none 0 0), (.slice none 0 0)]) h_9 fun f6 h_10 =>
  pStore 3 f6 t31 h_10 fun u_2 h_11 =>
  pField 0 own4 fun t34 =>
  pLoad h_11 t34 fun t35 =>
  callS P F_flood_From [t20, t35] h_11 fun t36 h_12 =>
  pBox T_flood_Tree (.agg #[(.slice none 0 0), (.slice none 0 0), (.slice none 0 0)]) h_12 fun x8 h_13 =>
  pStore 3 x8 t36 h_13 fun u_3 h_14 =>
  cutP (σ := Vals [57]) (fun J =>
  pBin .neq t32 (.int .i64 0) fun t38 =>
  ifV t38
  (J ((.bool true), ()) h_14)
  (pField 0 x8 fun t40 =>
  pLoad h_14 t40 fun t41 =>
  pLen t41 fun t42 =>
  pField 0 g3 fun t43 =>
  pLoad h_14 t43 fun t44 =>
  pBin .neq t42 t44 fun t45 =>
  ifV t45
  (J ((.bool true), ()) h_14)
  (pField 0 f6 fun t48 =>
  pLoad h_14 t48 fun t49 =>
  pField 0 x8 fun t50 =>
  pLoad h_14 t50 fun t51 =>
  pField 1 own4 fun t52 =>
  pLoad h_14 t52 fun t53 =>
  pIdx 1 t51 t53 fun t54 =>
  pLoad h_14 t54 fun t55 =>
  pBin .neq t49 t55 fun t56 =>
  J (t56, ()) h_14)))
  (fun x hh => sh_milestonelaw14_BothPlain_C1 P K f6 x.1 hh)))

set_option maxRecDepth 100000 in
theorem lk_milestonelaw14_BothPlain (d0 : Value) {h : Heap} {K : Value → Heap → Prop} (H : sh_milestonelaw14_BothPlain Tryz.prog d0 h K) : CallsH Tryz.prog F_milestonelaw14_BothPlain [d0].toArray h K :=
  callsH_of (ann := (annG (Tryz.f8.body.getD .skip) 0 [(12, [57]), (17, [10]), (25, [92])]).1) (c := Tryz.f8.body.getD .skip) Tryz.func8 (by kernel_rfl) (by kernel_rfl) (by kernel_rfl) (of_decide_eq_true (by kernel_rfl))
    (Eq.mpr (by kernel_rfl) H)

end Go.Proofs.YtkeoponidgpfpaaGreatDoor

namespace Go.Proofs.YtkeoponidgpfpaaGreatDoor
open Go Go.Mh
set_option maxHeartbeats 0
set_option linter.unusedVariables false

/-! (milestone/milestonelaw14.Draft).ask -/

def sh_milestonelaw14_Draft_ask_k5 (P : Program) (v9 : Value) (Z_1 : Value → Heap → Prop) (h_23 : Heap) : Prop :=
  pBin .add v9 (.int .i64 1) fun t76 =>
  Z_1 t76 h_23

def sh_milestonelaw14_Draft_ask_k4 (P : Program) (ask6 v9 : Value) (Z_1 : Value → Heap → Prop) (h_19 : Heap) : Prop :=
  pField 3 ask6 fun t103 =>
  pLoad h_19 t103 fun t104 =>
  pBuildSlice T_int64 (zerosL [(.int .i64 0)] 1) [(0, 1, (.int .i64 72057594037927936))] 1 h_19 fun t105 h_20 =>
  pAppend T_int64 1 8 [(.int .i64 0)] t104 t105 h_20 fun t106 h_21 =>
  pField 3 ask6 fun t107 =>
  pStore 1 t107 t106 h_21 fun u_3 h_22 =>
  sh_milestonelaw14_Draft_ask_k5 P v9 Z_1 h_22

def sh_milestonelaw14_Draft_ask_L3 (P : Program) (g5 t70 ask6 t2 t3 : Value) (K : Value → Heap → Prop) (v9 : Value) (h_16 : Heap) (Z_1 : Value → Heap → Prop) : Prop :=
  pField 0 g5 fun t72 =>
  pLoad h_16 t72 fun t73 =>
  pBin .lss v9 t73 fun t74 =>
  ifV t74
  (pIdx 1 t70 v9 fun t79 =>
  pLoad h_16 t79 fun t80 =>
  pField 1 ask6 fun t82 =>
  pLoad h_16 t82 fun t83 =>
  pIdx 1 t70 t83 fun t84 =>
  pLoad h_16 t84 fun t85 =>
  pField 0 ask6 fun t88 =>
  pLoad h_16 t88 fun t89 =>
  pIdx 1 t70 t89 fun t90 =>
  pLoad h_16 t90 fun t91 =>
  pIdx 1 t70 v9 fun t94 =>
  pLoad h_16 t94 fun t95 =>
  callS P F_milestonelaw14_less [t80, t85] h_16 fun t86 h_17 =>
  (pLoad h_17 t88 fun t89_1 =>
  t89_1 = t89) ∧
  (pLoad h_17 t90 fun t91_1 =>
  t91_1 = t91) ∧
  (pLoad h_17 t94 fun t95_1 =>
  t95_1 = t95) ∧
  (callS P F_milestonelaw14_less [t91, t95] h_17 fun t96 h_18 =>
  pBin .geq t86 (.int .i64 72057594037927936) fun t98 =>
  ifV t98
  (sh_milestonelaw14_Draft_ask_k4 P ask6 v9 Z_1 h_18)
  (pBin .geq t96 (.int .i64 72057594037927936) fun t101 =>
  ifV t101
  (sh_milestonelaw14_Draft_ask_k4 P ask6 v9 Z_1 h_18)
  (pField 3 ask6 fun t108 =>
  pLoad h_18 t108 fun t109 =>
  pBin .sub t86 t96 fun t112 =>
  pBuildSlice T_int64 (zerosL [(.int .i64 0)] 1) [(0, 1, t112)] 1 h_18 fun t113 h_24 =>
  pAppend T_int64 1 8 [(.int .i64 0)] t109 t113 h_24 fun t114 h_25 =>
  pField 3 ask6 fun t115 =>
  pStore 1 t115 t114 h_25 fun u_4 h_26 =>
  sh_milestonelaw14_Draft_ask_k5 P v9 Z_1 h_26))))
  (pLoadN 4 h_16 g5 fun t116 =>
  pLoadN 4 h_16 ask6 fun t117 =>
  pStore 4 t2 t116 h_16 fun u_5 h_27 =>
  (pLoadN 4 h_27 ask6 fun t117_1 =>
  t117_1 = t117) ∧
  (pStore 4 t3 t117 h_27 fun u_6 h_28 =>
  pLoadN 4 h_28 t2 fun res =>
  pLoadN 4 h_28 t3 fun res_1 =>
  K (.tuple #[res, res_1]) h_28))

def sh_milestonelaw14_Draft_ask_k7 (P : Program) (g5 ask6 t2 t3 : Value) (K : Value → Heap → Prop) (h_33 : Heap) : Prop :=
  pLoadN 4 h_33 g5 fun t144 =>
  pLoadN 4 h_33 ask6 fun t145 =>
  pStore 4 t2 t144 h_33 fun u_8 h_34 =>
  (pLoadN 4 h_34 ask6 fun t145_1 =>
  t145_1 = t145) ∧
  (pStore 4 t3 t145 h_34 fun u_9 h_35 =>
  pLoadN 4 h_35 t2 fun res_2 =>
  pLoadN 4 h_35 t3 fun res_3 =>
  K (.tuple #[res_2, res_3]) h_35)

def sh_milestonelaw14_Draft_ask_L6 (P : Program) (g5 d1 ask6 t2 t3 : Value) (K : Value → Heap → Prop) (v12 : Value) (h_29 : Heap) (Z_2 : Value → Heap → Prop) : Prop :=
  pField 0 g5 fun t119 =>
  pLoad h_29 t119 fun t120 =>
  pBin .lss v12 t120 fun t121 =>
  ifV t121
  (pField 6 d1 fun t123 =>
  pLoad h_29 t123 fun t124 =>
  pLen t124 fun t125 =>
  pBin .gtr t125 (.int .i64 0) fun t126 =>
  ifV t126
  (pField 3 ask6 fun t130 =>
  pLoad h_29 t130 fun t131 =>
  pField 6 d1 fun t132 =>
  pLoad h_29 t132 fun t133 =>
  pField 6 d1 fun t135 =>
  pLoad h_29 t135 fun t136 =>
  pLen t136 fun t137 =>
  pBin .rem v12 t137 fun t138 =>
  pIdx 1 t133 t138 fun t139 =>
  pLoad h_29 t139 fun t140 =>
  pBuildSlice T_int64 (zerosL [(.int .i64 0)] 1) [(0, 1, t140)] 1 h_29 fun t141 h_30 =>
  pAppend T_int64 1 8 [(.int .i64 0)] t131 t141 h_30 fun t142 h_31 =>
  pField 3 ask6 fun t143 =>
  pStore 1 t143 t142 h_31 fun u_7 h_32 =>
  pBin .add v12 (.int .i64 1) fun t129 =>
  Z_2 t129 h_32)
  (sh_milestonelaw14_Draft_ask_k7 P g5 ask6 t2 t3 K h_29))
  (sh_milestonelaw14_Draft_ask_k7 P g5 ask6 t2 t3 K h_29)

def sh_milestonelaw14_Draft_ask_k2 (P : Program) (d1 g5 ask6 t2 t3 : Value) (K : Value → Heap → Prop) (h_14 : Heap) : Prop :=
  pField 4 d1 fun t60 =>
  pLoad h_14 t60 fun t61 =>
  ifV t61
  (pLoadN 4 h_14 g5 fun t62 =>
  pField 7 d1 fun t63 =>
  pLoad h_14 t63 fun t64 =>
  pConv .i64 t64 fun t65 =>
  pField 0 g5 fun t66 =>
  pLoad h_14 t66 fun t67 =>
  pBin .rem t65 t67 fun t68 =>
  callS P F_milestoneref10_To [t62, t68] h_14 fun t69 h_15 =>
  pPart1 0 t69 fun t70 =>
  LoopH (σ := Vals [9]) (fun x hh ZZ => sh_milestonelaw14_Draft_ask_L3 P g5 t70 ask6 t2 t3 K x.1 hh (fun a0 hz => ZZ (a0, ()) hz)) ((.int .i64 0), ()) h_15)
  (LoopH (σ := Vals [12]) (fun x hh ZZ => sh_milestonelaw14_Draft_ask_L6 P g5 d1 ask6 t2 t3 K x.1 hh (fun a0 hz => ZZ (a0, ()) hz)) ((.int .i64 0), ()) h_14)

def sh_milestonelaw14_Draft_ask_L1 (P : Program) (g5 d1 ask6 t2 t3 : Value) (K : Value → Heap → Prop) (i7 : Value) (h_10 : Heap) (Z : Value → Heap → Prop) : Prop :=
  pField 3 g5 fun t38 =>
  pLoad h_10 t38 fun t39 =>
  pLen t39 fun t40 =>
  pBin .lss i7 t40 fun t41 =>
  ifV t41
  (pField 3 d1 fun t43 =>
  pLoad h_10 t43 fun t44 =>
  ifV t44
  (pField 2 ask6 fun t48 =>
  pLoad h_10 t48 fun t49 =>
  pField 5 d1 fun t50 =>
  pLoad h_10 t50 fun t51 =>
  pBin .rem i7 (.int .i64 64) fun t53 =>
  pBin .shr t51 t53 fun t54 =>
  pBin .and t54 (.int .u64 1) fun t55 =>
  pBin .eql t55 (.int .u64 0) fun t56 =>
  pBuildSlice T_bool (zerosL [(.bool false)] 1) [(0, 1, t56)] 1 h_10 fun t57 h_11 =>
  pAppend T_bool 1 1 [(.bool false)] t49 t57 h_11 fun t58 h_12 =>
  pField 2 ask6 fun t59 =>
  pStore 1 t59 t58 h_12 fun u_2 h_13 =>
  pBin .add i7 (.int .i64 1) fun t47 =>
  Z t47 h_13)
  (sh_milestonelaw14_Draft_ask_k2 P d1 g5 ask6 t2 t3 K h_10))
  (sh_milestonelaw14_Draft_ask_k2 P d1 g5 ask6 t2 t3 K h_10)

def sh_milestonelaw14_Draft_ask (P : Program) (d0 : Value) (h : Heap) (K : Value → Heap → Prop) : Prop :=
  pBox T_milestonelaw14_Draft d0 h fun d1 h_1 =>
  pBox T_api_Raw (.agg #[(.int .i64 0), (.slice none 0 0), (.slice none 0 0), (.slice none 0 0)]) h_1 fun t2 h_2 =>
  pBox T_api_Ask (.agg #[(.int .i64 0), (.int .i64 0), (.slice none 0 0), (.slice none 0 0)]) h_2 fun t3 h_3 =>
  pField 0 d1 fun t13 =>
  pLoad h_3 t13 fun t14 =>
  pField 0 d1 fun t15 =>
  pLoad h_3 t15 fun t16 =>
  pLen t16 fun t17 =>
  pMin t17 (.int .i64 80) fun t18 =>
  pSlice 1 t14 none (some t18) none fun t19 =>
  pBuild [(.slice none 0 0), (.int .i64 0)] [(0, 1, t19)] fun t20 =>
  pBox T_milestoneref07_Draft t20 h_3 fun t21 h_4 =>
  callS P F_milestoneref07_Draft_Raw [t21] h_4 fun t23 h_5 =>
  pBox T_api_Raw (.agg #[(.int .i64 0), (.slice none 0 0), (.slice none 0 0), (.slice none 0 0)]) h_5 fun g5 h_6 =>
  pStore 4 g5 t23 h_6 fun u h_7 =>
  pField 1 d1 fun t24 =>
  pLoad h_7 t24 fun t25 =>
  pConv .i64 t25 fun t26 =>
  pField 0 g5 fun t27 =>
  pLoad h_7 t27 fun t28 =>
  pBin .rem t26 t28 fun t29 =>
  pField 2 d1 fun t30 =>
  pLoad h_7 t30 fun t31 =>
  pConv .i64 t31 fun t32 =>
  pField 0 g5 fun t33 =>
  pLoad h_7 t33 fun t34 =>
  pBin .rem t32 t34 fun t35 =>
  pBuild [(.int .i64 0), (.int .i64 0), (.slice none 0 0), (.slice none 0 0)] [(0, 1, t29), (1, 1, t35)] fun t36 =>
  pBox T_api_Ask (.agg #[(.int .i64 0), (.int .i64 0), (.slice none 0 0), (.slice none 0 0)]) h_7 fun ask6 h_8 =>
  pStore 4 ask6 t36 h_8 fun u_1 h_9 =>
  LoopH (σ := Vals [7]) (fun x hh ZZ => sh_milestonelaw14_Draft_ask_L1 P g5 d1 ask6 t2 t3 K x.1 hh (fun a0 hz => ZZ (a0, ()) hz)) ((.int .i64 0), ()) h_9

set_option maxRecDepth 100000 in
theorem lk_milestonelaw14_Draft_ask (d0 : Value) {h : Heap} {K : Value → Heap → Prop} (H : sh_milestonelaw14_Draft_ask Tryz.prog d0 h K) : CallsH Tryz.prog F_milestonelaw14_Draft_ask [d0].toArray h K :=
  callsH_of (ann := (annG (Tryz.f9.body.getD .skip) 0 [(6, [7]), (15, [9]), (24, [12])]).1) (c := Tryz.f9.body.getD .skip) Tryz.func9 (by kernel_rfl) (by kernel_rfl) (by kernel_rfl) (of_decide_eq_true (by kernel_rfl))
    (Eq.mpr (by kernel_rfl) H)

/-! milestone/milestonelaw14.made -/

def sh_milestonelaw14_made (P : Program) (g0 : Value) (h : Heap) (K : Value → Heap → Prop) : Prop :=
  pBox T_api_Raw g0 h fun g1 h_1 =>
  pLoadN 4 h_1 g1 fun t6 =>
  callS P F_net_New [t6] h_1 fun t7 h_2 =>
  pExt t7 0 fun t8 =>
  pExt t7 1 fun t9 =>
  pEq true .iface t9 .nilIface fun t11 =>
  ifV t11
  (K (.pointer none) h_2)
  (K t8 h_2)

set_option maxRecDepth 100000 in
theorem lk_milestonelaw14_made (g0 : Value) {h : Heap} {K : Value → Heap → Prop} (H : sh_milestonelaw14_made Tryz.prog g0 h K) : CallsH Tryz.prog F_milestonelaw14_made [g0].toArray h K :=
  callsH_of (ann := (annG (Tryz.f10.body.getD .skip) 0 []).1) (c := Tryz.f10.body.getD .skip) Tryz.func10 (by kernel_rfl) (by kernel_rfl) (by kernel_rfl) (of_decide_eq_true (by kernel_rfl))
    (Eq.mpr (by kernel_rfl) H)

/-! milestone/both.Run -/

def sh_both_Run_k2 (P : Program) (t29 t4 : Value) (K : Value → Heap → Prop) (h_22 : Heap) : Prop :=
  pNil t29 fun t110 =>
  pField 7 t110 fun t111 =>
  pLoadN 3 h_22 t111 fun t112 =>
  pStore 3 t4 t112 h_22 fun u_5 h_23 =>
  pLoadN 3 h_23 t4 fun res_3 =>
  K (.tuple #[res_3, (.int .i64 0)]) h_23

def sh_both_Run_L1 (P : Program) (t29 t4 : Value) (K : Value → Heap → Prop) (x7 : Value) (h_13 : Heap) (Z : Value → Heap → Prop) : Prop :=
  pEq true .ptr x7 (.pointer none) fun t63 =>
  ifV t63
  (callS P F_both_search_step [t29, x7] h_13 fun t68 h_14 =>
  callS P F_both_search_next [t29] h_14 fun t65 h_15 =>
  Z t65 h_15)
  (pNil t29 fun t70 =>
  pField 7 t70 fun t71 =>
  pField 0 t71 fun t72 =>
  pLoad h_13 t72 fun t73 =>
  pBin .lss t73 (.int .i64 72057594037927936) fun t74 =>
  ifV t74
  (pNil t29 fun t78 =>
  pField 5 t78 fun t79 =>
  pIdxA 1 2 t79 (.int .i64 0) fun t80 =>
  pLoad h_13 t80 fun t81 =>
  callS P F_both_search_back [t29, t81] h_13 fun t82 h_16 =>
  pNil t29 fun t83 =>
  pField 7 t83 fun t84 =>
  pField 1 t84 fun t85 =>
  pStore 1 t85 t82 h_16 fun u_3 h_17 =>
  pNil t29 fun t87 =>
  pField 7 t87 fun t88 =>
  pField 1 t88 fun t89 =>
  pLoad h_17 t89 fun t90 =>
  callS P F_slices_Reverse_sl_int_int [t90] h_17 fun t91 h_18 =>
  pNil t29 fun t94 =>
  pField 7 t94 fun t95 =>
  pField 1 t95 fun t96 =>
  pLoad h_18 t96 fun t97 =>
  pNil t29 fun t100 =>
  pField 5 t100 fun t101 =>
  pIdxA 1 2 t101 (.int .i64 1) fun t102 =>
  pLoad h_18 t102 fun t103 =>
  callS P F_both_search_back [t29, t103] h_18 fun t104 h_19 =>
  (pLoad h_19 t96 fun t97_1 =>
  t97_1 = t97) ∧
  (pAppend T_int 1 8 [(.int .i64 0)] t97 t104 h_19 fun t105 h_20 =>
  pNil t29 fun t106 =>
  pField 7 t106 fun t107 =>
  pField 1 t107 fun t108 =>
  pStore 1 t108 t105 h_20 fun u_4 h_21 =>
  sh_both_Run_k2 P t29 t4 K h_21))
  (sh_both_Run_k2 P t29 t4 K h_13))

def sh_both_Run (P : Program) (n0 ask1 : Value) (h : Heap) (K : Value → Heap → Prop) : Prop :=
  pBox T_api_Ask ask1 h fun ask3 h_1 =>
  pBox T_api_Found (.agg #[(.int .i64 0), (.slice none 0 0), (.slice none 0 0)]) h_1 fun t4 h_2 =>
  pEq false .ptr n0 (.pointer none) fun t10 =>
  ifV t10
  (pBuild [(.int .i64 0), (.slice none 0 0), (.slice none 0 0)] [] fun t11 =>
  pStore 3 t4 t11 h_2 fun u h_3 =>
  pLoadN 3 h_3 t4 fun res =>
  K (.tuple #[res, (.int .i64 1)]) h_3)
  (pLoadN 4 h_2 ask3 fun t14 =>
  callS P F_both_right [n0, t14] h_2 fun t15 h_4 =>
  pUn .not t15 fun t16 =>
  ifV t16
  (pBuild [(.int .i64 0), (.slice none 0 0), (.slice none 0 0)] [] fun t17 =>
  pStore 3 t4 t17 h_4 fun u_1 h_5 =>
  pLoadN 3 h_5 t4 fun res_1 =>
  K (.tuple #[res_1, (.int .i64 2)]) h_5)
  (pField 0 ask3 fun t19 =>
  pLoad h_4 t19 fun t20 =>
  pField 1 ask3 fun t21 =>
  pLoad h_4 t21 fun t22 =>
  pBin .eql t20 t22 fun t23 =>
  ifV t23
  (pBuild [(.int .i64 0), (.slice none 0 0), (.slice none 0 0)] [] fun t24 =>
  pStore 3 t4 t24 h_4 fun u_2 h_6 =>
  pLoadN 3 h_6 t4 fun res_2 =>
  K (.tuple #[res_2, (.int .i64 0)]) h_6)
  (pLoadN 4 h_4 ask3 fun t26 =>
  pBuild [(.int .i64 0), (.slice none 0 0), (.slice none 0 0)] [(0, 1, (.int .i64 72057594037927936))] fun t27 =>
  pBuild [(.pointer none), (.int .i64 0), (.int .i64 0), (.slice none 0 0), (.slice none 0 0), (.pointer none), (.pointer none), (.int .i64 0), (.slice none 0 0), (.slice none 0 0), (.int .i64 0)] [(0, 1, n0), (1, 4, t26), (7, 3, t27)] fun t28 =>
  pBox T_both_search t28 h_4 fun t29 h_7 =>
  pField 0 ask3 fun t31 =>
  pLoad h_7 t31 fun t32 =>
  callS P F_both_search_begin [t29, (.int .i64 0), t32, (.int .i64 1), (.func (.func F_net_Net_Out) #[n0] #[]), (.func (.func F_both_Run_1) #[] #[])] h_7 fun t35 h_8 =>
  pField 1 ask3 fun t37 =>
  pLoad h_8 t37 fun t38 =>
  callS P F_both_search_begin [t29, (.int .i64 1), t38, (.int .i64 (-1)), (.func (.func F_net_Net_In) #[n0] #[]), (.func (.func F_both_Run_2) #[] #[])] h_8 fun t41 h_9 =>
  pNil t29 fun t44 =>
  pField 5 t44 fun t45 =>
  pIdxA 1 2 t45 (.int .i64 0) fun t46 =>
  pLoad h_9 t46 fun t47 =>
  pField 0 ask3 fun t48 =>
  pLoad h_9 t48 fun t49 =>
  callS P F_both_search_reach [t29, t47, t49, (.int .i64 (-1)), (.int .i64 0)] h_9 fun t50 h_10 =>
  pNil t29 fun t53 =>
  pField 5 t53 fun t54 =>
  pIdxA 1 2 t54 (.int .i64 1) fun t55 =>
  pLoad h_10 t55 fun t56 =>
  pField 1 ask3 fun t57 =>
  pLoad h_10 t57 fun t58 =>
  callS P F_both_search_reach [t29, t56, t58, (.int .i64 (-1)), (.int .i64 0)] h_10 fun t59 h_11 =>
  callS P F_both_search_next [t29] h_11 fun t61 h_12 =>
  LoopH (σ := Vals [7]) (fun x hh ZZ => sh_both_Run_L1 P t29 t4 K x.1 hh (fun a0 hz => ZZ (a0, ()) hz)) (t61, ()) h_12)))

set_option maxRecDepth 100000 in
theorem lk_both_Run (n0 ask1 : Value) {h : Heap} {K : Value → Heap → Prop} (H : sh_both_Run Tryz.prog n0 ask1 h K) : CallsH Tryz.prog F_both_Run [n0, ask1].toArray h K :=
  callsH_of (ann := (annG (Tryz.f11.body.getD .skip) 0 [(15, [7])]).1) (c := Tryz.f11.body.getD .skip) Tryz.func11 (by kernel_rfl) (by kernel_rfl) (by kernel_rfl) (of_decide_eq_true (by kernel_rfl))
    (Eq.mpr (by kernel_rfl) H)

/-! milestone/milestoneref14.Error -/

def sh_milestoneref14_Error_k1 (P : Program) (K : Value → Heap → Prop) (h_3 : Heap) : Prop :=
  K (.int .i64 2) h_3

def sh_milestoneref14_Error_k3 (P : Program) (K : Value → Heap → Prop) (h_5 : Heap) : Prop :=
  K (.int .i64 0) h_5

def sh_milestoneref14_Error_k2 (P : Program) (K : Value → Heap → Prop) (t55 : Value) (h_4 : Heap) : Prop :=
  ifV t55
  (sh_milestoneref14_Error_k1 P K h_4)
  (sh_milestoneref14_Error_k3 P K h_4)

def sh_milestoneref14_Error (P : Program) (g0 ask1 : Value) (h : Heap) (K : Value → Heap → Prop) : Prop :=
  pBox T_api_Raw g0 h fun g2 h_1 =>
  pBox T_api_Ask ask1 h_1 fun ask3 h_2 =>
  pField 0 ask3 fun t5 =>
  pLoad h_2 t5 fun t6 =>
  pBin .lss t6 (.int .i64 0) fun t7 =>
  ifV t7
  (sh_milestoneref14_Error_k1 P K h_2)
  (pField 0 ask3 fun t9 =>
  pLoad h_2 t9 fun t10 =>
  pField 0 g2 fun t11 =>
  pLoad h_2 t11 fun t12 =>
  pBin .geq t10 t12 fun t13 =>
  ifV t13
  (sh_milestoneref14_Error_k1 P K h_2)
  (pField 1 ask3 fun t16 =>
  pLoad h_2 t16 fun t17 =>
  pBin .lss t17 (.int .i64 0) fun t18 =>
  ifV t18
  (sh_milestoneref14_Error_k1 P K h_2)
  (pField 1 ask3 fun t21 =>
  pLoad h_2 t21 fun t22 =>
  pField 0 g2 fun t23 =>
  pLoad h_2 t23 fun t24 =>
  pBin .geq t22 t24 fun t25 =>
  ifV t25
  (sh_milestoneref14_Error_k1 P K h_2)
  (pField 2 ask3 fun t28 =>
  pLoad h_2 t28 fun t29 =>
  pLen t29 fun t30 =>
  pBin .gtr t30 (.int .i64 0) fun t31 =>
  ifV t31
  (pField 2 ask3 fun t33 =>
  pLoad h_2 t33 fun t34 =>
  pLen t34 fun t35 =>
  pField 3 g2 fun t36 =>
  pLoad h_2 t36 fun t37 =>
  pLen t37 fun t38 =>
  pBin .neq t35 t38 fun t39 =>
  ifV t39
  (sh_milestoneref14_Error_k1 P K h_2)
  (pField 3 ask3 fun t43 =>
  pLoad h_2 t43 fun t44 =>
  pLen t44 fun t45 =>
  pBin .gtr t45 (.int .i64 0) fun t46 =>
  ifV t46
  (pField 3 ask3 fun t48 =>
  pLoad h_2 t48 fun t49 =>
  pLen t49 fun t50 =>
  pField 0 g2 fun t51 =>
  pLoad h_2 t51 fun t52 =>
  pBin .neq t50 t52 fun t53 =>
  sh_milestoneref14_Error_k2 P K t53 h_2)
  (sh_milestoneref14_Error_k3 P K h_2)))
  (pField 3 ask3 fun t43_1 =>
  pLoad h_2 t43_1 fun t44_1 =>
  pLen t44_1 fun t45_1 =>
  pBin .gtr t45_1 (.int .i64 0) fun t46_1 =>
  ifV t46_1
  (pField 3 ask3 fun t48_1 =>
  pLoad h_2 t48_1 fun t49_1 =>
  pLen t49_1 fun t50_1 =>
  pField 0 g2 fun t51_1 =>
  pLoad h_2 t51_1 fun t52_1 =>
  pBin .neq t50_1 t52_1 fun t53_1 =>
  sh_milestoneref14_Error_k2 P K t53_1 h_2)
  (sh_milestoneref14_Error_k3 P K h_2))))))

set_option maxRecDepth 100000 in
theorem lk_milestoneref14_Error (g0 ask1 : Value) {h : Heap} {K : Value → Heap → Prop} (H : sh_milestoneref14_Error Tryz.prog g0 ask1 h K) : CallsH Tryz.prog F_milestoneref14_Error [g0, ask1].toArray h K :=
  callsH_of (ann := (annG (Tryz.f12.body.getD .skip) 0 []).1) (c := Tryz.f12.body.getD .skip) Tryz.func12 (by kernel_rfl) (by kernel_rfl) (by kernel_rfl) (of_decide_eq_true (by kernel_rfl))
    (Eq.mpr (by kernel_rfl) H)

/-! milestone/milestonelaw14.works -/

def sh_milestonelaw14_works (P : Program) (h : Heap) (K : Value → Heap → Prop) : Prop :=
  callS P F_milestonelaw14_row [] h fun t2 h_1 =>
  pBox T_api_Raw (.agg #[(.int .i64 0), (.slice none 0 0), (.slice none 0 0), (.slice none 0 0)]) h_1 fun g1 h_2 =>
  pStore 4 g1 t2 h_2 fun u h_3 =>
  pLoadN 4 h_3 g1 fun t3 =>
  pBuild [(.int .i64 0), (.int .i64 0), (.slice none 0 0), (.slice none 0 0)] [(1, 1, (.int .i64 3))] fun t4 =>
  pBuildSlice T_int (zerosL [(.int .i64 0)] 3) [(0, 1, (.int .i64 0)), (1, 1, (.int .i64 1)), (2, 1, (.int .i64 2))] 3 h_3 fun t5 h_4 =>
  callS P F_milestonelaw14_finds [t3, t4, (.int .i64 7), t5] h_4 fun t6 h_5 =>
  ifV t6
  (pLoadN 4 h_5 g1 fun t8 =>
  pBuildSlice T_bool (zerosL [(.bool false)] 4) [(0, 1, (.bool true)), (1, 1, (.bool false)), (2, 1, (.bool true)), (3, 1, (.bool true))] 4 h_5 fun t9 h_6 =>
  pBuild [(.int .i64 0), (.int .i64 0), (.slice none 0 0), (.slice none 0 0)] [(1, 1, (.int .i64 3)), (2, 1, t9)] fun t10 =>
  pBuildSlice T_int (zerosL [(.int .i64 0)] 1) [(0, 1, (.int .i64 3))] 1 h_6 fun t11 h_7 =>
  callS P F_milestonelaw14_finds [t8, t10, (.int .i64 9), t11] h_7 fun t12 h_8 =>
  ifV t12
  (pLoadN 4 h_8 g1 fun t15 =>
  pBuild [(.int .i64 0), (.int .i64 0), (.slice none 0 0), (.slice none 0 0)] [(0, 1, (.int .i64 3))] fun t16 =>
  callS P F_milestonelaw14_finds [t15, t16, (.int .i64 72057594037927936), (.slice none 0 0)] h_8 fun t17 h_9 =>
  ifV t17
  (pLoadN 4 h_9 g1 fun t20 =>
  pBuild [(.int .i64 0), (.int .i64 0), (.slice none 0 0), (.slice none 0 0)] [(0, 1, (.int .i64 2)), (1, 1, (.int .i64 2))] fun t21 =>
  callS P F_milestonelaw14_finds [t20, t21, (.int .i64 0), (.slice none 0 0)] h_9 fun t22 h_10 =>
  ifV t22
  (pLoadN 4 h_10 g1 fun t25 =>
  pBuildSlice T_int64 (zerosL [(.int .i64 0)] 4) [(0, 1, (.int .i64 0)), (1, 1, (.int .i64 72057594037927936)), (2, 1, (.int .i64 0)), (3, 1, (.int .i64 0))] 4 h_10 fun t26 h_11 =>
  pBuild [(.int .i64 0), (.int .i64 0), (.slice none 0 0), (.slice none 0 0)] [(1, 1, (.int .i64 3)), (3, 1, t26)] fun t27 =>
  pBuildSlice T_int (zerosL [(.int .i64 0)] 1) [(0, 1, (.int .i64 3))] 1 h_11 fun t28 h_12 =>
  callS P F_milestonelaw14_finds [t25, t27, (.int .i64 9), t28] h_12 fun t29 h_13 =>
  K t29 h_13)
  (K (.bool false) h_10))
  (K (.bool false) h_9))
  (K (.bool false) h_8))
  (K (.bool false) h_5)

set_option maxRecDepth 100000 in
theorem lk_milestonelaw14_works {h : Heap} {K : Value → Heap → Prop} (H : sh_milestonelaw14_works Tryz.prog h K) : CallsH Tryz.prog F_milestonelaw14_works [].toArray h K :=
  callsH_of (ann := (annG (Tryz.f13.body.getD .skip) 0 []).1) (c := Tryz.f13.body.getD .skip) Tryz.func13 (by kernel_rfl) (by kernel_rfl) (by kernel_rfl) (of_decide_eq_true (by kernel_rfl))
    (Eq.mpr (by kernel_rfl) H)

/-! milestone/graph.Turned -/

def sh_graph_Turned_L1 (P : Program) (t9 t8 r1 t2 : Value) (K : Value → Heap → Prop) (t10 : Value) (h_5 : Heap) (Z : Value → Heap → Prop) : Prop :=
  pBin .lss t10 t9 fun t11 =>
  ifV t11
  (pIdx 3 t8 t10 fun t13 =>
  pLoadN 3 h_5 t13 fun t14 =>
  pBox T_api_Arc (.agg #[(.int .i64 0), (.int .i64 0), (.int .i64 0)]) h_5 fun a4 h_6 =>
  pStore 3 a4 t14 h_6 fun u_1 h_7 =>
  pField 3 r1 fun t15 =>
  pLoad h_7 t15 fun t16 =>
  pField 3 r1 fun t18 =>
  pLoad h_7 t18 fun t19 =>
  pField 1 a4 fun t21 =>
  pLoad h_7 t21 fun t22 =>
  pField 0 a4 fun t23 =>
  pLoad h_7 t23 fun t24 =>
  pIdx 3 t16 t10 fun t25 =>
  pField 0 t25 fun t26 =>
  pStore 1 t26 t22 h_7 fun u_2 h_8 =>
  (pLoad h_8 t18 fun t19_1 =>
  t19_1 = t19) ∧
  (pLoad h_8 t23 fun t24_1 =>
  t24_1 = t24) ∧
  (pIdx 3 t19 t10 fun t27 =>
  pField 1 t27 fun t28 =>
  pStore 1 t28 t24 h_8 fun u_3 h_9 =>
  pBin .add t10 (.int .i64 1) fun t29 =>
  Z t29 h_9))
  (pLoadN 4 h_5 r1 fun t30 =>
  pStore 4 t2 t30 h_5 fun u_4 h_10 =>
  pLoadN 4 h_10 t2 fun res =>
  K res h_10)

def sh_graph_Turned (P : Program) (r0 : Value) (h : Heap) (K : Value → Heap → Prop) : Prop :=
  pBox T_api_Raw r0 h fun r1 h_1 =>
  pBox T_api_Raw (.agg #[(.int .i64 0), (.slice none 0 0), (.slice none 0 0), (.slice none 0 0)]) h_1 fun t2 h_2 =>
  pLoadN 4 h_2 r1 fun t5 =>
  callS P F_graph_copied [t5] h_2 fun t6 h_3 =>
  pStore 4 r1 t6 h_3 fun u h_4 =>
  pField 3 r1 fun t7 =>
  pLoad h_4 t7 fun t8 =>
  pLen t8 fun t9 =>
  LoopH (σ := Vals [10]) (fun x hh ZZ => sh_graph_Turned_L1 P t9 t8 r1 t2 K x.1 hh (fun a0 hz => ZZ (a0, ()) hz)) ((.int .i64 0), ()) h_4

set_option maxRecDepth 100000 in
theorem lk_graph_Turned (r0 : Value) {h : Heap} {K : Value → Heap → Prop} (H : sh_graph_Turned Tryz.prog r0 h K) : CallsH Tryz.prog F_graph_Turned [r0].toArray h K :=
  callsH_of (ann := (annG (Tryz.f14.body.getD .skip) 0 [(4, [10])]).1) (c := Tryz.f14.body.getD .skip) Tryz.func14 (by kernel_rfl) (by kernel_rfl) (by kernel_rfl) (of_decide_eq_true (by kernel_rfl))
    (Eq.mpr (by kernel_rfl) H)

/-! milestone/milestoneref14.Feasible -/

def sh_milestoneref14_Feasible_C2 (P : Program) (K : Value → Heap → Prop) (i5 : Value) (Z : Value → Heap → Prop) (t37 : Value) (h_9 : Heap) : Prop :=
  ifV t37
  (K (.bool false) h_9)
  (pBin .add i5 (.int .i64 1) fun t13 =>
  Z t13 h_9)

def sh_milestoneref14_Feasible_L1 (P : Program) (g2 ask3 : Value) (K : Value → Heap → Prop) (i5 : Value) (h_3 : Heap) (Z : Value → Heap → Prop) : Prop :=
  pField 3 g2 fun t8 =>
  pLoad h_3 t8 fun t9 =>
  pLen t9 fun t10 =>
  pBin .lss i5 t10 fun t11 =>
  ifV t11
  (pField 3 g2 fun t14 =>
  pLoad h_3 t14 fun t15 =>
  pIdx 3 t15 i5 fun t17 =>
  pLoadN 3 h_3 t17 fun t18 =>
  pBox T_api_Arc (.agg #[(.int .i64 0), (.int .i64 0), (.int .i64 0)]) h_3 fun a6 h_4 =>
  pStore 3 a6 t18 h_4 fun u h_5 =>
  cutP (σ := Vals [37]) (fun J =>
  pLoadN 4 h_5 g2 fun t19 =>
  pLoadN 4 h_5 ask3 fun t20 =>
  callS P F_milestoneref14_In [t19, t20, i5] h_5 fun t22 h_6 =>
  ifV t22
  (pLoadN 4 h_6 ask3 fun t24 =>
  pField 0 a6 fun t25 =>
  pLoad h_6 t25 fun t26 =>
  pLoadN 4 h_6 ask3 fun t28 =>
  pField 1 a6 fun t29 =>
  pLoad h_6 t29 fun t30 =>
  pField 2 a6 fun t32 =>
  pLoad h_6 t32 fun t33 =>
  pBin .mul (.int .i64 2) t33 fun t34 =>
  callS P F_milestoneref14_pi [t24, t26] h_6 fun t27 h_7 =>
  (pLoadN 4 h_7 ask3 fun t28_1 =>
  t28_1 = t28) ∧
  (pLoad h_7 t29 fun t30_1 =>
  t30_1 = t30) ∧
  (pLoad h_7 t32 fun t33_1 =>
  t33_1 = t33) ∧
  (callS P F_milestoneref14_pi [t28, t30] h_7 fun t31 h_8 =>
  (pLoad h_8 t32 fun t33_2 =>
  t33_2 = t33) ∧
  (pBin .add t31 t34 fun t35 =>
  pBin .gtr t27 t35 fun t36 =>
  J (t36, ()) h_8)))
  (J ((.bool false), ()) h_6))
  (fun x hh => sh_milestoneref14_Feasible_C2 P K i5 Z x.1 hh))
  (K (.bool true) h_3)

def sh_milestoneref14_Feasible (P : Program) (g0 ask1 : Value) (h : Heap) (K : Value → Heap → Prop) : Prop :=
  pBox T_api_Raw g0 h fun g2 h_1 =>
  pBox T_api_Ask ask1 h_1 fun ask3 h_2 =>
  LoopH (σ := Vals [5]) (fun x hh ZZ => sh_milestoneref14_Feasible_L1 P g2 ask3 K x.1 hh (fun a0 hz => ZZ (a0, ()) hz)) ((.int .i64 0), ()) h_2

set_option maxRecDepth 100000 in
theorem lk_milestoneref14_Feasible (g0 ask1 : Value) {h : Heap} {K : Value → Heap → Prop} (H : sh_milestoneref14_Feasible Tryz.prog g0 ask1 h K) : CallsH Tryz.prog F_milestoneref14_Feasible [g0, ask1].toArray h K :=
  callsH_of (ann := (annG (Tryz.f15.body.getD .skip) 0 [(3, [5]), (8, [37])]).1) (c := Tryz.f15.body.getD .skip) Tryz.func15 (by kernel_rfl) (by kernel_rfl) (by kernel_rfl) (of_decide_eq_true (by kernel_rfl))
    (Eq.mpr (by kernel_rfl) H)

/-! milestone/milestoneref14.Reach -/

def sh_milestoneref14_Reach_k8 (P : Program) (i11 : Value) (Z_2 : Value → Value → Heap → Prop) (more10_2 : Value) (h_16 : Heap) : Prop :=
  pBin .add i11 (.int .i64 1) fun t42 =>
  Z_2 more10_2 t42 h_16

def sh_milestoneref14_Reach_C7 (P : Program) (l7 tail12 g3 i11 head13 : Value) (Z_2 : Value → Value → Heap → Prop) (more10_1 t87 : Value) (h_14 : Heap) : Prop :=
  ifV t87
  (pIdx 1 l7 tail12 fun t92 =>
  pLoad h_14 t92 fun t93 =>
  pField 3 g3 fun t94 =>
  pLoad h_14 t94 fun t95 =>
  pIdx 3 t95 i11 fun t97 =>
  pField 2 t97 fun t98 =>
  pLoad h_14 t98 fun t99 =>
  pBin .add t93 t99 fun t100 =>
  pIdx 1 l7 head13 fun t101 =>
  pStore 1 t101 t100 h_14 fun u_1 h_15 =>
  sh_milestoneref14_Reach_k8 P i11 Z_2 (.bool true) h_15)
  (sh_milestoneref14_Reach_k8 P i11 Z_2 more10_1 h_14)

def sh_milestoneref14_Reach_k6 (P : Program) (g3 ask4 i11 l7 : Value) (Z_2 : Value → Value → Heap → Prop) (more10_1 tail12 head13 : Value) (h_12 : Heap) : Prop :=
  cutP (σ := Vals [87]) (fun J =>
  pLoadN 4 h_12 g3 fun t59 =>
  pLoadN 4 h_12 ask4 fun t60 =>
  callS P F_milestoneref14_In [t59, t60, i11] h_12 fun t62 h_13 =>
  ifV t62
  (pIdx 1 l7 tail12 fun t66 =>
  pLoad h_13 t66 fun t67 =>
  pBin .lss t67 (.int .i64 72057594037927936) fun t68 =>
  ifV t68
  (pIdx 1 l7 tail12 fun t73 =>
  pLoad h_13 t73 fun t74 =>
  pField 3 g3 fun t75 =>
  pLoad h_13 t75 fun t76 =>
  pIdx 3 t76 i11 fun t78 =>
  pField 2 t78 fun t79 =>
  pLoad h_13 t79 fun t80 =>
  pBin .add t74 t80 fun t81 =>
  pIdx 1 l7 head13 fun t84 =>
  pLoad h_13 t84 fun t85 =>
  pBin .lss t81 t85 fun t86 =>
  J (t86, ()) h_13)
  (J ((.bool false), ()) h_13))
  (J ((.bool false), ()) h_13))
  (fun x hh => sh_milestoneref14_Reach_C7 P l7 tail12 g3 i11 head13 Z_2 more10_1 x.1 hh)

def sh_milestoneref14_Reach_L5 (P : Program) (g3 side2 ask4 l7 : Value) (Z_1 : Value → Heap → Prop) (more10_1 i11 : Value) (h_11 : Heap) (Z_2 : Value → Value → Heap → Prop) : Prop :=
  pField 3 g3 fun t37 =>
  pLoad h_11 t37 fun t38 =>
  pLen t38 fun t39 =>
  pBin .lss i11 t39 fun t40 =>
  ifV t40
  (pField 3 g3 fun t43 =>
  pLoad h_11 t43 fun t44 =>
  pIdx 3 t44 i11 fun t46 =>
  pField 0 t46 fun t47 =>
  pLoad h_11 t47 fun t48 =>
  pField 3 g3 fun t49 =>
  pLoad h_11 t49 fun t50 =>
  pIdx 3 t50 i11 fun t52 =>
  pField 1 t52 fun t53 =>
  pLoad h_11 t53 fun t54 =>
  pBin .eql side2 (.int .i64 1) fun t56 =>
  ifV t56
  (sh_milestoneref14_Reach_k6 P g3 ask4 i11 l7 Z_2 more10_1 t54 t48 h_11)
  (sh_milestoneref14_Reach_k6 P g3 ask4 i11 l7 Z_2 more10_1 t48 t54 h_11))
  (Z_1 more10_1 h_11)

def sh_milestoneref14_Reach_L4 (P : Program) (g3 side2 ask4 l7 : Value) (K : Value → Heap → Prop) (more10 : Value) (h_10 : Heap) (Z_1 : Value → Heap → Prop) : Prop :=
  ifV more10
  (LoopH (σ := Vals [10, 11]) (fun x hh ZZ => sh_milestoneref14_Reach_L5 P g3 side2 ask4 l7 Z_1 x.1 x.2.1 hh (fun a0 a1 hz => ZZ (a0, (a1, ())) hz)) ((.bool false), ((.int .i64 0), ())) h_10)
  (K l7 h_10)

def sh_milestoneref14_Reach_k3 (P : Program) (g3 side2 ask4 l7 : Value) (K : Value → Heap → Prop) (h_9 : Heap) : Prop :=
  LoopH (σ := Vals [10]) (fun x hh ZZ => sh_milestoneref14_Reach_L4 P g3 side2 ask4 l7 K x.1 hh (fun a0 hz => ZZ (a0, ()) hz)) ((.bool true), ()) h_9

def sh_milestoneref14_Reach_k2 (P : Program) (ask4 l7 g3 side2 : Value) (K : Value → Heap → Prop) (first9 : Value) (h_6 : Heap) : Prop :=
  pLoadN 4 h_6 ask4 fun t29 =>
  callS P F_milestoneref14_Open [t29, first9] h_6 fun t31 h_7 =>
  ifV t31
  (pIdx 1 l7 first9 fun t34 =>
  pStore 1 t34 (.int .i64 0) h_7 fun u h_8 =>
  sh_milestoneref14_Reach_k3 P g3 side2 ask4 l7 K h_8)
  (sh_milestoneref14_Reach_k3 P g3 side2 ask4 l7 K h_7)

def sh_milestoneref14_Reach_L1 (P : Program) (g3 ask4 side2 : Value) (K : Value → Heap → Prop) (l7 v8 : Value) (h_3 : Heap) (Z : Value → Value → Heap → Prop) : Prop :=
  pField 0 g3 fun t15 =>
  pLoad h_3 t15 fun t16 =>
  pBin .lss v8 t16 fun t17 =>
  ifV t17
  (pBuildSlice T_int64 (zerosL [(.int .i64 0)] 1) [(0, 1, (.int .i64 72057594037927936))] 1 h_3 fun t21 h_4 =>
  pAppend T_int64 1 8 [(.int .i64 0)] l7 t21 h_4 fun t22 h_5 =>
  pBin .add v8 (.int .i64 1) fun t19 =>
  Z t22 t19 h_5)
  (pField 0 ask4 fun t23 =>
  pLoad h_3 t23 fun t24 =>
  pBin .eql side2 (.int .i64 1) fun t26 =>
  ifV t26
  (pField 1 ask4 fun t27 =>
  pLoad h_3 t27 fun t28 =>
  sh_milestoneref14_Reach_k2 P ask4 l7 g3 side2 K t28 h_3)
  (sh_milestoneref14_Reach_k2 P ask4 l7 g3 side2 K t24 h_3))

def sh_milestoneref14_Reach (P : Program) (g0 ask1 side2 : Value) (h : Heap) (K : Value → Heap → Prop) : Prop :=
  pBox T_api_Raw g0 h fun g3 h_1 =>
  pBox T_api_Ask ask1 h_1 fun ask4 h_2 =>
  LoopH (σ := Vals [7, 8]) (fun x hh ZZ => sh_milestoneref14_Reach_L1 P g3 ask4 side2 K x.1 x.2.1 hh (fun a0 a1 hz => ZZ (a0, (a1, ())) hz)) ((.slice none 0 0), ((.int .i64 0), ())) h_2

set_option maxRecDepth 100000 in
theorem lk_milestoneref14_Reach (g0 ask1 side2 : Value) {h : Heap} {K : Value → Heap → Prop} (H : sh_milestoneref14_Reach Tryz.prog g0 ask1 side2 h K) : CallsH Tryz.prog F_milestoneref14_Reach [g0, ask1, side2].toArray h K :=
  callsH_of (ann := (annG (Tryz.f16.body.getD .skip) 0 [(4, [7, 8]), (15, [10]), (20, [10, 11]), (27, [87])]).1) (c := Tryz.f16.body.getD .skip) Tryz.func16 (by kernel_rfl) (by kernel_rfl) (by kernel_rfl) (of_decide_eq_true (by kernel_rfl))
    (Eq.mpr (by kernel_rfl) H)

/-! milestone/trace.Label -/

def sh_trace_Label_B1 (P : Program) (h_4 : Heap) (v5 t6 t7 : Value) (L : Loop) (t13 t14 : Value) (h_5 : Heap) (R : Exit → Heap → Prop) : Prop :=
  pBox T_api_Event (.agg #[(.int .i64 0), (.int .i64 0), (.int .i64 0), (.int .i64 0)]) h_5 fun e9 h_6 =>
  pStore 4 e9 t14 h_6 fun u h_7 =>
  beginR (h_4.size + 1) L h_7 fun h_8 =>
  pField 2 e9 fun t15 =>
  pLoad h_8 t15 fun t16 =>
  pLoad h_8 v5 fun t17 =>
  pBin .eql t16 t17 fun t18 =>
  ifV t18
  (pField 3 e9 fun t19 =>
  pLoad h_8 t19 fun t20 =>
  pStore 1 t6 t20 h_8 fun u_1 h_9 =>
  pStore 1 t7 (.bool true) h_9 fun u_2 h_10 =>
  R .ret h_10)
  (R .normal h_8)

def sh_trace_Label (P : Program) (l0 side1 v2 : Value) (h : Heap) (K : Value → Heap → Prop) : Prop :=
  pBox T_int v2 h fun v5 h_1 =>
  pBox T_int64 (.int .i64 0) h_1 fun t6 h_2 =>
  pBox T_bool (.bool false) h_2 fun t7 h_3 =>
  callS P F_trace_of [l0, (.int .i64 0), side1] h_3 fun t12 h_4 =>
  rangeH P t12 [13, 14] (h_4.size + 1) (h_4.push (.deferred (some []))) (fun L x hh R => sh_trace_Label_B1 P h_4 v5 t6 t7 L x.1 x.2.1 hh R)
  (fun h_11 => pStore 1 t6 (.int .i64 0) h_11 fun u_3 h_12 =>
  pStore 1 t7 (.bool false) h_12 fun u_4 h_13 =>
  takeM (h_4.size :: []) h_13 fun h_14 =>
  pLoad h_14 t6 fun res =>
  pLoad h_14 t7 fun res_1 =>
  K (.tuple #[res, res_1]) h_14)
  (fun h_15 => takeM (h_4.size :: []) h_15 fun h_16 =>
  pLoad h_16 t6 fun res_2 =>
  pLoad h_16 t7 fun res_3 =>
  K (.tuple #[res_2, res_3]) h_16)
  []

set_option maxRecDepth 100000 in
theorem lk_trace_Label (l0 side1 v2 : Value) {h : Heap} {K : Value → Heap → Prop} (H : sh_trace_Label Tryz.prog l0 side1 v2 h K) : CallsH Tryz.prog F_trace_Label [l0, side1, v2].toArray h K :=
  callsH_of (ann := (annG (Tryz.f17.body.getD .skip) 0 []).1) (c := Tryz.f17.body.getD .skip) Tryz.func17 (by kernel_rfl) (by kernel_rfl) (by kernel_rfl) (of_decide_eq_true (by kernel_rfl))
    (Eq.mpr (by kernel_rfl) H)

end Go.Proofs.YtkeoponidgpfpaaGreatDoor

namespace Go.Proofs.YtkeoponidgpfpaaGreatDoor
open Go Go.Mh
set_option maxHeartbeats 0
set_option linter.unusedVariables false

/-! milestone/milestoneref14.Open -/

def sh_milestoneref14_Open (P : Program) (ask0 v1 : Value) (h : Heap) (K : Value → Heap → Prop) : Prop :=
  pBox T_api_Ask ask0 h fun ask2 h_1 =>
  pField 3 ask2 fun t5 =>
  pLoad h_1 t5 fun t6 =>
  pLen t6 fun t7 =>
  pBin .eql t7 (.int .i64 0) fun t8 =>
  ifV t8
  (K (.bool true) h_1)
  (pField 3 ask2 fun t10 =>
  pLoad h_1 t10 fun t11 =>
  pIdx 1 t11 v1 fun t13 =>
  pLoad h_1 t13 fun t14 =>
  pBin .gtr t14 (.int .i64 (-72057594037927936)) fun t15 =>
  ifV t15
  (pField 3 ask2 fun t17 =>
  pLoad h_1 t17 fun t18 =>
  pIdx 1 t18 v1 fun t20 =>
  pLoad h_1 t20 fun t21 =>
  pBin .lss t21 (.int .i64 72057594037927936) fun t22 =>
  K t22 h_1)
  (K (.bool false) h_1))

set_option maxRecDepth 100000 in
theorem lk_milestoneref14_Open (ask0 v1 : Value) {h : Heap} {K : Value → Heap → Prop} (H : sh_milestoneref14_Open Tryz.prog ask0 v1 h K) : CallsH Tryz.prog F_milestoneref14_Open [ask0, v1].toArray h K :=
  callsH_of (ann := (annG (Tryz.f18.body.getD .skip) 0 []).1) (c := Tryz.f18.body.getD .skip) Tryz.func18 (by kernel_rfl) (by kernel_rfl) (by kernel_rfl) (of_decide_eq_true (by kernel_rfl))
    (Eq.mpr (by kernel_rfl) H)

/-! milestone/walk.Check -/

def sh_walk_Check_B1 (P : Program) (h_6 : Heap) (end10 weight8 : Value) (L : Loop) (t22 t23 : Value) (h_7 : Heap) (R : Exit → Heap → Prop) : Prop :=
  pBox T_api_Arc (.agg #[(.int .i64 0), (.int .i64 0), (.int .i64 0)]) h_7 fun a11 h_8 =>
  pStore 3 a11 t22 h_8 fun u_2 h_9 =>
  beginR (h_6.size + 1) L h_9 fun h_10 =>
  pUn .not t23 fun t25 =>
  ifV t25
  (pStore 1 end10 (.int .i64 (-1)) h_10 fun u_3 h_11 =>
  R (.exit 0) h_11)
  (pLoad h_10 weight8 fun t26 =>
  pField 2 a11 fun t27 =>
  pLoad h_10 t27 fun t28 =>
  pBin .add t26 t28 fun t29 =>
  pStore 1 weight8 t29 h_10 fun u_4 h_12 =>
  pField 1 a11 fun t30 =>
  pLoad h_12 t30 fun t31 =>
  pStore 1 end10 t31 h_12 fun u_5 h_13 =>
  R .normal h_13)

def sh_walk_Check_k3 (P : Program) (weight8 : Value) (h_6 : Heap) (K : Value → Heap → Prop) (h_16 : Heap) : Prop :=
  pStore 1 weight8 (.int .i64 0) h_16 fun u_6 h_17 =>
  takeM (h_6.size :: []) h_17 fun h_18 =>
  pLoad h_18 weight8 fun res_1 =>
  K (.tuple #[res_1, (.bool false)]) h_18

def sh_walk_Check_k2 (P : Program) (end10 weight8 : Value) (h_6 : Heap) (K : Value → Heap → Prop) (t2 : Value) (h_15 : Heap) : Prop :=
  pLoad h_15 end10 fun t32 =>
  pBin .lss t32 (.int .i64 0) fun t33 =>
  ifV t33
  (sh_walk_Check_k3 P weight8 h_6 K h_15)
  (pLoad h_15 end10 fun t35 =>
  pBin .neq t35 t2 fun t37 =>
  ifV t37
  (sh_walk_Check_k3 P weight8 h_6 K h_15)
  (pLoad h_15 weight8 fun t39 =>
  pStore 1 weight8 t39 h_15 fun u_7 h_19 =>
  takeM (h_6.size :: []) h_19 fun h_20 =>
  pLoad h_20 weight8 fun res_2 =>
  K (.tuple #[res_2, (.bool true)]) h_20))

def sh_walk_Check (P : Program) (n0 s1 t2 arcs3 : Value) (h : Heap) (K : Value → Heap → Prop) : Prop :=
  pBox T_int64 (.int .i64 0) h fun weight8 h_1 =>
  callS P F_walk_node [n0, s1] h_1 fun t15 h_2 =>
  pUn .not t15 fun t16 =>
  ifV t16
  (pStore 1 weight8 (.int .i64 0) h_2 fun u h_3 =>
  pLoad h_3 weight8 fun res =>
  K (.tuple #[res, (.bool false)]) h_3)
  (pBox T_int (.int .i64 0) h_2 fun end10 h_4 =>
  pStore 1 end10 s1 h_4 fun u_1 h_5 =>
  callS P F_walk_steps [n0, s1, arcs3] h_5 fun t21 h_6 =>
  rangeH P t21 [22, 23] (h_6.size + 1) (h_6.push (.deferred (some []))) (fun L x hh R => sh_walk_Check_B1 P h_6 end10 weight8 L x.1 x.2.1 hh R)
  (fun h_21 => sh_walk_Check_k2 P end10 weight8 h_6 K t2 h_21)
  (fun h_22 => takeM (h_6.size :: []) h_22 fun h_23 =>
  pLoad h_23 weight8 fun res_3 =>
  K (.tuple #[res_3, (.bool false)]) h_23)
  [(0, (fun h_14 => sh_walk_Check_k2 P end10 weight8 h_6 K t2 h_14))])

set_option maxRecDepth 100000 in
theorem lk_walk_Check (n0 s1 t2 arcs3 : Value) {h : Heap} {K : Value → Heap → Prop} (H : sh_walk_Check Tryz.prog n0 s1 t2 arcs3 h K) : CallsH Tryz.prog F_walk_Check [n0, s1, t2, arcs3].toArray h K :=
  callsH_of (ann := (annG (Tryz.f19.body.getD .skip) 0 []).1) (c := Tryz.f19.body.getD .skip) Tryz.func19 (by kernel_rfl) (by kernel_rfl) (by kernel_rfl) (of_decide_eq_true (by kernel_rfl))
    (Eq.mpr (by kernel_rfl) H)

/-! milestone/milestonelaw14.within -/

def sh_milestonelaw14_within_L1 (P : Program) (arcs2 g3 ask4 : Value) (K : Value → Heap → Prop) (i7 : Value) (h_3 : Heap) (Z : Value → Heap → Prop) : Prop :=
  pLen arcs2 fun t10 =>
  pBin .lss i7 t10 fun t11 =>
  ifV t11
  (pLoadN 4 h_3 g3 fun t14 =>
  pLoadN 4 h_3 ask4 fun t15 =>
  pIdx 1 arcs2 i7 fun t18 =>
  pLoad h_3 t18 fun t19 =>
  callS P F_milestoneref14_In [t14, t15, t19] h_3 fun t20 h_4 =>
  pUn .not t20 fun t21 =>
  ifV t21
  (K (.bool false) h_4)
  (pBin .add i7 (.int .i64 1) fun t13 =>
  Z t13 h_4))
  (K (.bool true) h_3)

def sh_milestonelaw14_within (P : Program) (g0 ask1 arcs2 : Value) (h : Heap) (K : Value → Heap → Prop) : Prop :=
  pBox T_api_Raw g0 h fun g3 h_1 =>
  pBox T_api_Ask ask1 h_1 fun ask4 h_2 =>
  LoopH (σ := Vals [7]) (fun x hh ZZ => sh_milestonelaw14_within_L1 P arcs2 g3 ask4 K x.1 hh (fun a0 hz => ZZ (a0, ()) hz)) ((.int .i64 0), ()) h_2

set_option maxRecDepth 100000 in
theorem lk_milestonelaw14_within (g0 ask1 arcs2 : Value) {h : Heap} {K : Value → Heap → Prop} (H : sh_milestonelaw14_within Tryz.prog g0 ask1 arcs2 h K) : CallsH Tryz.prog F_milestonelaw14_within [g0, ask1, arcs2].toArray h K :=
  callsH_of (ann := (annG (Tryz.f20.body.getD .skip) 0 [(3, [7])]).1) (c := Tryz.f20.body.getD .skip) Tryz.func20 (by kernel_rfl) (by kernel_rfl) (by kernel_rfl) (of_decide_eq_true (by kernel_rfl))
    (Eq.mpr (by kernel_rfl) H)

/-! milestone/trace.Once -/

def sh_trace_Once (P : Program) (n0 l1 : Value) (h : Heap) (K : Value → Heap → Prop) : Prop :=
  pEq false .ptr n0 (.pointer none) fun t8 =>
  ifV t8
  (K (.bool false) h)
  (callS P F_trace_may [n0] h fun t10 h_1 =>
  pBox T_func_api_Event_bool .nilFunc h_1 fun right5 h_2 =>
  pStore 1 right5 t10 h_2 fun u h_3 =>
  pMakeMap h_3 fun t11 h_4 =>
  pBox T_map_3_int_int (.map none) h_4 fun seen6 h_5 =>
  pStore 1 seen6 t11 h_5 fun u_1 h_6 =>
  callS P F_slices_ContainsFunc_sl_api_Event_api_Event [l1, (.func (.func F_trace_Once_1) #[] #[seen6, right5])] h_6 fun t14 h_7 =>
  pUn .not t14 fun t15 =>
  K t15 h_7)

set_option maxRecDepth 100000 in
theorem lk_trace_Once (n0 l1 : Value) {h : Heap} {K : Value → Heap → Prop} (H : sh_trace_Once Tryz.prog n0 l1 h K) : CallsH Tryz.prog F_trace_Once [n0, l1].toArray h K :=
  callsH_of (ann := (annG (Tryz.f21.body.getD .skip) 0 []).1) (c := Tryz.f21.body.getD .skip) Tryz.func21 (by kernel_rfl) (by kernel_rfl) (by kernel_rfl) (of_decide_eq_true (by kernel_rfl))
    (Eq.mpr (by kernel_rfl) H)

/-! milestone/trace.Heads -/

def sh_trace_Heads (P : Program) (n0 l1 : Value) (h : Heap) (K : Value → Heap → Prop) : Prop :=
  pBox T_p_net_Net n0 h fun n2 h_1 =>
  pLoad h_1 n2 fun t7 =>
  pEq false .ptr t7 (.pointer none) fun t8 =>
  ifV t8
  (K (.bool false) h_1)
  (pLoad h_1 n2 fun t9 =>
  callS P F_trace_may [t9] h_1 fun t10 h_2 =>
  pBox T_func_api_Event_bool .nilFunc h_2 fun right5 h_3 =>
  pStore 1 right5 t10 h_3 fun u h_4 =>
  pBuild [(.int .i64 0), (.int .i64 0)] [(0, 1, (.int .i64 (-1))), (1, 1, (.int .i64 (-1)))] fun t11 =>
  pBox T_2_int (.agg #[(.int .i64 0), (.int .i64 0)]) h_4 fun last6 h_5 =>
  pStore 2 last6 t11 h_5 fun u_1 h_6 =>
  callS P F_slices_ContainsFunc_sl_api_Event_api_Event [l1, (.func (.func F_trace_Heads_1) #[] #[right5, last6, n2])] h_6 fun t14 h_7 =>
  pUn .not t14 fun t15 =>
  K t15 h_7)

set_option maxRecDepth 100000 in
theorem lk_trace_Heads (n0 l1 : Value) {h : Heap} {K : Value → Heap → Prop} (H : sh_trace_Heads Tryz.prog n0 l1 h K) : CallsH Tryz.prog F_trace_Heads [n0, l1].toArray h K :=
  callsH_of (ann := (annG (Tryz.f22.body.getD .skip) 0 []).1) (c := Tryz.f22.body.getD .skip) Tryz.func22 (by kernel_rfl) (by kernel_rfl) (by kernel_rfl) (of_decide_eq_true (by kernel_rfl))
    (Eq.mpr (by kernel_rfl) H)

/-! milestone/trace.Pops -/

def sh_trace_Pops (P : Program) (l0 side1 : Value) (h : Heap) (K : Value → Heap → Prop) : Prop :=
  callS P F_trace_of [l0, (.int .i64 0), side1] h fun t7 h_1 =>
  callS P F_trace_told_int [t7, (.func (.func F_trace_id) #[] #[])] h_1 fun t8 h_2 =>
  K t8 h_2

set_option maxRecDepth 100000 in
theorem lk_trace_Pops (l0 side1 : Value) {h : Heap} {K : Value → Heap → Prop} (H : sh_trace_Pops Tryz.prog l0 side1 h K) : CallsH Tryz.prog F_trace_Pops [l0, side1].toArray h K :=
  callsH_of (ann := (annG (Tryz.f23.body.getD .skip) 0 []).1) (c := Tryz.f23.body.getD .skip) Tryz.func23 (by kernel_rfl) (by kernel_rfl) (by kernel_rfl) (of_decide_eq_true (by kernel_rfl))
    (Eq.mpr (by kernel_rfl) H)

/-! milestone/trace.Scans -/

def sh_trace_Scans (P : Program) (l0 side1 : Value) (h : Heap) (K : Value → Heap → Prop) : Prop :=
  callS P F_trace_of [l0, (.int .i64 1), side1] h fun t7 h_1 =>
  callS P F_trace_told_int [t7, (.func (.func F_trace_id) #[] #[])] h_1 fun t8 h_2 =>
  K t8 h_2

set_option maxRecDepth 100000 in
theorem lk_trace_Scans (l0 side1 : Value) {h : Heap} {K : Value → Heap → Prop} (H : sh_trace_Scans Tryz.prog l0 side1 h K) : CallsH Tryz.prog F_trace_Scans [l0, side1].toArray h K :=
  callsH_of (ann := (annG (Tryz.f24.body.getD .skip) 0 []).1) (c := Tryz.f24.body.getD .skip) Tryz.func24 (by kernel_rfl) (by kernel_rfl) (by kernel_rfl) (of_decide_eq_true (by kernel_rfl))
    (Eq.mpr (by kernel_rfl) H)

/-! (*milestone/net.Net).Out -/

def sh_net_Net_Out (P : Program) (n0 v1 : Value) (h : Heap) (K : Value → Heap → Prop) : Prop :=
  pEq false .ptr n0 (.pointer none) fun t8 =>
  ifV t8
  (K (.slice none 0 0) h)
  (pNil n0 fun t11 =>
  pField 4 t11 fun t12 =>
  pLoad h t12 fun t13 =>
  callS P F_net_one_sl_int [t13, v1] h fun t15 h_1 =>
  pExt t15 0 fun t16 =>
  pExt t15 1 fun t17 =>
  callS P F_slices_Clone_sl_int_int [t16] h_1 fun t19 h_2 =>
  K t19 h_2)

set_option maxRecDepth 100000 in
theorem lk_net_Net_Out (n0 v1 : Value) {h : Heap} {K : Value → Heap → Prop} (H : sh_net_Net_Out Tryz.prog n0 v1 h K) : CallsH Tryz.prog F_net_Net_Out [n0, v1].toArray h K :=
  callsH_of (ann := (annG (Tryz.f25.body.getD .skip) 0 []).1) (c := Tryz.f25.body.getD .skip) Tryz.func25 (by kernel_rfl) (by kernel_rfl) (by kernel_rfl) (of_decide_eq_true (by kernel_rfl))
    (Eq.mpr (by kernel_rfl) H)

/-! (*milestone/net.Net).In -/

def sh_net_Net_In (P : Program) (n0 v1 : Value) (h : Heap) (K : Value → Heap → Prop) : Prop :=
  pEq false .ptr n0 (.pointer none) fun t8 =>
  ifV t8
  (K (.slice none 0 0) h)
  (pNil n0 fun t11 =>
  pField 5 t11 fun t12 =>
  pLoad h t12 fun t13 =>
  callS P F_net_one_sl_int [t13, v1] h fun t15 h_1 =>
  pExt t15 0 fun t16 =>
  pExt t15 1 fun t17 =>
  callS P F_slices_Clone_sl_int_int [t16] h_1 fun t19 h_2 =>
  K t19 h_2)

set_option maxRecDepth 100000 in
theorem lk_net_Net_In (n0 v1 : Value) {h : Heap} {K : Value → Heap → Prop} (H : sh_net_Net_In Tryz.prog n0 v1 h K) : CallsH Tryz.prog F_net_Net_In [n0, v1].toArray h K :=
  callsH_of (ann := (annG (Tryz.f26.body.getD .skip) 0 []).1) (c := Tryz.f26.body.getD .skip) Tryz.func26 (by kernel_rfl) (by kernel_rfl) (by kernel_rfl) (of_decide_eq_true (by kernel_rfl))
    (Eq.mpr (by kernel_rfl) H)

/-! milestone/flood.From -/

def sh_flood_From (P : Program) (n0 s1 : Value) (h : Heap) (K : Value → Heap → Prop) : Prop :=
  pBox T_flood_Tree (.agg #[(.slice none 0 0), (.slice none 0 0), (.slice none 0 0)]) h fun t4 h_1 =>
  callS P F_flood_flood [n0, s1, (.func (.func F_net_Net_Out) #[n0] #[]), (.func (.func F_flood_From_1) #[] #[])] h_1 fun t9 h_2 =>
  pStore 3 t4 t9 h_2 fun u h_3 =>
  pLoadN 3 h_3 t4 fun res =>
  K res h_3

set_option maxRecDepth 100000 in
theorem lk_flood_From (n0 s1 : Value) {h : Heap} {K : Value → Heap → Prop} (H : sh_flood_From Tryz.prog n0 s1 h K) : CallsH Tryz.prog F_flood_From [n0, s1].toArray h K :=
  callsH_of (ann := (annG (Tryz.f27.body.getD .skip) 0 []).1) (c := Tryz.f27.body.getD .skip) Tryz.func27 (by kernel_rfl) (by kernel_rfl) (by kernel_rfl) (of_decide_eq_true (by kernel_rfl))
    (Eq.mpr (by kernel_rfl) H)

/-! (*milestone/milestoneref07.Draft).Raw -/

def sh_milestoneref07_Draft_Raw_k7 (P : Program) (i8 : Value) (Z_2 : Value → Heap → Prop) (h_52 : Heap) : Prop :=
  pBin .add i8 (.int .i64 1) fun t83 =>
  Z_2 t83 h_52

def sh_milestoneref07_Draft_Raw_C6 (P : Program) (g3 d0 i8 : Value) (Z_2 : Value → Heap → Prop) (a9_4 : Value) (h_44 : Heap) : Prop :=
  pField 3 g3 fun t95 =>
  pLoad h_44 t95 fun t96 =>
  pLoadN 3 h_44 a9_4 fun t97 =>
  pBuildSlice T_api_Arc (zerosL [(.int .i64 0), (.int .i64 0), (.int .i64 0)] 1) [(0, 3, t97)] 1 h_44 fun t98 h_45 =>
  pAppend T_api_Arc 3 24 [(.int .i64 0), (.int .i64 0), (.int .i64 0)] t96 t98 h_45 fun t99 h_46 =>
  pField 3 g3 fun t100 =>
  pStore 1 t100 t99 h_46 fun u_10 h_47 =>
  callS P F_milestoneref07_Draft_Next [d0, (.int .i64 4)] h_47 fun t102 h_48 =>
  pBin .eql t102 (.int .i64 0) fun t103 =>
  ifV t103
  (pField 3 g3 fun t104 =>
  pLoad h_48 t104 fun t105 =>
  pField 1 a9_4 fun t106 =>
  pLoad h_48 t106 fun t107 =>
  pField 0 a9_4 fun t108 =>
  pLoad h_48 t108 fun t109 =>
  pField 2 a9_4 fun t110 =>
  pLoad h_48 t110 fun t111 =>
  pBuild [(.int .i64 0), (.int .i64 0), (.int .i64 0)] [(0, 1, t107), (1, 1, t109), (2, 1, t111)] fun t112 =>
  pBuildSlice T_api_Arc (zerosL [(.int .i64 0), (.int .i64 0), (.int .i64 0)] 1) [(0, 3, t112)] 1 h_48 fun t113 h_49 =>
  pAppend T_api_Arc 3 24 [(.int .i64 0), (.int .i64 0), (.int .i64 0)] t105 t113 h_49 fun t114 h_50 =>
  pField 3 g3 fun t115 =>
  pStore 1 t115 t114 h_50 fun u_11 h_51 =>
  sh_milestoneref07_Draft_Raw_k7 P i8 Z_2 h_51)
  (sh_milestoneref07_Draft_Raw_k7 P i8 Z_2 h_48)

def sh_milestoneref07_Draft_Raw_L5 (P : Program) (t52 g3 d0 t2 : Value) (K : Value → Heap → Prop) (i8 : Value) (h_26 : Heap) (Z_2 : Value → Heap → Prop) : Prop :=
  pBin .lss i8 t52 fun t81 =>
  ifV t81
  (cutP (σ := Vals [9]) (fun J =>
  pField 0 g3 fun t85 =>
  pLoad h_26 t85 fun t86 =>
  pField 0 g3 fun t89 =>
  pLoad h_26 t89 fun t90 =>
  (callS P F_milestoneref07_Draft_Next [d0, t86] h_26 fun t87 h_27 =>
  (pLoad h_27 t89 fun t90_1 =>
  t90_1 = t90) ∧
  ((callS P F_milestoneref07_Draft_Next [d0, t90] h_27 fun t91 h_28 =>
  (callS P F_milestoneref07_Draft_Weight [d0] h_28 fun t93 h_29 =>
  pBuild [(.int .i64 0), (.int .i64 0), (.int .i64 0)] [(0, 1, t87), (1, 1, t91), (2, 1, t93)] fun t94 =>
  pBox T_api_Arc (.agg #[(.int .i64 0), (.int .i64 0), (.int .i64 0)]) h_29 fun a9 h_30 =>
  pStore 3 a9 t94 h_30 fun u_6 h_31 =>
  J (a9, ()) h_31) ∧
  (pBox T_api_Arc (.agg #[(.int .i64 0), (.int .i64 0), (.int .i64 0)]) h_28 fun a9_1 h_32 =>
  callS P F_milestoneref07_Draft_Weight [d0] h_32 fun t93_1 h_33 =>
  pBuild [(.int .i64 0), (.int .i64 0), (.int .i64 0)] [(0, 1, t87), (1, 1, t91), (2, 1, t93_1)] fun t94_1 =>
  pStore 3 a9_1 t94_1 h_33 fun u_7 h_34 =>
  J (a9_1, ()) h_34)) ∧
  (pBox T_api_Arc (.agg #[(.int .i64 0), (.int .i64 0), (.int .i64 0)]) h_27 fun a9_2 h_35 =>
  callS P F_milestoneref07_Draft_Next [d0, t90] h_35 fun t91_1 h_36 =>
  callS P F_milestoneref07_Draft_Weight [d0] h_36 fun t93_2 h_37 =>
  pBuild [(.int .i64 0), (.int .i64 0), (.int .i64 0)] [(0, 1, t87), (1, 1, t91_1), (2, 1, t93_2)] fun t94_2 =>
  pStore 3 a9_2 t94_2 h_37 fun u_8 h_38 =>
  J (a9_2, ()) h_38))) ∧
  (pBox T_api_Arc (.agg #[(.int .i64 0), (.int .i64 0), (.int .i64 0)]) h_26 fun a9_3 h_39 =>
  callS P F_milestoneref07_Draft_Next [d0, t86] h_39 fun t87_1 h_40 =>
  (pLoad h_40 t89 fun t90_2 =>
  t90_2 = t90) ∧
  (callS P F_milestoneref07_Draft_Next [d0, t90] h_40 fun t91_2 h_41 =>
  callS P F_milestoneref07_Draft_Weight [d0] h_41 fun t93_3 h_42 =>
  pBuild [(.int .i64 0), (.int .i64 0), (.int .i64 0)] [(0, 1, t87_1), (1, 1, t91_2), (2, 1, t93_3)] fun t94_3 =>
  pStore 3 a9_3 t94_3 h_42 fun u_9 h_43 =>
  J (a9_3, ()) h_43)))
  (fun x hh => sh_milestoneref07_Draft_Raw_C6 P g3 d0 i8 Z_2 x.1 hh))
  (pLoadN 4 h_26 g3 fun t116 =>
  pStore 4 t2 t116 h_26 fun u_12 h_53 =>
  pLoadN 4 h_53 t2 fun res =>
  K res h_53)

def sh_milestoneref07_Draft_Raw_k4 (P : Program) (t52 g3 d0 t2 : Value) (K : Value → Heap → Prop) (h_25 : Heap) : Prop :=
  LoopH (σ := Vals [8]) (fun x hh ZZ => sh_milestoneref07_Draft_Raw_L5 P t52 g3 d0 t2 K x.1 hh (fun a0 hz => ZZ (a0, ()) hz)) ((.int .i64 0), ()) h_25

def sh_milestoneref07_Draft_Raw_L3 (P : Program) (g3 t55 d0 t52 t2 : Value) (K : Value → Heap → Prop) (v7 : Value) (h_20 : Heap) (Z_1 : Value → Heap → Prop) : Prop :=
  pField 0 g3 fun t57 =>
  pLoad h_20 t57 fun t58 =>
  pBin .lss v7 t58 fun t59 =>
  ifV t59
  (ifV t55
  (pField 3 g3 fun t65 =>
  pLoad h_20 t65 fun t66 =>
  pBin .add v7 (.int .i64 1) fun t69 =>
  pField 0 g3 fun t70 =>
  pLoad h_20 t70 fun t71 =>
  pBin .rem t69 t71 fun t72 =>
  callS P F_milestoneref07_Draft_Weight [d0] h_20 fun t74 h_21 =>
  (pLoad h_21 t65 fun t66_1 =>
  t66_1 = t66) ∧
  (pLoad h_21 t70 fun t71_1 =>
  t71_1 = t71) ∧
  (pBuild [(.int .i64 0), (.int .i64 0), (.int .i64 0)] [(0, 1, v7), (1, 1, t72), (2, 1, t74)] fun t75 =>
  pBuildSlice T_api_Arc (zerosL [(.int .i64 0), (.int .i64 0), (.int .i64 0)] 1) [(0, 3, t75)] 1 h_21 fun t76 h_22 =>
  pAppend T_api_Arc 3 24 [(.int .i64 0), (.int .i64 0), (.int .i64 0)] t66 t76 h_22 fun t77 h_23 =>
  pField 3 g3 fun t78 =>
  pStore 1 t78 t77 h_23 fun u_5 h_24 =>
  pBin .add v7 (.int .i64 1) fun t64 =>
  Z_1 t64 h_24))
  (sh_milestoneref07_Draft_Raw_k4 P t52 g3 d0 t2 K h_20))
  (sh_milestoneref07_Draft_Raw_k4 P t52 g3 d0 t2 K h_20)

def sh_milestoneref07_Draft_Raw_k2 (P : Program) (g3 d0 t2 : Value) (K : Value → Heap → Prop) (h_17 : Heap) : Prop :=
  pField 0 g3 fun t48 =>
  pLoad h_17 t48 fun t49 =>
  pBin .mul (.int .i64 3) t49 fun t50 =>
  pBin .add t50 (.int .i64 1) fun t51 =>
  callS P F_milestoneref07_Draft_Next [d0, t51] h_17 fun t52 h_18 =>
  callS P F_milestoneref07_Draft_Next [d0, (.int .i64 3)] h_18 fun t54 h_19 =>
  pBin .gtr t54 (.int .i64 0) fun t55 =>
  LoopH (σ := Vals [7]) (fun x hh ZZ => sh_milestoneref07_Draft_Raw_L3 P g3 t55 d0 t52 t2 K x.1 hh (fun a0 hz => ZZ (a0, ()) hz)) ((.int .i64 0), ()) h_19

def sh_milestoneref07_Draft_Raw_L1 (P : Program) (g3 d0 t2 : Value) (K : Value → Heap → Prop) (v4 : Value) (h_5 : Heap) (Z : Value → Heap → Prop) : Prop :=
  pField 0 g3 fun t15 =>
  pLoad h_5 t15 fun t16 =>
  pBin .lss v4 t16 fun t17 =>
  ifV t17
  (pField 1 g3 fun t20 =>
  pLoad h_5 t20 fun t21 =>
  callS P F_milestoneref07_Draft_Next [d0, (.int .i64 9)] h_5 fun t23 h_6 =>
  (pLoad h_6 t20 fun t21_1 =>
  t21_1 = t21) ∧
  (pBin .sub t23 (.int .i64 3) fun t24 =>
  pBuildSlice T_int64 (zerosL [(.int .i64 0)] 1) [(0, 1, t24)] 1 h_6 fun t25 h_7 =>
  pAppend T_int64 1 8 [(.int .i64 0)] t21 t25 h_7 fun t26 h_8 =>
  pField 1 g3 fun t27 =>
  pStore 1 t27 t26 h_8 fun u_1 h_9 =>
  pField 2 g3 fun t28 =>
  pLoad h_9 t28 fun t29 =>
  callS P F_milestoneref07_Draft_Next [d0, (.int .i64 7)] h_9 fun t31 h_10 =>
  (pLoad h_10 t28 fun t29_1 =>
  t29_1 = t29) ∧
  (pBuildSlice T_int64 (zerosL [(.int .i64 0)] 1) [(0, 1, t31)] 1 h_10 fun t32 h_11 =>
  pAppend T_int64 1 8 [(.int .i64 0)] t29 t32 h_11 fun t33 h_12 =>
  pField 2 g3 fun t34 =>
  pStore 1 t34 t33 h_12 fun u_2 h_13 =>
  pBin .add v4 (.int .i64 1) fun t19 =>
  Z t19 h_13)))
  (callS P F_milestoneref07_Draft_Next [d0, (.int .i64 9)] h_5 fun t36 h_14 =>
  pBin .eql t36 (.int .i64 0) fun t37 =>
  ifV t37
  (pField 1 g3 fun t38 =>
  pLoad h_14 t38 fun t39 =>
  pIdx 1 t39 (.int .i64 0) fun t40 =>
  pStore 1 t40 (.int .i64 (-2147483648)) h_14 fun u_3 h_15 =>
  pField 2 g3 fun t41 =>
  pLoad h_15 t41 fun t42 =>
  pField 0 g3 fun t43 =>
  pLoad h_15 t43 fun t44 =>
  pBin .sub t44 (.int .i64 1) fun t45 =>
  pIdx 1 t42 t45 fun t46 =>
  pStore 1 t46 (.int .i64 2147483647) h_15 fun u_4 h_16 =>
  sh_milestoneref07_Draft_Raw_k2 P g3 d0 t2 K h_16)
  (sh_milestoneref07_Draft_Raw_k2 P g3 d0 t2 K h_14))

def sh_milestoneref07_Draft_Raw (P : Program) (d0 : Value) (h : Heap) (K : Value → Heap → Prop) : Prop :=
  pBox T_api_Raw (.agg #[(.int .i64 0), (.slice none 0 0), (.slice none 0 0), (.slice none 0 0)]) h fun t2 h_1 =>
  callS P F_milestoneref07_Draft_Next [d0, (.int .i64 12)] h_1 fun t11 h_2 =>
  pBin .add (.int .i64 1) t11 fun t12 =>
  pBuild [(.int .i64 0), (.slice none 0 0), (.slice none 0 0), (.slice none 0 0)] [(0, 1, t12)] fun t13 =>
  pBox T_api_Raw (.agg #[(.int .i64 0), (.slice none 0 0), (.slice none 0 0), (.slice none 0 0)]) h_2 fun g3 h_3 =>
  pStore 4 g3 t13 h_3 fun u h_4 =>
  LoopH (σ := Vals [4]) (fun x hh ZZ => sh_milestoneref07_Draft_Raw_L1 P g3 d0 t2 K x.1 hh (fun a0 hz => ZZ (a0, ()) hz)) ((.int .i64 0), ()) h_4

set_option maxRecDepth 100000 in
theorem lk_milestoneref07_Draft_Raw (d0 : Value) {h : Heap} {K : Value → Heap → Prop} (H : sh_milestoneref07_Draft_Raw Tryz.prog d0 h K) : CallsH Tryz.prog F_milestoneref07_Draft_Raw [d0].toArray h K :=
  callsH_of (ann := (annG (Tryz.f28.body.getD .skip) 0 [(4, [4]), (16, [7]), (22, [8]), (26, [9])]).1) (c := Tryz.f28.body.getD .skip) Tryz.func28 (by kernel_rfl) (by kernel_rfl) (by kernel_rfl) (of_decide_eq_true (by kernel_rfl))
    (Eq.mpr (by kernel_rfl) H)

/-! milestone/milestoneref10.To -/

def sh_milestoneref10_To (P : Program) (g0 t1 : Value) (h : Heap) (K : Value → Heap → Prop) : Prop :=
  pBox T_api_Raw g0 h fun g2 h_1 =>
  pBox T_milestoneref10_Tree (.agg #[(.slice none 0 0), (.slice none 0 0), (.slice none 0 0)]) h_1 fun t4 h_2 =>
  pLoadN 4 h_2 g2 fun t5 =>
  callS P F_milestoneref07_Turned [t5] h_2 fun t6 h_3 =>
  callS P F_milestoneref10_From [t6, t1] h_3 fun t8 h_4 =>
  pStore 3 t4 t8 h_4 fun u h_5 =>
  pLoadN 3 h_5 t4 fun res =>
  K res h_5

set_option maxRecDepth 100000 in
theorem lk_milestoneref10_To (g0 t1 : Value) {h : Heap} {K : Value → Heap → Prop} (H : sh_milestoneref10_To Tryz.prog g0 t1 h K) : CallsH Tryz.prog F_milestoneref10_To [g0, t1].toArray h K :=
  callsH_of (ann := (annG (Tryz.f29.body.getD .skip) 0 []).1) (c := Tryz.f29.body.getD .skip) Tryz.func29 (by kernel_rfl) (by kernel_rfl) (by kernel_rfl) (of_decide_eq_true (by kernel_rfl))
    (Eq.mpr (by kernel_rfl) H)

/-! milestone/milestonelaw14.less -/

def sh_milestonelaw14_less (P : Program) (v0 t1 : Value) (h : Heap) (K : Value → Heap → Prop) : Prop :=
  pBin .geq t1 (.int .i64 72057594037927936) fun t6 =>
  ifV t6
  (K (.int .i64 0) h)
  (pBin .geq v0 (.int .i64 72057594037927936) fun t8 =>
  ifV t8
  (K (.int .i64 72057594037927936) h)
  (pBin .sub v0 t1 fun t11 =>
  pMax (.int .i64 0) t11 fun t12 =>
  K t12 h))

set_option maxRecDepth 100000 in
theorem lk_milestonelaw14_less (v0 t1 : Value) {h : Heap} {K : Value → Heap → Prop} (H : sh_milestonelaw14_less Tryz.prog v0 t1 h K) : CallsH Tryz.prog F_milestonelaw14_less [v0, t1].toArray h K :=
  callsH_of (ann := (annG (Tryz.f30.body.getD .skip) 0 []).1) (c := Tryz.f30.body.getD .skip) Tryz.func30 (by kernel_rfl) (by kernel_rfl) (by kernel_rfl) (of_decide_eq_true (by kernel_rfl))
    (Eq.mpr (by kernel_rfl) H)

/-! milestone/net.New -/

def sh_net_New (P : Program) (raw0 : Value) (h : Heap) (K : Value → Heap → Prop) : Prop :=
  pBox T_api_Raw raw0 h fun raw1 h_1 =>
  pLoadN 4 h_1 raw1 fun t6 =>
  callS P F_graph_Check [t6] h_1 fun t7 h_2 =>
  pEq true .iface t7 .nilIface fun t9 =>
  ifV t9
  (callS P F_api_Told [t7] h_2 fun t11 h_3 =>
  pBox T_api_Fault (.agg #[(.int .i64 0), (.int .i64 0), (.int .i64 0), (.int .i64 0)]) h_3 fun f5 h_4 =>
  pStore 4 f5 t11 h_4 fun u h_5 =>
  pBuild [(.pointer none)] [(0, 1, f5)] fun t12 =>
  K (.tuple #[(.pointer none), (.iface T_net_trouble t12)]) h_5)
  (pLoadN 4 h_2 raw1 fun t14 =>
  callS P F_net_own [t14] h_2 fun t15 h_6 =>
  callS P F_net_of [t15] h_6 fun t16 h_7 =>
  K (.tuple #[t16, .nilIface]) h_7)

set_option maxRecDepth 100000 in
theorem lk_net_New (raw0 : Value) {h : Heap} {K : Value → Heap → Prop} (H : sh_net_New Tryz.prog raw0 h K) : CallsH Tryz.prog F_net_New [raw0].toArray h K :=
  callsH_of (ann := (annG (Tryz.f31.body.getD .skip) 0 []).1) (c := Tryz.f31.body.getD .skip) Tryz.func31 (by kernel_rfl) (by kernel_rfl) (by kernel_rfl) (of_decide_eq_true (by kernel_rfl))
    (Eq.mpr (by kernel_rfl) H)

/-! milestone/both.right -/

def sh_both_right_C1 (P : Program) (K : Value → Heap → Prop) (t4 : Value) (h_9 : Heap) : Prop :=
  K t4 h_9

def sh_both_right (P : Program) (n0 ask1 : Value) (h : Heap) (K : Value → Heap → Prop) : Prop :=
  pBox T_p_net_Net n0 h fun n2 h_1 =>
  pBox T_api_Ask ask1 h_1 fun ask3 h_2 =>
  cutP (σ := Vals [4]) (fun J =>
  pField 0 ask3 fun t9 =>
  pLoad h_2 t9 fun t10 =>
  callV P (.func (.func F_both_right_1) #[] #[n2]) [t10].toArray h_2 fun t11 h_3 =>
  ifV t11
  (pField 1 ask3 fun t14 =>
  pLoad h_3 t14 fun t15 =>
  callV P (.func (.func F_both_right_1) #[] #[n2]) [t15].toArray h_3 fun t16 h_4 =>
  ifV t16
  (pField 2 ask3 fun t20 =>
  pLoad h_4 t20 fun t21 =>
  pLen t21 fun t22 =>
  pLoad h_4 n2 fun t23 =>
  callS P F_net_Net_Arcs [t23] h_4 fun t24 h_5 =>
  (pLoad h_5 t20 fun t21_1 =>
  t21_1 = t21) ∧
  (callV P (.func (.func F_both_right_2) #[] #[]) [t22, t24].toArray h_5 fun t25 h_6 =>
  ifV t25
  (pField 3 ask3 fun t29 =>
  pLoad h_6 t29 fun t30 =>
  pLen t30 fun t31 =>
  pLoad h_6 n2 fun t32 =>
  callS P F_net_Net_Nodes [t32] h_6 fun t33 h_7 =>
  (pLoad h_7 t29 fun t30_1 =>
  t30_1 = t30) ∧
  (callV P (.func (.func F_both_right_2) #[] #[]) [t31, t33].toArray h_7 fun t34 h_8 =>
  J (t34, ()) h_8))
  (J ((.bool false), ()) h_6)))
  (J ((.bool false), ()) h_4))
  (J ((.bool false), ()) h_3))
  (fun x hh => sh_both_right_C1 P K x.1 hh)

set_option maxRecDepth 100000 in
theorem lk_both_right (n0 ask1 : Value) {h : Heap} {K : Value → Heap → Prop} (H : sh_both_right Tryz.prog n0 ask1 h K) : CallsH Tryz.prog F_both_right [n0, ask1].toArray h K :=
  callsH_of (ann := (annG (Tryz.f32.body.getD .skip) 0 [(3, [4])]).1) (c := Tryz.f32.body.getD .skip) Tryz.func32 (by kernel_rfl) (by kernel_rfl) (by kernel_rfl) (of_decide_eq_true (by kernel_rfl))
    (Eq.mpr (by kernel_rfl) H)

/-! (*milestone/both.search).begin -/

def sh_both_search_begin (P : Program) (s0 own1 v2 sign3 arcs4 head5 : Value) (h : Heap) (K : Value → Heap → Prop) : Prop :=
  pNil s0 fun t15 =>
  pField 0 t15 fun t16 =>
  pLoad h t16 fun t17 =>
  pNil s0 fun t29 =>
  pField 5 t29 fun t30 =>
  (callS P F_net_Net_Nodes [t17] h fun t18 h_1 =>
  (callS P F_heap_New [t18] h_1 fun t19 h_2 =>
  (pMakeMap h_2 fun t24 h_3 =>
  (pMakeMap h_3 fun t25 h_4 =>
  pMakeMap h_4 fun t26 h_5 =>
  pBuild [(.pointer none), (.int .i64 0), (.int .i64 0), .nilFunc, .nilFunc, (.map none), (.map none), (.map none)] [(0, 1, t19), (1, 1, own1), (2, 1, sign3), (3, 1, arcs4), (4, 1, head5), (5, 1, t24), (6, 1, t25), (7, 1, t26)] fun t27 =>
  pBox T_both_side t27 h_5 fun t28 h_6 =>
  pIdxA 1 2 t30 own1 fun t31 =>
  pStore 1 t31 t28 h_6 fun u h_7 =>
  K (.tuple #[]) h_7) ∧
  (pMakeMap h_3 fun t26_1 h_8 =>
  pMakeMap h_8 fun t25_1 h_9 =>
  pBuild [(.pointer none), (.int .i64 0), (.int .i64 0), .nilFunc, .nilFunc, (.map none), (.map none), (.map none)] [(0, 1, t19), (1, 1, own1), (2, 1, sign3), (3, 1, arcs4), (4, 1, head5), (5, 1, t24), (6, 1, t25_1), (7, 1, t26_1)] fun t27_1 =>
  pBox T_both_side t27_1 h_9 fun t28_1 h_10 =>
  pIdxA 1 2 t30 own1 fun t31_1 =>
  pStore 1 t31_1 t28_1 h_10 fun u_1 h_11 =>
  K (.tuple #[]) h_11)) ∧
  (pMakeMap h_2 fun t25_2 h_12 =>
  (pMakeMap h_12 fun t24_1 h_13 =>
  pMakeMap h_13 fun t26_2 h_14 =>
  pBuild [(.pointer none), (.int .i64 0), (.int .i64 0), .nilFunc, .nilFunc, (.map none), (.map none), (.map none)] [(0, 1, t19), (1, 1, own1), (2, 1, sign3), (3, 1, arcs4), (4, 1, head5), (5, 1, t24_1), (6, 1, t25_2), (7, 1, t26_2)] fun t27_2 =>
  pBox T_both_side t27_2 h_14 fun t28_2 h_15 =>
  pIdxA 1 2 t30 own1 fun t31_2 =>
  pStore 1 t31_2 t28_2 h_15 fun u_2 h_16 =>
  K (.tuple #[]) h_16) ∧
  (pMakeMap h_12 fun t26_3 h_17 =>
  pMakeMap h_17 fun t24_2 h_18 =>
  pBuild [(.pointer none), (.int .i64 0), (.int .i64 0), .nilFunc, .nilFunc, (.map none), (.map none), (.map none)] [(0, 1, t19), (1, 1, own1), (2, 1, sign3), (3, 1, arcs4), (4, 1, head5), (5, 1, t24_2), (6, 1, t25_2), (7, 1, t26_3)] fun t27_3 =>
  pBox T_both_side t27_3 h_18 fun t28_3 h_19 =>
  pIdxA 1 2 t30 own1 fun t31_3 =>
  pStore 1 t31_3 t28_3 h_19 fun u_3 h_20 =>
  K (.tuple #[]) h_20)) ∧
  (pMakeMap h_2 fun t26_4 h_21 =>
  (pMakeMap h_21 fun t24_3 h_22 =>
  pMakeMap h_22 fun t25_3 h_23 =>
  pBuild [(.pointer none), (.int .i64 0), (.int .i64 0), .nilFunc, .nilFunc, (.map none), (.map none), (.map none)] [(0, 1, t19), (1, 1, own1), (2, 1, sign3), (3, 1, arcs4), (4, 1, head5), (5, 1, t24_3), (6, 1, t25_3), (7, 1, t26_4)] fun t27_4 =>
  pBox T_both_side t27_4 h_23 fun t28_4 h_24 =>
  pIdxA 1 2 t30 own1 fun t31_4 =>
  pStore 1 t31_4 t28_4 h_24 fun u_4 h_25 =>
  K (.tuple #[]) h_25) ∧
  (pMakeMap h_21 fun t25_4 h_26 =>
  pMakeMap h_26 fun t24_4 h_27 =>
  pBuild [(.pointer none), (.int .i64 0), (.int .i64 0), .nilFunc, .nilFunc, (.map none), (.map none), (.map none)] [(0, 1, t19), (1, 1, own1), (2, 1, sign3), (3, 1, arcs4), (4, 1, head5), (5, 1, t24_4), (6, 1, t25_4), (7, 1, t26_4)] fun t27_5 =>
  pBox T_both_side t27_5 h_27 fun t28_5 h_28 =>
  pIdxA 1 2 t30 own1 fun t31_5 =>
  pStore 1 t31_5 t28_5 h_28 fun u_5 h_29 =>
  K (.tuple #[]) h_29))) ∧
  (pMakeMap h_1 fun t24_5 h_30 =>
  (callS P F_heap_New [t18] h_30 fun t19_1 h_31 =>
  (pMakeMap h_31 fun t25_5 h_32 =>
  pMakeMap h_32 fun t26_5 h_33 =>
  pBuild [(.pointer none), (.int .i64 0), (.int .i64 0), .nilFunc, .nilFunc, (.map none), (.map none), (.map none)] [(0, 1, t19_1), (1, 1, own1), (2, 1, sign3), (3, 1, arcs4), (4, 1, head5), (5, 1, t24_5), (6, 1, t25_5), (7, 1, t26_5)] fun t27_6 =>
  pBox T_both_side t27_6 h_33 fun t28_6 h_34 =>
  pIdxA 1 2 t30 own1 fun t31_6 =>
  pStore 1 t31_6 t28_6 h_34 fun u_6 h_35 =>
  K (.tuple #[]) h_35) ∧
  (pMakeMap h_31 fun t26_6 h_36 =>
  pMakeMap h_36 fun t25_6 h_37 =>
  pBuild [(.pointer none), (.int .i64 0), (.int .i64 0), .nilFunc, .nilFunc, (.map none), (.map none), (.map none)] [(0, 1, t19_1), (1, 1, own1), (2, 1, sign3), (3, 1, arcs4), (4, 1, head5), (5, 1, t24_5), (6, 1, t25_6), (7, 1, t26_6)] fun t27_7 =>
  pBox T_both_side t27_7 h_37 fun t28_7 h_38 =>
  pIdxA 1 2 t30 own1 fun t31_7 =>
  pStore 1 t31_7 t28_7 h_38 fun u_7 h_39 =>
  K (.tuple #[]) h_39)) ∧
  (pMakeMap h_30 fun t25_7 h_40 =>
  (callS P F_heap_New [t18] h_40 fun t19_2 h_41 =>
  pMakeMap h_41 fun t26_7 h_42 =>
  pBuild [(.pointer none), (.int .i64 0), (.int .i64 0), .nilFunc, .nilFunc, (.map none), (.map none), (.map none)] [(0, 1, t19_2), (1, 1, own1), (2, 1, sign3), (3, 1, arcs4), (4, 1, head5), (5, 1, t24_5), (6, 1, t25_7), (7, 1, t26_7)] fun t27_8 =>
  pBox T_both_side t27_8 h_42 fun t28_8 h_43 =>
  pIdxA 1 2 t30 own1 fun t31_8 =>
  pStore 1 t31_8 t28_8 h_43 fun u_8 h_44 =>
  K (.tuple #[]) h_44) ∧
  (pMakeMap h_40 fun t26_8 h_45 =>
  callS P F_heap_New [t18] h_45 fun t19_3 h_46 =>
  pBuild [(.pointer none), (.int .i64 0), (.int .i64 0), .nilFunc, .nilFunc, (.map none), (.map none), (.map none)] [(0, 1, t19_3), (1, 1, own1), (2, 1, sign3), (3, 1, arcs4), (4, 1, head5), (5, 1, t24_5), (6, 1, t25_7), (7, 1, t26_8)] fun t27_9 =>
  pBox T_both_side t27_9 h_46 fun t28_9 h_47 =>
  pIdxA 1 2 t30 own1 fun t31_9 =>
  pStore 1 t31_9 t28_9 h_47 fun u_9 h_48 =>
  K (.tuple #[]) h_48)) ∧
  (pMakeMap h_30 fun t26_9 h_49 =>
  (callS P F_heap_New [t18] h_49 fun t19_4 h_50 =>
  pMakeMap h_50 fun t25_8 h_51 =>
  pBuild [(.pointer none), (.int .i64 0), (.int .i64 0), .nilFunc, .nilFunc, (.map none), (.map none), (.map none)] [(0, 1, t19_4), (1, 1, own1), (2, 1, sign3), (3, 1, arcs4), (4, 1, head5), (5, 1, t24_5), (6, 1, t25_8), (7, 1, t26_9)] fun t27_10 =>
  pBox T_both_side t27_10 h_51 fun t28_10 h_52 =>
  pIdxA 1 2 t30 own1 fun t31_10 =>
  pStore 1 t31_10 t28_10 h_52 fun u_10 h_53 =>
  K (.tuple #[]) h_53) ∧
  (pMakeMap h_49 fun t25_9 h_54 =>
  callS P F_heap_New [t18] h_54 fun t19_5 h_55 =>
  pBuild [(.pointer none), (.int .i64 0), (.int .i64 0), .nilFunc, .nilFunc, (.map none), (.map none), (.map none)] [(0, 1, t19_5), (1, 1, own1), (2, 1, sign3), (3, 1, arcs4), (4, 1, head5), (5, 1, t24_5), (6, 1, t25_9), (7, 1, t26_9)] fun t27_11 =>
  pBox T_both_side t27_11 h_55 fun t28_11 h_56 =>
  pIdxA 1 2 t30 own1 fun t31_11 =>
  pStore 1 t31_11 t28_11 h_56 fun u_11 h_57 =>
  K (.tuple #[]) h_57))) ∧
  (pMakeMap h_1 fun t25_10 h_58 =>
  (callS P F_heap_New [t18] h_58 fun t19_6 h_59 =>
  (pMakeMap h_59 fun t24_6 h_60 =>
  pMakeMap h_60 fun t26_10 h_61 =>
  pBuild [(.pointer none), (.int .i64 0), (.int .i64 0), .nilFunc, .nilFunc, (.map none), (.map none), (.map none)] [(0, 1, t19_6), (1, 1, own1), (2, 1, sign3), (3, 1, arcs4), (4, 1, head5), (5, 1, t24_6), (6, 1, t25_10), (7, 1, t26_10)] fun t27_12 =>
  pBox T_both_side t27_12 h_61 fun t28_12 h_62 =>
  pIdxA 1 2 t30 own1 fun t31_12 =>
  pStore 1 t31_12 t28_12 h_62 fun u_12 h_63 =>
  K (.tuple #[]) h_63) ∧
  (pMakeMap h_59 fun t26_11 h_64 =>
  pMakeMap h_64 fun t24_7 h_65 =>
  pBuild [(.pointer none), (.int .i64 0), (.int .i64 0), .nilFunc, .nilFunc, (.map none), (.map none), (.map none)] [(0, 1, t19_6), (1, 1, own1), (2, 1, sign3), (3, 1, arcs4), (4, 1, head5), (5, 1, t24_7), (6, 1, t25_10), (7, 1, t26_11)] fun t27_13 =>
  pBox T_both_side t27_13 h_65 fun t28_13 h_66 =>
  pIdxA 1 2 t30 own1 fun t31_13 =>
  pStore 1 t31_13 t28_13 h_66 fun u_13 h_67 =>
  K (.tuple #[]) h_67)) ∧
  (pMakeMap h_58 fun t24_8 h_68 =>
  (callS P F_heap_New [t18] h_68 fun t19_7 h_69 =>
  pMakeMap h_69 fun t26_12 h_70 =>
  pBuild [(.pointer none), (.int .i64 0), (.int .i64 0), .nilFunc, .nilFunc, (.map none), (.map none), (.map none)] [(0, 1, t19_7), (1, 1, own1), (2, 1, sign3), (3, 1, arcs4), (4, 1, head5), (5, 1, t24_8), (6, 1, t25_10), (7, 1, t26_12)] fun t27_14 =>
  pBox T_both_side t27_14 h_70 fun t28_14 h_71 =>
  pIdxA 1 2 t30 own1 fun t31_14 =>
  pStore 1 t31_14 t28_14 h_71 fun u_14 h_72 =>
  K (.tuple #[]) h_72) ∧
  (pMakeMap h_68 fun t26_13 h_73 =>
  callS P F_heap_New [t18] h_73 fun t19_8 h_74 =>
  pBuild [(.pointer none), (.int .i64 0), (.int .i64 0), .nilFunc, .nilFunc, (.map none), (.map none), (.map none)] [(0, 1, t19_8), (1, 1, own1), (2, 1, sign3), (3, 1, arcs4), (4, 1, head5), (5, 1, t24_8), (6, 1, t25_10), (7, 1, t26_13)] fun t27_15 =>
  pBox T_both_side t27_15 h_74 fun t28_15 h_75 =>
  pIdxA 1 2 t30 own1 fun t31_15 =>
  pStore 1 t31_15 t28_15 h_75 fun u_15 h_76 =>
  K (.tuple #[]) h_76)) ∧
  (pMakeMap h_58 fun t26_14 h_77 =>
  (callS P F_heap_New [t18] h_77 fun t19_9 h_78 =>
  pMakeMap h_78 fun t24_9 h_79 =>
  pBuild [(.pointer none), (.int .i64 0), (.int .i64 0), .nilFunc, .nilFunc, (.map none), (.map none), (.map none)] [(0, 1, t19_9), (1, 1, own1), (2, 1, sign3), (3, 1, arcs4), (4, 1, head5), (5, 1, t24_9), (6, 1, t25_10), (7, 1, t26_14)] fun t27_16 =>
  pBox T_both_side t27_16 h_79 fun t28_16 h_80 =>
  pIdxA 1 2 t30 own1 fun t31_16 =>
  pStore 1 t31_16 t28_16 h_80 fun u_16 h_81 =>
  K (.tuple #[]) h_81) ∧
  (pMakeMap h_77 fun t24_10 h_82 =>
  callS P F_heap_New [t18] h_82 fun t19_10 h_83 =>
  pBuild [(.pointer none), (.int .i64 0), (.int .i64 0), .nilFunc, .nilFunc, (.map none), (.map none), (.map none)] [(0, 1, t19_10), (1, 1, own1), (2, 1, sign3), (3, 1, arcs4), (4, 1, head5), (5, 1, t24_10), (6, 1, t25_10), (7, 1, t26_14)] fun t27_17 =>
  pBox T_both_side t27_17 h_83 fun t28_17 h_84 =>
  pIdxA 1 2 t30 own1 fun t31_17 =>
  pStore 1 t31_17 t28_17 h_84 fun u_17 h_85 =>
  K (.tuple #[]) h_85))) ∧
  (pMakeMap h_1 fun t26_15 h_86 =>
  (callS P F_heap_New [t18] h_86 fun t19_11 h_87 =>
  (pMakeMap h_87 fun t24_11 h_88 =>
  pMakeMap h_88 fun t25_11 h_89 =>
  pBuild [(.pointer none), (.int .i64 0), (.int .i64 0), .nilFunc, .nilFunc, (.map none), (.map none), (.map none)] [(0, 1, t19_11), (1, 1, own1), (2, 1, sign3), (3, 1, arcs4), (4, 1, head5), (5, 1, t24_11), (6, 1, t25_11), (7, 1, t26_15)] fun t27_18 =>
  pBox T_both_side t27_18 h_89 fun t28_18 h_90 =>
  pIdxA 1 2 t30 own1 fun t31_18 =>
  pStore 1 t31_18 t28_18 h_90 fun u_18 h_91 =>
  K (.tuple #[]) h_91) ∧
  (pMakeMap h_87 fun t25_12 h_92 =>
  pMakeMap h_92 fun t24_12 h_93 =>
  pBuild [(.pointer none), (.int .i64 0), (.int .i64 0), .nilFunc, .nilFunc, (.map none), (.map none), (.map none)] [(0, 1, t19_11), (1, 1, own1), (2, 1, sign3), (3, 1, arcs4), (4, 1, head5), (5, 1, t24_12), (6, 1, t25_12), (7, 1, t26_15)] fun t27_19 =>
  pBox T_both_side t27_19 h_93 fun t28_19 h_94 =>
  pIdxA 1 2 t30 own1 fun t31_19 =>
  pStore 1 t31_19 t28_19 h_94 fun u_19 h_95 =>
  K (.tuple #[]) h_95)) ∧
  (pMakeMap h_86 fun t24_13 h_96 =>
  (callS P F_heap_New [t18] h_96 fun t19_12 h_97 =>
  pMakeMap h_97 fun t25_13 h_98 =>
  pBuild [(.pointer none), (.int .i64 0), (.int .i64 0), .nilFunc, .nilFunc, (.map none), (.map none), (.map none)] [(0, 1, t19_12), (1, 1, own1), (2, 1, sign3), (3, 1, arcs4), (4, 1, head5), (5, 1, t24_13), (6, 1, t25_13), (7, 1, t26_15)] fun t27_20 =>
  pBox T_both_side t27_20 h_98 fun t28_20 h_99 =>
  pIdxA 1 2 t30 own1 fun t31_20 =>
  pStore 1 t31_20 t28_20 h_99 fun u_20 h_100 =>
  K (.tuple #[]) h_100) ∧
  (pMakeMap h_96 fun t25_14 h_101 =>
  callS P F_heap_New [t18] h_101 fun t19_13 h_102 =>
  pBuild [(.pointer none), (.int .i64 0), (.int .i64 0), .nilFunc, .nilFunc, (.map none), (.map none), (.map none)] [(0, 1, t19_13), (1, 1, own1), (2, 1, sign3), (3, 1, arcs4), (4, 1, head5), (5, 1, t24_13), (6, 1, t25_14), (7, 1, t26_15)] fun t27_21 =>
  pBox T_both_side t27_21 h_102 fun t28_21 h_103 =>
  pIdxA 1 2 t30 own1 fun t31_21 =>
  pStore 1 t31_21 t28_21 h_103 fun u_21 h_104 =>
  K (.tuple #[]) h_104)) ∧
  (pMakeMap h_86 fun t25_15 h_105 =>
  (callS P F_heap_New [t18] h_105 fun t19_14 h_106 =>
  pMakeMap h_106 fun t24_14 h_107 =>
  pBuild [(.pointer none), (.int .i64 0), (.int .i64 0), .nilFunc, .nilFunc, (.map none), (.map none), (.map none)] [(0, 1, t19_14), (1, 1, own1), (2, 1, sign3), (3, 1, arcs4), (4, 1, head5), (5, 1, t24_14), (6, 1, t25_15), (7, 1, t26_15)] fun t27_22 =>
  pBox T_both_side t27_22 h_107 fun t28_22 h_108 =>
  pIdxA 1 2 t30 own1 fun t31_22 =>
  pStore 1 t31_22 t28_22 h_108 fun u_22 h_109 =>
  K (.tuple #[]) h_109) ∧
  (pMakeMap h_105 fun t24_15 h_110 =>
  callS P F_heap_New [t18] h_110 fun t19_15 h_111 =>
  pBuild [(.pointer none), (.int .i64 0), (.int .i64 0), .nilFunc, .nilFunc, (.map none), (.map none), (.map none)] [(0, 1, t19_15), (1, 1, own1), (2, 1, sign3), (3, 1, arcs4), (4, 1, head5), (5, 1, t24_15), (6, 1, t25_15), (7, 1, t26_15)] fun t27_23 =>
  pBox T_both_side t27_23 h_111 fun t28_23 h_112 =>
  pIdxA 1 2 t30 own1 fun t31_23 =>
  pStore 1 t31_23 t28_23 h_112 fun u_23 h_113 =>
  K (.tuple #[]) h_113)))) ∧
  (pMakeMap h fun t24_16 h_114 =>
  (callS P F_net_Net_Nodes [t17] h_114 fun t18_1 h_115 =>
  (callS P F_heap_New [t18_1] h_115 fun t19_16 h_116 =>
  (pMakeMap h_116 fun t25_16 h_117 =>
  pMakeMap h_117 fun t26_16 h_118 =>
  pBuild [(.pointer none), (.int .i64 0), (.int .i64 0), .nilFunc, .nilFunc, (.map none), (.map none), (.map none)] [(0, 1, t19_16), (1, 1, own1), (2, 1, sign3), (3, 1, arcs4), (4, 1, head5), (5, 1, t24_16), (6, 1, t25_16), (7, 1, t26_16)] fun t27_24 =>
  pBox T_both_side t27_24 h_118 fun t28_24 h_119 =>
  pIdxA 1 2 t30 own1 fun t31_24 =>
  pStore 1 t31_24 t28_24 h_119 fun u_24 h_120 =>
  K (.tuple #[]) h_120) ∧
  (pMakeMap h_116 fun t26_17 h_121 =>
  pMakeMap h_121 fun t25_17 h_122 =>
  pBuild [(.pointer none), (.int .i64 0), (.int .i64 0), .nilFunc, .nilFunc, (.map none), (.map none), (.map none)] [(0, 1, t19_16), (1, 1, own1), (2, 1, sign3), (3, 1, arcs4), (4, 1, head5), (5, 1, t24_16), (6, 1, t25_17), (7, 1, t26_17)] fun t27_25 =>
  pBox T_both_side t27_25 h_122 fun t28_25 h_123 =>
  pIdxA 1 2 t30 own1 fun t31_25 =>
  pStore 1 t31_25 t28_25 h_123 fun u_25 h_124 =>
  K (.tuple #[]) h_124)) ∧
  (pMakeMap h_115 fun t25_18 h_125 =>
  (callS P F_heap_New [t18_1] h_125 fun t19_17 h_126 =>
  pMakeMap h_126 fun t26_18 h_127 =>
  pBuild [(.pointer none), (.int .i64 0), (.int .i64 0), .nilFunc, .nilFunc, (.map none), (.map none), (.map none)] [(0, 1, t19_17), (1, 1, own1), (2, 1, sign3), (3, 1, arcs4), (4, 1, head5), (5, 1, t24_16), (6, 1, t25_18), (7, 1, t26_18)] fun t27_26 =>
  pBox T_both_side t27_26 h_127 fun t28_26 h_128 =>
  pIdxA 1 2 t30 own1 fun t31_26 =>
  pStore 1 t31_26 t28_26 h_128 fun u_26 h_129 =>
  K (.tuple #[]) h_129) ∧
  (pMakeMap h_125 fun t26_19 h_130 =>
  callS P F_heap_New [t18_1] h_130 fun t19_18 h_131 =>
  pBuild [(.pointer none), (.int .i64 0), (.int .i64 0), .nilFunc, .nilFunc, (.map none), (.map none), (.map none)] [(0, 1, t19_18), (1, 1, own1), (2, 1, sign3), (3, 1, arcs4), (4, 1, head5), (5, 1, t24_16), (6, 1, t25_18), (7, 1, t26_19)] fun t27_27 =>
  pBox T_both_side t27_27 h_131 fun t28_27 h_132 =>
  pIdxA 1 2 t30 own1 fun t31_27 =>
  pStore 1 t31_27 t28_27 h_132 fun u_27 h_133 =>
  K (.tuple #[]) h_133)) ∧
  (pMakeMap h_115 fun t26_20 h_134 =>
  (callS P F_heap_New [t18_1] h_134 fun t19_19 h_135 =>
  pMakeMap h_135 fun t25_19 h_136 =>
  pBuild [(.pointer none), (.int .i64 0), (.int .i64 0), .nilFunc, .nilFunc, (.map none), (.map none), (.map none)] [(0, 1, t19_19), (1, 1, own1), (2, 1, sign3), (3, 1, arcs4), (4, 1, head5), (5, 1, t24_16), (6, 1, t25_19), (7, 1, t26_20)] fun t27_28 =>
  pBox T_both_side t27_28 h_136 fun t28_28 h_137 =>
  pIdxA 1 2 t30 own1 fun t31_28 =>
  pStore 1 t31_28 t28_28 h_137 fun u_28 h_138 =>
  K (.tuple #[]) h_138) ∧
  (pMakeMap h_134 fun t25_20 h_139 =>
  callS P F_heap_New [t18_1] h_139 fun t19_20 h_140 =>
  pBuild [(.pointer none), (.int .i64 0), (.int .i64 0), .nilFunc, .nilFunc, (.map none), (.map none), (.map none)] [(0, 1, t19_20), (1, 1, own1), (2, 1, sign3), (3, 1, arcs4), (4, 1, head5), (5, 1, t24_16), (6, 1, t25_20), (7, 1, t26_20)] fun t27_29 =>
  pBox T_both_side t27_29 h_140 fun t28_29 h_141 =>
  pIdxA 1 2 t30 own1 fun t31_29 =>
  pStore 1 t31_29 t28_29 h_141 fun u_29 h_142 =>
  K (.tuple #[]) h_142))) ∧
  (pMakeMap h_114 fun t25_21 h_143 =>
  (callS P F_net_Net_Nodes [t17] h_143 fun t18_2 h_144 =>
  (callS P F_heap_New [t18_2] h_144 fun t19_21 h_145 =>
  pMakeMap h_145 fun t26_21 h_146 =>
  pBuild [(.pointer none), (.int .i64 0), (.int .i64 0), .nilFunc, .nilFunc, (.map none), (.map none), (.map none)] [(0, 1, t19_21), (1, 1, own1), (2, 1, sign3), (3, 1, arcs4), (4, 1, head5), (5, 1, t24_16), (6, 1, t25_21), (7, 1, t26_21)] fun t27_30 =>
  pBox T_both_side t27_30 h_146 fun t28_30 h_147 =>
  pIdxA 1 2 t30 own1 fun t31_30 =>
  pStore 1 t31_30 t28_30 h_147 fun u_30 h_148 =>
  K (.tuple #[]) h_148) ∧
  (pMakeMap h_144 fun t26_22 h_149 =>
  callS P F_heap_New [t18_2] h_149 fun t19_22 h_150 =>
  pBuild [(.pointer none), (.int .i64 0), (.int .i64 0), .nilFunc, .nilFunc, (.map none), (.map none), (.map none)] [(0, 1, t19_22), (1, 1, own1), (2, 1, sign3), (3, 1, arcs4), (4, 1, head5), (5, 1, t24_16), (6, 1, t25_21), (7, 1, t26_22)] fun t27_31 =>
  pBox T_both_side t27_31 h_150 fun t28_31 h_151 =>
  pIdxA 1 2 t30 own1 fun t31_31 =>
  pStore 1 t31_31 t28_31 h_151 fun u_31 h_152 =>
  K (.tuple #[]) h_152)) ∧
  (pMakeMap h_143 fun t26_23 h_153 =>
  callS P F_net_Net_Nodes [t17] h_153 fun t18_3 h_154 =>
  callS P F_heap_New [t18_3] h_154 fun t19_23 h_155 =>
  pBuild [(.pointer none), (.int .i64 0), (.int .i64 0), .nilFunc, .nilFunc, (.map none), (.map none), (.map none)] [(0, 1, t19_23), (1, 1, own1), (2, 1, sign3), (3, 1, arcs4), (4, 1, head5), (5, 1, t24_16), (6, 1, t25_21), (7, 1, t26_23)] fun t27_32 =>
  pBox T_both_side t27_32 h_155 fun t28_32 h_156 =>
  pIdxA 1 2 t30 own1 fun t31_32 =>
  pStore 1 t31_32 t28_32 h_156 fun u_32 h_157 =>
  K (.tuple #[]) h_157)) ∧
  (pMakeMap h_114 fun t26_24 h_158 =>
  (callS P F_net_Net_Nodes [t17] h_158 fun t18_4 h_159 =>
  (callS P F_heap_New [t18_4] h_159 fun t19_24 h_160 =>
  pMakeMap h_160 fun t25_22 h_161 =>
  pBuild [(.pointer none), (.int .i64 0), (.int .i64 0), .nilFunc, .nilFunc, (.map none), (.map none), (.map none)] [(0, 1, t19_24), (1, 1, own1), (2, 1, sign3), (3, 1, arcs4), (4, 1, head5), (5, 1, t24_16), (6, 1, t25_22), (7, 1, t26_24)] fun t27_33 =>
  pBox T_both_side t27_33 h_161 fun t28_33 h_162 =>
  pIdxA 1 2 t30 own1 fun t31_33 =>
  pStore 1 t31_33 t28_33 h_162 fun u_33 h_163 =>
  K (.tuple #[]) h_163) ∧
  (pMakeMap h_159 fun t25_23 h_164 =>
  callS P F_heap_New [t18_4] h_164 fun t19_25 h_165 =>
  pBuild [(.pointer none), (.int .i64 0), (.int .i64 0), .nilFunc, .nilFunc, (.map none), (.map none), (.map none)] [(0, 1, t19_25), (1, 1, own1), (2, 1, sign3), (3, 1, arcs4), (4, 1, head5), (5, 1, t24_16), (6, 1, t25_23), (7, 1, t26_24)] fun t27_34 =>
  pBox T_both_side t27_34 h_165 fun t28_34 h_166 =>
  pIdxA 1 2 t30 own1 fun t31_34 =>
  pStore 1 t31_34 t28_34 h_166 fun u_34 h_167 =>
  K (.tuple #[]) h_167)) ∧
  (pMakeMap h_158 fun t25_24 h_168 =>
  callS P F_net_Net_Nodes [t17] h_168 fun t18_5 h_169 =>
  callS P F_heap_New [t18_5] h_169 fun t19_26 h_170 =>
  pBuild [(.pointer none), (.int .i64 0), (.int .i64 0), .nilFunc, .nilFunc, (.map none), (.map none), (.map none)] [(0, 1, t19_26), (1, 1, own1), (2, 1, sign3), (3, 1, arcs4), (4, 1, head5), (5, 1, t24_16), (6, 1, t25_24), (7, 1, t26_24)] fun t27_35 =>
  pBox T_both_side t27_35 h_170 fun t28_35 h_171 =>
  pIdxA 1 2 t30 own1 fun t31_35 =>
  pStore 1 t31_35 t28_35 h_171 fun u_35 h_172 =>
  K (.tuple #[]) h_172))) ∧
  (pMakeMap h fun t25_25 h_173 =>
  (callS P F_net_Net_Nodes [t17] h_173 fun t18_6 h_174 =>
  (callS P F_heap_New [t18_6] h_174 fun t19_27 h_175 =>
  (pMakeMap h_175 fun t24_17 h_176 =>
  pMakeMap h_176 fun t26_25 h_177 =>
  pBuild [(.pointer none), (.int .i64 0), (.int .i64 0), .nilFunc, .nilFunc, (.map none), (.map none), (.map none)] [(0, 1, t19_27), (1, 1, own1), (2, 1, sign3), (3, 1, arcs4), (4, 1, head5), (5, 1, t24_17), (6, 1, t25_25), (7, 1, t26_25)] fun t27_36 =>
  pBox T_both_side t27_36 h_177 fun t28_36 h_178 =>
  pIdxA 1 2 t30 own1 fun t31_36 =>
  pStore 1 t31_36 t28_36 h_178 fun u_36 h_179 =>
  K (.tuple #[]) h_179) ∧
  (pMakeMap h_175 fun t26_26 h_180 =>
  pMakeMap h_180 fun t24_18 h_181 =>
  pBuild [(.pointer none), (.int .i64 0), (.int .i64 0), .nilFunc, .nilFunc, (.map none), (.map none), (.map none)] [(0, 1, t19_27), (1, 1, own1), (2, 1, sign3), (3, 1, arcs4), (4, 1, head5), (5, 1, t24_18), (6, 1, t25_25), (7, 1, t26_26)] fun t27_37 =>
  pBox T_both_side t27_37 h_181 fun t28_37 h_182 =>
  pIdxA 1 2 t30 own1 fun t31_37 =>
  pStore 1 t31_37 t28_37 h_182 fun u_37 h_183 =>
  K (.tuple #[]) h_183)) ∧
  (pMakeMap h_174 fun t24_19 h_184 =>
  (callS P F_heap_New [t18_6] h_184 fun t19_28 h_185 =>
  pMakeMap h_185 fun t26_27 h_186 =>
  pBuild [(.pointer none), (.int .i64 0), (.int .i64 0), .nilFunc, .nilFunc, (.map none), (.map none), (.map none)] [(0, 1, t19_28), (1, 1, own1), (2, 1, sign3), (3, 1, arcs4), (4, 1, head5), (5, 1, t24_19), (6, 1, t25_25), (7, 1, t26_27)] fun t27_38 =>
  pBox T_both_side t27_38 h_186 fun t28_38 h_187 =>
  pIdxA 1 2 t30 own1 fun t31_38 =>
  pStore 1 t31_38 t28_38 h_187 fun u_38 h_188 =>
  K (.tuple #[]) h_188) ∧
  (pMakeMap h_184 fun t26_28 h_189 =>
  callS P F_heap_New [t18_6] h_189 fun t19_29 h_190 =>
  pBuild [(.pointer none), (.int .i64 0), (.int .i64 0), .nilFunc, .nilFunc, (.map none), (.map none), (.map none)] [(0, 1, t19_29), (1, 1, own1), (2, 1, sign3), (3, 1, arcs4), (4, 1, head5), (5, 1, t24_19), (6, 1, t25_25), (7, 1, t26_28)] fun t27_39 =>
  pBox T_both_side t27_39 h_190 fun t28_39 h_191 =>
  pIdxA 1 2 t30 own1 fun t31_39 =>
  pStore 1 t31_39 t28_39 h_191 fun u_39 h_192 =>
  K (.tuple #[]) h_192)) ∧
  (pMakeMap h_174 fun t26_29 h_193 =>
  (callS P F_heap_New [t18_6] h_193 fun t19_30 h_194 =>
  pMakeMap h_194 fun t24_20 h_195 =>
  pBuild [(.pointer none), (.int .i64 0), (.int .i64 0), .nilFunc, .nilFunc, (.map none), (.map none), (.map none)] [(0, 1, t19_30), (1, 1, own1), (2, 1, sign3), (3, 1, arcs4), (4, 1, head5), (5, 1, t24_20), (6, 1, t25_25), (7, 1, t26_29)] fun t27_40 =>
  pBox T_both_side t27_40 h_195 fun t28_40 h_196 =>
  pIdxA 1 2 t30 own1 fun t31_40 =>
  pStore 1 t31_40 t28_40 h_196 fun u_40 h_197 =>
  K (.tuple #[]) h_197) ∧
  (pMakeMap h_193 fun t24_21 h_198 =>
  callS P F_heap_New [t18_6] h_198 fun t19_31 h_199 =>
  pBuild [(.pointer none), (.int .i64 0), (.int .i64 0), .nilFunc, .nilFunc, (.map none), (.map none), (.map none)] [(0, 1, t19_31), (1, 1, own1), (2, 1, sign3), (3, 1, arcs4), (4, 1, head5), (5, 1, t24_21), (6, 1, t25_25), (7, 1, t26_29)] fun t27_41 =>
  pBox T_both_side t27_41 h_199 fun t28_41 h_200 =>
  pIdxA 1 2 t30 own1 fun t31_41 =>
  pStore 1 t31_41 t28_41 h_200 fun u_41 h_201 =>
  K (.tuple #[]) h_201))) ∧
  (pMakeMap h_173 fun t24_22 h_202 =>
  (callS P F_net_Net_Nodes [t17] h_202 fun t18_7 h_203 =>
  (callS P F_heap_New [t18_7] h_203 fun t19_32 h_204 =>
  pMakeMap h_204 fun t26_30 h_205 =>
  pBuild [(.pointer none), (.int .i64 0), (.int .i64 0), .nilFunc, .nilFunc, (.map none), (.map none), (.map none)] [(0, 1, t19_32), (1, 1, own1), (2, 1, sign3), (3, 1, arcs4), (4, 1, head5), (5, 1, t24_22), (6, 1, t25_25), (7, 1, t26_30)] fun t27_42 =>
  pBox T_both_side t27_42 h_205 fun t28_42 h_206 =>
  pIdxA 1 2 t30 own1 fun t31_42 =>
  pStore 1 t31_42 t28_42 h_206 fun u_42 h_207 =>
  K (.tuple #[]) h_207) ∧
  (pMakeMap h_203 fun t26_31 h_208 =>
  callS P F_heap_New [t18_7] h_208 fun t19_33 h_209 =>
  pBuild [(.pointer none), (.int .i64 0), (.int .i64 0), .nilFunc, .nilFunc, (.map none), (.map none), (.map none)] [(0, 1, t19_33), (1, 1, own1), (2, 1, sign3), (3, 1, arcs4), (4, 1, head5), (5, 1, t24_22), (6, 1, t25_25), (7, 1, t26_31)] fun t27_43 =>
  pBox T_both_side t27_43 h_209 fun t28_43 h_210 =>
  pIdxA 1 2 t30 own1 fun t31_43 =>
  pStore 1 t31_43 t28_43 h_210 fun u_43 h_211 =>
  K (.tuple #[]) h_211)) ∧
  (pMakeMap h_202 fun t26_32 h_212 =>
  callS P F_net_Net_Nodes [t17] h_212 fun t18_8 h_213 =>
  callS P F_heap_New [t18_8] h_213 fun t19_34 h_214 =>
  pBuild [(.pointer none), (.int .i64 0), (.int .i64 0), .nilFunc, .nilFunc, (.map none), (.map none), (.map none)] [(0, 1, t19_34), (1, 1, own1), (2, 1, sign3), (3, 1, arcs4), (4, 1, head5), (5, 1, t24_22), (6, 1, t25_25), (7, 1, t26_32)] fun t27_44 =>
  pBox T_both_side t27_44 h_214 fun t28_44 h_215 =>
  pIdxA 1 2 t30 own1 fun t31_44 =>
  pStore 1 t31_44 t28_44 h_215 fun u_44 h_216 =>
  K (.tuple #[]) h_216)) ∧
  (pMakeMap h_173 fun t26_33 h_217 =>
  (callS P F_net_Net_Nodes [t17] h_217 fun t18_9 h_218 =>
  (callS P F_heap_New [t18_9] h_218 fun t19_35 h_219 =>
  pMakeMap h_219 fun t24_23 h_220 =>
  pBuild [(.pointer none), (.int .i64 0), (.int .i64 0), .nilFunc, .nilFunc, (.map none), (.map none), (.map none)] [(0, 1, t19_35), (1, 1, own1), (2, 1, sign3), (3, 1, arcs4), (4, 1, head5), (5, 1, t24_23), (6, 1, t25_25), (7, 1, t26_33)] fun t27_45 =>
  pBox T_both_side t27_45 h_220 fun t28_45 h_221 =>
  pIdxA 1 2 t30 own1 fun t31_45 =>
  pStore 1 t31_45 t28_45 h_221 fun u_45 h_222 =>
  K (.tuple #[]) h_222) ∧
  (pMakeMap h_218 fun t24_24 h_223 =>
  callS P F_heap_New [t18_9] h_223 fun t19_36 h_224 =>
  pBuild [(.pointer none), (.int .i64 0), (.int .i64 0), .nilFunc, .nilFunc, (.map none), (.map none), (.map none)] [(0, 1, t19_36), (1, 1, own1), (2, 1, sign3), (3, 1, arcs4), (4, 1, head5), (5, 1, t24_24), (6, 1, t25_25), (7, 1, t26_33)] fun t27_46 =>
  pBox T_both_side t27_46 h_224 fun t28_46 h_225 =>
  pIdxA 1 2 t30 own1 fun t31_46 =>
  pStore 1 t31_46 t28_46 h_225 fun u_46 h_226 =>
  K (.tuple #[]) h_226)) ∧
  (pMakeMap h_217 fun t24_25 h_227 =>
  callS P F_net_Net_Nodes [t17] h_227 fun t18_10 h_228 =>
  callS P F_heap_New [t18_10] h_228 fun t19_37 h_229 =>
  pBuild [(.pointer none), (.int .i64 0), (.int .i64 0), .nilFunc, .nilFunc, (.map none), (.map none), (.map none)] [(0, 1, t19_37), (1, 1, own1), (2, 1, sign3), (3, 1, arcs4), (4, 1, head5), (5, 1, t24_25), (6, 1, t25_25), (7, 1, t26_33)] fun t27_47 =>
  pBox T_both_side t27_47 h_229 fun t28_47 h_230 =>
  pIdxA 1 2 t30 own1 fun t31_47 =>
  pStore 1 t31_47 t28_47 h_230 fun u_47 h_231 =>
  K (.tuple #[]) h_231))) ∧
  (pMakeMap h fun t26_34 h_232 =>
  (callS P F_net_Net_Nodes [t17] h_232 fun t18_11 h_233 =>
  (callS P F_heap_New [t18_11] h_233 fun t19_38 h_234 =>
  (pMakeMap h_234 fun t24_26 h_235 =>
  pMakeMap h_235 fun t25_26 h_236 =>
  pBuild [(.pointer none), (.int .i64 0), (.int .i64 0), .nilFunc, .nilFunc, (.map none), (.map none), (.map none)] [(0, 1, t19_38), (1, 1, own1), (2, 1, sign3), (3, 1, arcs4), (4, 1, head5), (5, 1, t24_26), (6, 1, t25_26), (7, 1, t26_34)] fun t27_48 =>
  pBox T_both_side t27_48 h_236 fun t28_48 h_237 =>
  pIdxA 1 2 t30 own1 fun t31_48 =>
  pStore 1 t31_48 t28_48 h_237 fun u_48 h_238 =>
  K (.tuple #[]) h_238) ∧
  (pMakeMap h_234 fun t25_27 h_239 =>
  pMakeMap h_239 fun t24_27 h_240 =>
  pBuild [(.pointer none), (.int .i64 0), (.int .i64 0), .nilFunc, .nilFunc, (.map none), (.map none), (.map none)] [(0, 1, t19_38), (1, 1, own1), (2, 1, sign3), (3, 1, arcs4), (4, 1, head5), (5, 1, t24_27), (6, 1, t25_27), (7, 1, t26_34)] fun t27_49 =>
  pBox T_both_side t27_49 h_240 fun t28_49 h_241 =>
  pIdxA 1 2 t30 own1 fun t31_49 =>
  pStore 1 t31_49 t28_49 h_241 fun u_49 h_242 =>
  K (.tuple #[]) h_242)) ∧
  (pMakeMap h_233 fun t24_28 h_243 =>
  (callS P F_heap_New [t18_11] h_243 fun t19_39 h_244 =>
  pMakeMap h_244 fun t25_28 h_245 =>
  pBuild [(.pointer none), (.int .i64 0), (.int .i64 0), .nilFunc, .nilFunc, (.map none), (.map none), (.map none)] [(0, 1, t19_39), (1, 1, own1), (2, 1, sign3), (3, 1, arcs4), (4, 1, head5), (5, 1, t24_28), (6, 1, t25_28), (7, 1, t26_34)] fun t27_50 =>
  pBox T_both_side t27_50 h_245 fun t28_50 h_246 =>
  pIdxA 1 2 t30 own1 fun t31_50 =>
  pStore 1 t31_50 t28_50 h_246 fun u_50 h_247 =>
  K (.tuple #[]) h_247) ∧
  (pMakeMap h_243 fun t25_29 h_248 =>
  callS P F_heap_New [t18_11] h_248 fun t19_40 h_249 =>
  pBuild [(.pointer none), (.int .i64 0), (.int .i64 0), .nilFunc, .nilFunc, (.map none), (.map none), (.map none)] [(0, 1, t19_40), (1, 1, own1), (2, 1, sign3), (3, 1, arcs4), (4, 1, head5), (5, 1, t24_28), (6, 1, t25_29), (7, 1, t26_34)] fun t27_51 =>
  pBox T_both_side t27_51 h_249 fun t28_51 h_250 =>
  pIdxA 1 2 t30 own1 fun t31_51 =>
  pStore 1 t31_51 t28_51 h_250 fun u_51 h_251 =>
  K (.tuple #[]) h_251)) ∧
  (pMakeMap h_233 fun t25_30 h_252 =>
  (callS P F_heap_New [t18_11] h_252 fun t19_41 h_253 =>
  pMakeMap h_253 fun t24_29 h_254 =>
  pBuild [(.pointer none), (.int .i64 0), (.int .i64 0), .nilFunc, .nilFunc, (.map none), (.map none), (.map none)] [(0, 1, t19_41), (1, 1, own1), (2, 1, sign3), (3, 1, arcs4), (4, 1, head5), (5, 1, t24_29), (6, 1, t25_30), (7, 1, t26_34)] fun t27_52 =>
  pBox T_both_side t27_52 h_254 fun t28_52 h_255 =>
  pIdxA 1 2 t30 own1 fun t31_52 =>
  pStore 1 t31_52 t28_52 h_255 fun u_52 h_256 =>
  K (.tuple #[]) h_256) ∧
  (pMakeMap h_252 fun t24_30 h_257 =>
  callS P F_heap_New [t18_11] h_257 fun t19_42 h_258 =>
  pBuild [(.pointer none), (.int .i64 0), (.int .i64 0), .nilFunc, .nilFunc, (.map none), (.map none), (.map none)] [(0, 1, t19_42), (1, 1, own1), (2, 1, sign3), (3, 1, arcs4), (4, 1, head5), (5, 1, t24_30), (6, 1, t25_30), (7, 1, t26_34)] fun t27_53 =>
  pBox T_both_side t27_53 h_258 fun t28_53 h_259 =>
  pIdxA 1 2 t30 own1 fun t31_53 =>
  pStore 1 t31_53 t28_53 h_259 fun u_53 h_260 =>
  K (.tuple #[]) h_260))) ∧
  (pMakeMap h_232 fun t24_31 h_261 =>
  (callS P F_net_Net_Nodes [t17] h_261 fun t18_12 h_262 =>
  (callS P F_heap_New [t18_12] h_262 fun t19_43 h_263 =>
  pMakeMap h_263 fun t25_31 h_264 =>
  pBuild [(.pointer none), (.int .i64 0), (.int .i64 0), .nilFunc, .nilFunc, (.map none), (.map none), (.map none)] [(0, 1, t19_43), (1, 1, own1), (2, 1, sign3), (3, 1, arcs4), (4, 1, head5), (5, 1, t24_31), (6, 1, t25_31), (7, 1, t26_34)] fun t27_54 =>
  pBox T_both_side t27_54 h_264 fun t28_54 h_265 =>
  pIdxA 1 2 t30 own1 fun t31_54 =>
  pStore 1 t31_54 t28_54 h_265 fun u_54 h_266 =>
  K (.tuple #[]) h_266) ∧
  (pMakeMap h_262 fun t25_32 h_267 =>
  callS P F_heap_New [t18_12] h_267 fun t19_44 h_268 =>
  pBuild [(.pointer none), (.int .i64 0), (.int .i64 0), .nilFunc, .nilFunc, (.map none), (.map none), (.map none)] [(0, 1, t19_44), (1, 1, own1), (2, 1, sign3), (3, 1, arcs4), (4, 1, head5), (5, 1, t24_31), (6, 1, t25_32), (7, 1, t26_34)] fun t27_55 =>
  pBox T_both_side t27_55 h_268 fun t28_55 h_269 =>
  pIdxA 1 2 t30 own1 fun t31_55 =>
  pStore 1 t31_55 t28_55 h_269 fun u_55 h_270 =>
  K (.tuple #[]) h_270)) ∧
  (pMakeMap h_261 fun t25_33 h_271 =>
  callS P F_net_Net_Nodes [t17] h_271 fun t18_13 h_272 =>
  callS P F_heap_New [t18_13] h_272 fun t19_45 h_273 =>
  pBuild [(.pointer none), (.int .i64 0), (.int .i64 0), .nilFunc, .nilFunc, (.map none), (.map none), (.map none)] [(0, 1, t19_45), (1, 1, own1), (2, 1, sign3), (3, 1, arcs4), (4, 1, head5), (5, 1, t24_31), (6, 1, t25_33), (7, 1, t26_34)] fun t27_56 =>
  pBox T_both_side t27_56 h_273 fun t28_56 h_274 =>
  pIdxA 1 2 t30 own1 fun t31_56 =>
  pStore 1 t31_56 t28_56 h_274 fun u_56 h_275 =>
  K (.tuple #[]) h_275)) ∧
  (pMakeMap h_232 fun t25_34 h_276 =>
  (callS P F_net_Net_Nodes [t17] h_276 fun t18_14 h_277 =>
  (callS P F_heap_New [t18_14] h_277 fun t19_46 h_278 =>
  pMakeMap h_278 fun t24_32 h_279 =>
  pBuild [(.pointer none), (.int .i64 0), (.int .i64 0), .nilFunc, .nilFunc, (.map none), (.map none), (.map none)] [(0, 1, t19_46), (1, 1, own1), (2, 1, sign3), (3, 1, arcs4), (4, 1, head5), (5, 1, t24_32), (6, 1, t25_34), (7, 1, t26_34)] fun t27_57 =>
  pBox T_both_side t27_57 h_279 fun t28_57 h_280 =>
  pIdxA 1 2 t30 own1 fun t31_57 =>
  pStore 1 t31_57 t28_57 h_280 fun u_57 h_281 =>
  K (.tuple #[]) h_281) ∧
  (pMakeMap h_277 fun t24_33 h_282 =>
  callS P F_heap_New [t18_14] h_282 fun t19_47 h_283 =>
  pBuild [(.pointer none), (.int .i64 0), (.int .i64 0), .nilFunc, .nilFunc, (.map none), (.map none), (.map none)] [(0, 1, t19_47), (1, 1, own1), (2, 1, sign3), (3, 1, arcs4), (4, 1, head5), (5, 1, t24_33), (6, 1, t25_34), (7, 1, t26_34)] fun t27_58 =>
  pBox T_both_side t27_58 h_283 fun t28_58 h_284 =>
  pIdxA 1 2 t30 own1 fun t31_58 =>
  pStore 1 t31_58 t28_58 h_284 fun u_58 h_285 =>
  K (.tuple #[]) h_285)) ∧
  (pMakeMap h_276 fun t24_34 h_286 =>
  callS P F_net_Net_Nodes [t17] h_286 fun t18_15 h_287 =>
  callS P F_heap_New [t18_15] h_287 fun t19_48 h_288 =>
  pBuild [(.pointer none), (.int .i64 0), (.int .i64 0), .nilFunc, .nilFunc, (.map none), (.map none), (.map none)] [(0, 1, t19_48), (1, 1, own1), (2, 1, sign3), (3, 1, arcs4), (4, 1, head5), (5, 1, t24_34), (6, 1, t25_34), (7, 1, t26_34)] fun t27_59 =>
  pBox T_both_side t27_59 h_288 fun t28_59 h_289 =>
  pIdxA 1 2 t30 own1 fun t31_59 =>
  pStore 1 t31_59 t28_59 h_289 fun u_59 h_290 =>
  K (.tuple #[]) h_290)))

set_option maxRecDepth 100000 in
theorem lk_both_search_begin (s0 own1 v2 sign3 arcs4 head5 : Value) {h : Heap} {K : Value → Heap → Prop} (H : sh_both_search_begin Tryz.prog s0 own1 v2 sign3 arcs4 head5 h K) : CallsH Tryz.prog F_both_search_begin [s0, own1, v2, sign3, arcs4, head5].toArray h K :=
  callsH_of (ann := (annG (Tryz.f33.body.getD .skip) 0 []).1) (c := Tryz.f33.body.getD .skip) Tryz.func33 (by kernel_rfl) (by kernel_rfl) (by kernel_rfl) (of_decide_eq_true (by kernel_rfl))
    (Eq.mpr (by kernel_rfl) H)

end Go.Proofs.YtkeoponidgpfpaaGreatDoor

namespace Go.Proofs.YtkeoponidgpfpaaGreatDoor
open Go Go.Mh
set_option maxHeartbeats 0
set_option linter.unusedVariables false

/-! milestone/both.Run$1 -/

def sh_both_Run_1 (P : Program) (a0 : Value) (h : Heap) (K : Value → Heap → Prop) : Prop :=
  pBox T_api_Arc a0 h fun a1 h_1 =>
  pField 1 a1 fun t3 =>
  pLoad h_1 t3 fun t4 =>
  K t4 h_1

set_option maxRecDepth 100000 in
theorem lk_both_Run_1 (a0 : Value) {h : Heap} {K : Value → Heap → Prop} (H : sh_both_Run_1 Tryz.prog a0 h K) : CallsH Tryz.prog F_both_Run_1 [a0].toArray h K :=
  callsH_of (ann := (annG (Tryz.f34.body.getD .skip) 0 []).1) (c := Tryz.f34.body.getD .skip) Tryz.func34 (by kernel_rfl) (by kernel_rfl) (by kernel_rfl) (of_decide_eq_true (by kernel_rfl))
    (Eq.mpr (by kernel_rfl) H)

/-! milestone/both.Run$2 -/

def sh_both_Run_2 (P : Program) (a0 : Value) (h : Heap) (K : Value → Heap → Prop) : Prop :=
  pBox T_api_Arc a0 h fun a1 h_1 =>
  pField 0 a1 fun t3 =>
  pLoad h_1 t3 fun t4 =>
  K t4 h_1

set_option maxRecDepth 100000 in
theorem lk_both_Run_2 (a0 : Value) {h : Heap} {K : Value → Heap → Prop} (H : sh_both_Run_2 Tryz.prog a0 h K) : CallsH Tryz.prog F_both_Run_2 [a0].toArray h K :=
  callsH_of (ann := (annG (Tryz.f35.body.getD .skip) 0 []).1) (c := Tryz.f35.body.getD .skip) Tryz.func35 (by kernel_rfl) (by kernel_rfl) (by kernel_rfl) (of_decide_eq_true (by kernel_rfl))
    (Eq.mpr (by kernel_rfl) H)

/-! (*milestone/both.search).reach -/

def sh_both_search_reach_k2 (P : Program) (x1 s0 v2 label4 : Value) (K : Value → Heap → Prop) (h_8 : Heap) : Prop :=
  pNil x1 fun t94 =>
  pField 1 t94 fun t95 =>
  pLoad h_8 t95 fun t96 =>
  pBin .sub (.int .i64 1) t96 fun t97 =>
  pNil s0 fun t98 =>
  pField 5 t98 fun t99 =>
  pIdxA 1 2 t99 t97 fun t100 =>
  pLoad h_8 t100 fun t101 =>
  pNil t101 fun t102 =>
  pField 5 t102 fun t103 =>
  pLoad h_8 t103 fun t104 =>
  pLook (.int .i64) (.int .i64 0) true h_8 t104 v2 fun t106 =>
  pExt t106 0 fun t107 =>
  pExt t106 1 fun t108 =>
  ifV t108
  (pBin .add label4 t107 fun t113 =>
  pNil s0 fun t115 =>
  pField 7 t115 fun t116 =>
  pField 0 t116 fun t117 =>
  pLoad h_8 t117 fun t118 =>
  pBin .lss t113 t118 fun t119 =>
  ifV t119
  (pBin .add label4 t107 fun t125 =>
  pNil s0 fun t127 =>
  pField 7 t127 fun t128 =>
  pField 0 t128 fun t129 =>
  pStore 1 t129 t125 h_8 fun u_2 h_9 =>
  pNil s0 fun t130 =>
  pField 10 t130 fun t131 =>
  pStore 1 t131 v2 h_9 fun u_3 h_10 =>
  K (.tuple #[]) h_10)
  (K (.tuple #[]) h_8))
  (K (.tuple #[]) h_8)

def sh_both_search_reach_k1 (P : Program) (x1 v2 label4 arc3 t21 t31 s0 : Value) (K : Value → Heap → Prop) (h_2 : Heap) : Prop :=
  pNil x1 fun t52 =>
  pField 5 t52 fun t53 =>
  pLoad h_2 t53 fun t54 =>
  pNil x1 fun t57 =>
  pField 6 t57 fun t58 =>
  pLoad h_2 t58 fun t59 =>
  pMapEntry (.int .i64) (.int .i64 0) t54 v2 h_2 fun t63 h_3 =>
  pExt t63 1 fun t64 =>
  pEntryStore t54 t64 label4 h_3 fun u h_4 =>
  pMapEntry (.int .i64) (.int .i64 0) t59 v2 h_4 fun t65 h_5 =>
  pExt t65 1 fun t66 =>
  pEntryStore t59 t66 arc3 h_5 fun u_1 h_6 =>
  pBin .mul (.int .i64 2) label4 fun t68 =>
  pNil x1 fun t70 =>
  pField 2 t70 fun t71 =>
  pLoad h_6 t71 fun t72 =>
  pBin .mul t72 t21 fun t74 =>
  pBin .add t68 t74 fun t75 =>
  ifV t31
  (pNil x1 fun t78 =>
  pField 0 t78 fun t79 =>
  pLoad h_6 t79 fun t80 =>
  callS P F_heap_Heap_Lower [t80, v2, t75] h_6 fun t83 h_7 =>
  sh_both_search_reach_k2 P x1 s0 v2 label4 K h_7)
  (pNil x1 fun t85 =>
  pField 0 t85 fun t86 =>
  pLoad h_6 t86 fun t87 =>
  callS P F_heap_Heap_Push [t87, v2, t75] h_6 fun t90 h_11 =>
  sh_both_search_reach_k2 P x1 s0 v2 label4 K h_11)

def sh_both_search_reach (P : Program) (s0 x1 v2 arc3 label4 : Value) (h : Heap) (K : Value → Heap → Prop) : Prop :=
  callS P F_both_search_pi [s0, v2] h fun t20 h_1 =>
  pExt t20 0 fun t21 =>
  pExt t20 1 fun t22 =>
  pNil x1 fun t25 =>
  pField 5 t25 fun t26 =>
  pLoad h_1 t26 fun t27 =>
  pLook (.int .i64) (.int .i64 0) true h_1 t27 v2 fun t29 =>
  pExt t29 0 fun t30 =>
  pExt t29 1 fun t31 =>
  pUn .not t22 fun t33 =>
  ifV t33
  (K (.tuple #[]) h_1)
  (pNil x1 fun t36 =>
  pField 7 t36 fun t37 =>
  pLoad h_1 t37 fun t38 =>
  pLook (.int .i64) (.int .i64 0) false h_1 t38 v2 fun t40 =>
  pBin .gtr t40 (.int .i64 0) fun t41 =>
  ifV t41
  (K (.tuple #[]) h_1)
  (ifV t31
  (pBin .leq t30 label4 fun t48 =>
  ifV t48
  (K (.tuple #[]) h_1)
  (sh_both_search_reach_k1 P x1 v2 label4 arc3 t21 t31 s0 K h_1))
  (sh_both_search_reach_k1 P x1 v2 label4 arc3 t21 t31 s0 K h_1)))

set_option maxRecDepth 100000 in
theorem lk_both_search_reach (s0 x1 v2 arc3 label4 : Value) {h : Heap} {K : Value → Heap → Prop} (H : sh_both_search_reach Tryz.prog s0 x1 v2 arc3 label4 h K) : CallsH Tryz.prog F_both_search_reach [s0, x1, v2, arc3, label4].toArray h K :=
  callsH_of (ann := (annG (Tryz.f36.body.getD .skip) 0 []).1) (c := Tryz.f36.body.getD .skip) Tryz.func36 (by kernel_rfl) (by kernel_rfl) (by kernel_rfl) (of_decide_eq_true (by kernel_rfl))
    (Eq.mpr (by kernel_rfl) H)

/-! (*milestone/both.search).next -/

def sh_both_search_next_k1 (P : Program) (K : Value → Heap → Prop) (h_3 : Heap) : Prop :=
  K (.pointer none) h_3

def sh_both_search_next (P : Program) (s0 : Value) (h : Heap) (K : Value → Heap → Prop) : Prop :=
  pNil s0 fun t9 =>
  pField 5 t9 fun t10 =>
  pIdxA 1 2 t10 (.int .i64 0) fun t11 =>
  pLoad h t11 fun t12 =>
  pNil t12 fun t13 =>
  pField 0 t13 fun t14 =>
  pLoad h t14 fun t15 =>
  callS P F_heap_Heap_Least [t15] h fun t16 h_1 =>
  pExt t16 0 fun t17 =>
  pExt t16 1 fun t18 =>
  pNil s0 fun t21 =>
  pField 5 t21 fun t22 =>
  pIdxA 1 2 t22 (.int .i64 1) fun t23 =>
  pLoad h_1 t23 fun t24 =>
  pNil t24 fun t25 =>
  pField 0 t25 fun t26 =>
  pLoad h_1 t26 fun t27 =>
  callS P F_heap_Heap_Least [t27] h_1 fun t28 h_2 =>
  pExt t28 0 fun t29 =>
  pExt t28 1 fun t30 =>
  pUn .not t18 fun t33 =>
  ifV t33
  (sh_both_search_next_k1 P K h_2)
  (pUn .not t30 fun t36 =>
  ifV t36
  (sh_both_search_next_k1 P K h_2)
  (pBin .add t17 t29 fun t41 =>
  pNil s0 fun t43 =>
  pField 7 t43 fun t44 =>
  pField 0 t44 fun t45 =>
  pLoad h_2 t45 fun t46 =>
  pBin .mul (.int .i64 2) t46 fun t47 =>
  pBin .geq t41 t47 fun t48 =>
  ifV t48
  (sh_both_search_next_k1 P K h_2)
  (pBin .leq t17 t29 fun t53 =>
  ifV t53
  (pNil s0 fun t55 =>
  pField 5 t55 fun t56 =>
  pIdxA 1 2 t56 (.int .i64 0) fun t57 =>
  pLoad h_2 t57 fun t58 =>
  K t58 h_2)
  (pNil s0 fun t60 =>
  pField 5 t60 fun t61 =>
  pIdxA 1 2 t61 (.int .i64 1) fun t62 =>
  pLoad h_2 t62 fun t63 =>
  K t63 h_2))))

set_option maxRecDepth 100000 in
theorem lk_both_search_next (s0 : Value) {h : Heap} {K : Value → Heap → Prop} (H : sh_both_search_next Tryz.prog s0 h K) : CallsH Tryz.prog F_both_search_next [s0].toArray h K :=
  callsH_of (ann := (annG (Tryz.f37.body.getD .skip) 0 []).1) (c := Tryz.f37.body.getD .skip) Tryz.func37 (by kernel_rfl) (by kernel_rfl) (by kernel_rfl) (of_decide_eq_true (by kernel_rfl))
    (Eq.mpr (by kernel_rfl) H)

/-! (*milestone/both.search).step -/

def sh_both_search_step_k2 (P : Program) (t57 : Value) (Z : Value → Heap → Prop) (h_8 : Heap) : Prop :=
  pBin .add t57 (.int .i64 1) fun t124 =>
  Z t124 h_8

def sh_both_search_step_k3 (P : Program) (s0 x1 t60 t17 t57 : Value) (Z : Value → Heap → Prop) (h_9 : Heap) : Prop :=
  pNil s0 fun t81 =>
  pField 7 t81 fun t82 =>
  pField 2 t82 fun t83 =>
  pLoad h_9 t83 fun t84 =>
  pNil x1 fun t86 =>
  pField 1 t86 fun t87 =>
  pLoad h_9 t87 fun t88 =>
  pBuild [(.int .i64 0), (.int .i64 0), (.int .i64 0), (.int .i64 0)] [(0, 1, (.int .i64 1)), (1, 1, t88), (2, 1, t60)] fun t90 =>
  pBuildSlice T_api_Event (zerosL [(.int .i64 0), (.int .i64 0), (.int .i64 0), (.int .i64 0)] 1) [(0, 4, t90)] 1 h_9 fun t91 h_10 =>
  pAppend T_api_Event 4 32 [(.int .i64 0), (.int .i64 0), (.int .i64 0), (.int .i64 0)] t84 t91 h_10 fun t92 h_11 =>
  pNil s0 fun t93 =>
  pField 7 t93 fun t94 =>
  pField 2 t94 fun t95 =>
  pStore 1 t95 t92 h_11 fun u_2 h_12 =>
  pNil s0 fun t98 =>
  pField 0 t98 fun t99 =>
  pLoad h_12 t99 fun t100 =>
  callS P F_net_Net_Arc [t100, t60] h_12 fun t102 h_13 =>
  pExt t102 0 fun t103 =>
  pExt t102 1 fun t104 =>
  pBox T_api_Arc (.agg #[(.int .i64 0), (.int .i64 0), (.int .i64 0)]) h_13 fun a9 h_14 =>
  pStore 3 a9 t103 h_14 fun u_3 h_15 =>
  pNil x1 fun t108 =>
  pField 4 t108 fun t109 =>
  pLoad h_15 t109 fun t110 =>
  pLoadN 3 h_15 a9 fun t111 =>
  pNil x1 fun t115 =>
  pField 5 t115 fun t116 =>
  pLoad h_15 t116 fun t117 =>
  pLook (.int .i64) (.int .i64 0) false h_15 t117 t17 fun t119 =>
  pField 2 a9 fun t120 =>
  pLoad h_15 t120 fun t121 =>
  pBin .add t119 t121 fun t122 =>
  callV P t110 [t111].toArray h_15 fun t112 h_16 =>
  (pLoad h_16 t116 fun t117_1 =>
  t117_1 = t117) ∧
  (pLook (.int .i64) (.int .i64 0) false h_16 t117 t17 fun t119_1 =>
  t119_1 = t119) ∧
  (pLoad h_16 t120 fun t121_1 =>
  t121_1 = t121) ∧
  (callS P F_both_search_reach [s0, x1, t112, t60, t122] h_16 fun t123 h_17 =>
  sh_both_search_step_k2 P t57 Z h_17)

def sh_both_search_step_L1 (P : Program) (t56 t55 s0 x1 t17 : Value) (K : Value → Heap → Prop) (t57 : Value) (h_7 : Heap) (Z : Value → Heap → Prop) : Prop :=
  pBin .lss t57 t56 fun t58 =>
  ifV t58
  (pIdx 1 t55 t57 fun t59 =>
  pLoad h_7 t59 fun t60 =>
  pNil s0 fun t62 =>
  pField 1 t62 fun t63 =>
  pField 2 t63 fun t64 =>
  pLoad h_7 t64 fun t65 =>
  pLen t65 fun t66 =>
  pBin .gtr t66 (.int .i64 0) fun t67 =>
  ifV t67
  (pNil s0 fun t70 =>
  pField 1 t70 fun t71 =>
  pField 2 t71 fun t72 =>
  pLoad h_7 t72 fun t73 =>
  pIdx 1 t73 t60 fun t75 =>
  pLoad h_7 t75 fun t76 =>
  pUn .not t76 fun t77 =>
  ifV t77
  (sh_both_search_step_k2 P t57 Z h_7)
  (sh_both_search_step_k3 P s0 x1 t60 t17 t57 Z h_7))
  (sh_both_search_step_k3 P s0 x1 t60 t17 t57 Z h_7))
  (K (.tuple #[]) h_7)

def sh_both_search_step (P : Program) (s0 x1 : Value) (h : Heap) (K : Value → Heap → Prop) : Prop :=
  pNil x1 fun t13 =>
  pField 0 t13 fun t14 =>
  pLoad h t14 fun t15 =>
  callS P F_heap_Heap_Pop [t15] h fun t16 h_1 =>
  pExt t16 0 fun t17 =>
  pExt t16 1 fun t18 =>
  pExt t16 2 fun t19 =>
  pNil x1 fun t21 =>
  pField 7 t21 fun t22 =>
  pLoad h_1 t22 fun t23 =>
  pLook (.int .i64) (.int .i64 0) false h_1 t23 t17 fun t25 =>
  pBin .add t25 (.int .i64 1) fun t26 =>
  pMapSet (.int .i64) t23 t17 t26 h_1 fun u h_2 =>
  pNil s0 fun t29 =>
  pField 7 t29 fun t30 =>
  pField 2 t30 fun t31 =>
  pLoad h_2 t31 fun t32 =>
  pNil x1 fun t34 =>
  pField 1 t34 fun t35 =>
  pLoad h_2 t35 fun t36 =>
  pNil x1 fun t39 =>
  pField 5 t39 fun t40 =>
  pLoad h_2 t40 fun t41 =>
  pLook (.int .i64) (.int .i64 0) false h_2 t41 t17 fun t43 =>
  pBuild [(.int .i64 0), (.int .i64 0), (.int .i64 0), (.int .i64 0)] [(0, 1, (.int .i64 0)), (1, 1, t36), (2, 1, t17), (3, 1, t43)] fun t44 =>
  pBuildSlice T_api_Event (zerosL [(.int .i64 0), (.int .i64 0), (.int .i64 0), (.int .i64 0)] 1) [(0, 4, t44)] 1 h_2 fun t45 h_3 =>
  pAppend T_api_Event 4 32 [(.int .i64 0), (.int .i64 0), (.int .i64 0), (.int .i64 0)] t32 t45 h_3 fun t46 h_4 =>
  pNil s0 fun t47 =>
  pField 7 t47 fun t48 =>
  pField 2 t48 fun t49 =>
  pStore 1 t49 t46 h_4 fun u_1 h_5 =>
  pNil x1 fun t51 =>
  pField 3 t51 fun t52 =>
  pLoad h_5 t52 fun t53 =>
  callV P t53 [t17].toArray h_5 fun t55 h_6 =>
  pLen t55 fun t56 =>
  LoopH (σ := Vals [57]) (fun x hh ZZ => sh_both_search_step_L1 P t56 t55 s0 x1 t17 K x.1 hh (fun a0 hz => ZZ (a0, ()) hz)) ((.int .i64 0), ()) h_6

set_option maxRecDepth 100000 in
theorem lk_both_search_step (s0 x1 : Value) {h : Heap} {K : Value → Heap → Prop} (H : sh_both_search_step Tryz.prog s0 x1 h K) : CallsH Tryz.prog F_both_search_step [s0, x1].toArray h K :=
  callsH_of (ann := (annG (Tryz.f38.body.getD .skip) 0 [(4, [57])]).1) (c := Tryz.f38.body.getD .skip) Tryz.func38 (by kernel_rfl) (by kernel_rfl) (by kernel_rfl) (of_decide_eq_true (by kernel_rfl))
    (Eq.mpr (by kernel_rfl) H)

/-! (*milestone/both.search).back -/

def sh_both_search_back (P : Program) (s0 x1 : Value) (h : Heap) (K : Value → Heap → Prop) : Prop :=
  pBox T_p_both_search s0 h fun s2 h_1 =>
  pBox T_p_both_side x1 h_1 fun x3 h_2 =>
  pLoad h_2 s2 fun t5 =>
  pNil t5 fun t6 =>
  pField 10 t6 fun t7 =>
  pLoad h_2 t7 fun t8 =>
  callS P F_both_chain_int [t8, (.func (.func F_both_search_back_1) #[] #[x3, s2])] h_2 fun t10 h_3 =>
  K t10 h_3

set_option maxRecDepth 100000 in
theorem lk_both_search_back (s0 x1 : Value) {h : Heap} {K : Value → Heap → Prop} (H : sh_both_search_back Tryz.prog s0 x1 h K) : CallsH Tryz.prog F_both_search_back [s0, x1].toArray h K :=
  callsH_of (ann := (annG (Tryz.f39.body.getD .skip) 0 []).1) (c := Tryz.f39.body.getD .skip) Tryz.func39 (by kernel_rfl) (by kernel_rfl) (by kernel_rfl) (of_decide_eq_true (by kernel_rfl))
    (Eq.mpr (by kernel_rfl) H)

/-! slices.Reverse[[]int,int] -/

def sh_slices_Reverse_sl_int_int_L1 (P : Program) (s0 : Value) (K : Value → Heap → Prop) (i2 j3 : Value) (h_1 : Heap) (Z : Value → Value → Heap → Prop) : Prop :=
  pBin .lss i2 j3 fun t9 =>
  ifV t9
  (pIdx 1 s0 j3 fun t20 =>
  pLoad h_1 t20 fun t21 =>
  pIdx 1 s0 i2 fun t24 =>
  pLoad h_1 t24 fun t25 =>
  pIdx 1 s0 i2 fun t26 =>
  pStore 1 t26 t21 h_1 fun u h_2 =>
  pIdx 1 s0 j3 fun t27 =>
  pStore 1 t27 t25 h_2 fun u_1 h_3 =>
  pBin .add i2 (.int .i64 1) fun t11 =>
  pBin .sub j3 (.int .i64 1) fun t13 =>
  Z t11 t13 h_3)
  (K (.tuple #[]) h_1)

def sh_slices_Reverse_sl_int_int (P : Program) (s0 : Value) (h : Heap) (K : Value → Heap → Prop) : Prop :=
  pLen s0 fun t5 =>
  pBin .sub t5 (.int .i64 1) fun t6 =>
  LoopH (σ := Vals [2, 3]) (fun x hh ZZ => sh_slices_Reverse_sl_int_int_L1 P s0 K x.1 x.2.1 hh (fun a0 a1 hz => ZZ (a0, (a1, ())) hz)) ((.int .i64 0), (t6, ())) h

set_option maxRecDepth 100000 in
theorem lk_slices_Reverse_sl_int_int (s0 : Value) {h : Heap} {K : Value → Heap → Prop} (H : sh_slices_Reverse_sl_int_int Tryz.prog s0 h K) : CallsH Tryz.prog F_slices_Reverse_sl_int_int [s0].toArray h K :=
  callsH_of (ann := (annG (Tryz.f40.body.getD .skip) 0 [(1, [2, 3])]).1) (c := Tryz.f40.body.getD .skip) Tryz.func40 (by kernel_rfl) (by kernel_rfl) (by kernel_rfl) (of_decide_eq_true (by kernel_rfl))
    (Eq.mpr (by kernel_rfl) H)

/-! milestone/milestonelaw14.row -/

def sh_milestonelaw14_row (P : Program) (h : Heap) (K : Value → Heap → Prop) : Prop :=
  pBox T_api_Raw (.agg #[(.int .i64 0), (.slice none 0 0), (.slice none 0 0), (.slice none 0 0)]) h fun t0 h_1 =>
  pBuildSlice T_int64 (zerosL [(.int .i64 0)] 4) [(0, 1, (.int .i64 0)), (1, 1, (.int .i64 0)), (2, 1, (.int .i64 0)), (3, 1, (.int .i64 0))] 4 h_1 fun t2 h_2 =>
  pBuild [(.int .i64 0), (.int .i64 0), (.int .i64 0)] [(0, 1, (.int .i64 0)), (1, 1, (.int .i64 1)), (2, 1, (.int .i64 2))] fun t5 =>
  pBuild [(.int .i64 0), (.int .i64 0), (.int .i64 0)] [(0, 1, (.int .i64 1)), (1, 1, (.int .i64 2)), (2, 1, (.int .i64 3))] fun t6 =>
  pBuild [(.int .i64 0), (.int .i64 0), (.int .i64 0)] [(0, 1, (.int .i64 2)), (1, 1, (.int .i64 3)), (2, 1, (.int .i64 2))] fun t7 =>
  pBuild [(.int .i64 0), (.int .i64 0), (.int .i64 0)] [(0, 1, (.int .i64 0)), (1, 1, (.int .i64 3)), (2, 1, (.int .i64 9))] fun t8 =>
  pBuildSlice T_api_Arc (zerosL [(.int .i64 0), (.int .i64 0), (.int .i64 0)] 4) [(0, 3, t5), (3, 3, t6), (6, 3, t7), (9, 3, t8)] 4 h_2 fun t9 h_3 =>
  pBuild [(.int .i64 0), (.slice none 0 0), (.slice none 0 0), (.slice none 0 0)] [(0, 1, (.int .i64 4)), (1, 1, t2), (2, 1, t2), (3, 1, t9)] fun t10 =>
  pStore 4 t0 t10 h_3 fun u h_4 =>
  pLoadN 4 h_4 t0 fun res =>
  K res h_4

set_option maxRecDepth 100000 in
theorem lk_milestonelaw14_row {h : Heap} {K : Value → Heap → Prop} (H : sh_milestonelaw14_row Tryz.prog h K) : CallsH Tryz.prog F_milestonelaw14_row [].toArray h K :=
  callsH_of (ann := (annG (Tryz.f41.body.getD .skip) 0 []).1) (c := Tryz.f41.body.getD .skip) Tryz.func41 (by kernel_rfl) (by kernel_rfl) (by kernel_rfl) (of_decide_eq_true (by kernel_rfl))
    (Eq.mpr (by kernel_rfl) H)

/-! milestone/milestonelaw14.finds -/

def sh_milestonelaw14_finds_k2 (P : Program) (K : Value → Heap → Prop) (h_15 : Heap) : Prop :=
  K (.bool false) h_15

def sh_milestonelaw14_finds_L3 (P : Program) (arcs3 f9_3 : Value) (K : Value → Heap → Prop) (i11 : Value) (h_16 : Heap) (Z : Value → Heap → Prop) : Prop :=
  pLen arcs3 fun t37 =>
  pBin .lss i11 t37 fun t38 =>
  ifV t38
  (pField 1 f9_3 fun t41 =>
  pLoad h_16 t41 fun t42 =>
  pIdx 1 t42 i11 fun t44 =>
  pLoad h_16 t44 fun t45 =>
  pIdx 1 arcs3 i11 fun t48 =>
  pLoad h_16 t48 fun t49 =>
  pBin .neq t45 t49 fun t50 =>
  ifV t50
  (K (.bool false) h_16)
  (pBin .add i11 (.int .i64 1) fun t40 =>
  Z t40 h_16))
  (K (.bool true) h_16)

def sh_milestonelaw14_finds_C1 (P : Program) (K : Value → Heap → Prop) (far2 arcs3 f9_3 e10 : Value) (h_14 : Heap) : Prop :=
  pBin .neq e10 (.int .i64 0) fun t20 =>
  ifV t20
  (sh_milestonelaw14_finds_k2 P K h_14)
  (pField 0 f9_3 fun t22 =>
  pLoad h_14 t22 fun t23 =>
  pBin .neq t23 far2 fun t25 =>
  ifV t25
  (sh_milestonelaw14_finds_k2 P K h_14)
  (pField 1 f9_3 fun t28 =>
  pLoad h_14 t28 fun t29 =>
  pLen t29 fun t30 =>
  pLen arcs3 fun t32 =>
  pBin .neq t30 t32 fun t33 =>
  ifV t33
  (sh_milestonelaw14_finds_k2 P K h_14)
  (LoopH (σ := Vals [11]) (fun x hh ZZ => sh_milestonelaw14_finds_L3 P arcs3 f9_3 K x.1 hh (fun a0 hz => ZZ (a0, ()) hz)) ((.int .i64 0), ()) h_14)))

def sh_milestonelaw14_finds (P : Program) (g0 ask1 far2 arcs3 : Value) (h : Heap) (K : Value → Heap → Prop) : Prop :=
  pBox T_api_Raw g0 h fun g4 h_1 =>
  pBox T_api_Ask ask1 h_1 fun ask5 h_2 =>
  cutP (σ := Vals [9, 10]) (fun J =>
  pLoadN 4 h_2 g4 fun t13 =>
  pLoadN 4 h_2 ask5 fun t15 =>
  (callS P F_milestonelaw14_made [t13] h_2 fun t14 h_3 =>
  (pLoadN 4 h_3 ask5 fun t15_1 =>
  t15_1 = t15) ∧
  ((callS P F_both_Run [t14, t15] h_3 fun t16 h_4 =>
  pExt t16 0 fun t17 =>
  pExt t16 1 fun t18 =>
  pBox T_api_Found (.agg #[(.int .i64 0), (.slice none 0 0), (.slice none 0 0)]) h_4 fun f9 h_5 =>
  pStore 3 f9 t17 h_5 fun u h_6 =>
  J (f9, (t18, ())) h_6) ∧
  (pBox T_api_Found (.agg #[(.int .i64 0), (.slice none 0 0), (.slice none 0 0)]) h_3 fun f9_1 h_7 =>
  callS P F_both_Run [t14, t15] h_7 fun t16_1 h_8 =>
  pExt t16_1 0 fun t17_1 =>
  pExt t16_1 1 fun t18_1 =>
  pStore 3 f9_1 t17_1 h_8 fun u_1 h_9 =>
  J (f9_1, (t18_1, ())) h_9))) ∧
  (pBox T_api_Found (.agg #[(.int .i64 0), (.slice none 0 0), (.slice none 0 0)]) h_2 fun f9_2 h_10 =>
  callS P F_milestonelaw14_made [t13] h_10 fun t14_1 h_11 =>
  (pLoadN 4 h_11 ask5 fun t15_2 =>
  t15_2 = t15) ∧
  (callS P F_both_Run [t14_1, t15] h_11 fun t16_2 h_12 =>
  pExt t16_2 0 fun t17_2 =>
  pExt t16_2 1 fun t18_2 =>
  pStore 3 f9_2 t17_2 h_12 fun u_2 h_13 =>
  J (f9_2, (t18_2, ())) h_13)))
  (fun x hh => sh_milestonelaw14_finds_C1 P K far2 arcs3 x.1 x.2.1 hh)

set_option maxRecDepth 100000 in
theorem lk_milestonelaw14_finds (g0 ask1 far2 arcs3 : Value) {h : Heap} {K : Value → Heap → Prop} (H : sh_milestonelaw14_finds Tryz.prog g0 ask1 far2 arcs3 h K) : CallsH Tryz.prog F_milestonelaw14_finds [g0, ask1, far2, arcs3].toArray h K :=
  callsH_of (ann := (annG (Tryz.f42.body.getD .skip) 0 [(1, [9, 10]), (7, [11])]).1) (c := Tryz.f42.body.getD .skip) Tryz.func42 (by kernel_rfl) (by kernel_rfl) (by kernel_rfl) (of_decide_eq_true (by kernel_rfl))
    (Eq.mpr (by kernel_rfl) H)

/-! milestone/graph.copied -/

def sh_graph_copied (P : Program) (r0 : Value) (h : Heap) (K : Value → Heap → Prop) : Prop :=
  pBox T_api_Raw r0 h fun r1 h_1 =>
  pBox T_api_Raw (.agg #[(.int .i64 0), (.slice none 0 0), (.slice none 0 0), (.slice none 0 0)]) h_1 fun t2 h_2 =>
  pField 1 r1 fun t3 =>
  pLoad h_2 t3 fun t4 =>
  pField 2 r1 fun t6 =>
  pLoad h_2 t6 fun t7 =>
  pField 3 r1 fun t9 =>
  pLoad h_2 t9 fun t10 =>
  callS P F_slices_Clone_sl_int64_int64 [t4] h_2 fun t5 h_3 =>
  (pLoad h_3 t6 fun t7_1 =>
  t7_1 = t7) ∧
  (pLoad h_3 t9 fun t10_1 =>
  t10_1 = t10) ∧
  (pField 1 r1 fun t12 =>
  callS P F_slices_Clone_sl_int64_int64 [t7] h_3 fun t8 h_4 =>
  (pLoad h_4 t9 fun t10_2 =>
  t10_2 = t10) ∧
  (callS P F_slices_Clone_sl_api_Arc_api_Arc [t10] h_4 fun t11 h_5 =>
  pStore 1 t12 t5 h_5 fun u h_6 =>
  pField 2 r1 fun t13 =>
  pStore 1 t13 t8 h_6 fun u_1 h_7 =>
  pField 3 r1 fun t14 =>
  pStore 1 t14 t11 h_7 fun u_2 h_8 =>
  pLoadN 4 h_8 r1 fun t15 =>
  pStore 4 t2 t15 h_8 fun u_3 h_9 =>
  pLoadN 4 h_9 t2 fun res =>
  K res h_9))

set_option maxRecDepth 100000 in
theorem lk_graph_copied (r0 : Value) {h : Heap} {K : Value → Heap → Prop} (H : sh_graph_copied Tryz.prog r0 h K) : CallsH Tryz.prog F_graph_copied [r0].toArray h K :=
  callsH_of (ann := (annG (Tryz.f43.body.getD .skip) 0 []).1) (c := Tryz.f43.body.getD .skip) Tryz.func43 (by kernel_rfl) (by kernel_rfl) (by kernel_rfl) (of_decide_eq_true (by kernel_rfl))
    (Eq.mpr (by kernel_rfl) H)

/-! milestone/milestoneref14.In -/

def sh_milestoneref14_In_C1 (P : Program) (K : Value → Heap → Prop) (t6 : Value) (h_7 : Heap) : Prop :=
  K t6 h_7

def sh_milestoneref14_In (P : Program) (g0 ask1 a2 : Value) (h : Heap) (K : Value → Heap → Prop) : Prop :=
  pBox T_api_Raw g0 h fun g3 h_1 =>
  pBox T_api_Ask ask1 h_1 fun ask4 h_2 =>
  cutP (σ := Vals [6]) (fun J =>
  pField 2 ask4 fun t7 =>
  pLoad h_2 t7 fun t8 =>
  pLen t8 fun t9 =>
  pBin .eql t9 (.int .i64 0) fun t10 =>
  ifV t10
  (pLoadN 4 h_2 ask4 fun t19 =>
  pField 3 g3 fun t20 =>
  pLoad h_2 t20 fun t21 =>
  pIdx 3 t21 a2 fun t23 =>
  pField 0 t23 fun t24 =>
  pLoad h_2 t24 fun t25 =>
  callS P F_milestoneref14_Open [t19, t25] h_2 fun t26 h_3 =>
  ifV t26
  (pLoadN 4 h_3 ask4 fun t29 =>
  pField 3 g3 fun t30 =>
  pLoad h_3 t30 fun t31 =>
  pIdx 3 t31 a2 fun t33 =>
  pField 1 t33 fun t34 =>
  pLoad h_3 t34 fun t35 =>
  callS P F_milestoneref14_Open [t29, t35] h_3 fun t36 h_4 =>
  J (t36, ()) h_4)
  (J ((.bool false), ()) h_3))
  (pField 2 ask4 fun t12 =>
  pLoad h_2 t12 fun t13 =>
  pIdx 1 t13 a2 fun t15 =>
  pLoad h_2 t15 fun t16 =>
  ifV t16
  (pLoadN 4 h_2 ask4 fun t19_1 =>
  pField 3 g3 fun t20_1 =>
  pLoad h_2 t20_1 fun t21_1 =>
  pIdx 3 t21_1 a2 fun t23_1 =>
  pField 0 t23_1 fun t24_1 =>
  pLoad h_2 t24_1 fun t25_1 =>
  callS P F_milestoneref14_Open [t19_1, t25_1] h_2 fun t26_1 h_5 =>
  ifV t26_1
  (pLoadN 4 h_5 ask4 fun t29_1 =>
  pField 3 g3 fun t30_1 =>
  pLoad h_5 t30_1 fun t31_1 =>
  pIdx 3 t31_1 a2 fun t33_1 =>
  pField 1 t33_1 fun t34_1 =>
  pLoad h_5 t34_1 fun t35_1 =>
  callS P F_milestoneref14_Open [t29_1, t35_1] h_5 fun t36_1 h_6 =>
  J (t36_1, ()) h_6)
  (J ((.bool false), ()) h_5))
  (J ((.bool false), ()) h_2)))
  (fun x hh => sh_milestoneref14_In_C1 P K x.1 hh)

set_option maxRecDepth 100000 in
theorem lk_milestoneref14_In (g0 ask1 a2 : Value) {h : Heap} {K : Value → Heap → Prop} (H : sh_milestoneref14_In Tryz.prog g0 ask1 a2 h K) : CallsH Tryz.prog F_milestoneref14_In [g0, ask1, a2].toArray h K :=
  callsH_of (ann := (annG (Tryz.f44.body.getD .skip) 0 [(1, [6])]).1) (c := Tryz.f44.body.getD .skip) Tryz.func44 (by kernel_rfl) (by kernel_rfl) (by kernel_rfl) (of_decide_eq_true (by kernel_rfl))
    (Eq.mpr (by kernel_rfl) H)

/-! milestone/milestoneref14.pi -/

def sh_milestoneref14_pi (P : Program) (ask0 v1 : Value) (h : Heap) (K : Value → Heap → Prop) : Prop :=
  pBox T_api_Ask ask0 h fun ask2 h_1 =>
  pField 3 ask2 fun t5 =>
  pLoad h_1 t5 fun t6 =>
  pLen t6 fun t7 =>
  pBin .eql t7 (.int .i64 0) fun t8 =>
  ifV t8
  (K (.int .i64 0) h_1)
  (pField 3 ask2 fun t9 =>
  pLoad h_1 t9 fun t10 =>
  pIdx 1 t10 v1 fun t12 =>
  pLoad h_1 t12 fun t13 =>
  K t13 h_1)

set_option maxRecDepth 100000 in
theorem lk_milestoneref14_pi (ask0 v1 : Value) {h : Heap} {K : Value → Heap → Prop} (H : sh_milestoneref14_pi Tryz.prog ask0 v1 h K) : CallsH Tryz.prog F_milestoneref14_pi [ask0, v1].toArray h K :=
  callsH_of (ann := (annG (Tryz.f45.body.getD .skip) 0 []).1) (c := Tryz.f45.body.getD .skip) Tryz.func45 (by kernel_rfl) (by kernel_rfl) (by kernel_rfl) (of_decide_eq_true (by kernel_rfl))
    (Eq.mpr (by kernel_rfl) H)

/-! milestone/trace.of -/

def sh_trace_of (P : Program) (l0 kind1 side2 : Value) (h : Heap) (K : Value → Heap → Prop) : Prop :=
  pBox T_sl_api_Event l0 h fun l3 h_1 =>
  pBox T_int kind1 h_1 fun kind4 h_2 =>
  pBox T_int side2 h_2 fun side5 h_3 =>
  K (.func (.func F_trace_of_1) #[] #[l3, kind4, side5]) h_3

set_option maxRecDepth 100000 in
theorem lk_trace_of (l0 kind1 side2 : Value) {h : Heap} {K : Value → Heap → Prop} (H : sh_trace_of Tryz.prog l0 kind1 side2 h K) : CallsH Tryz.prog F_trace_of [l0, kind1, side2].toArray h K :=
  callsH_of (ann := (annG (Tryz.f46.body.getD .skip) 0 []).1) (c := Tryz.f46.body.getD .skip) Tryz.func46 (by kernel_rfl) (by kernel_rfl) (by kernel_rfl) (of_decide_eq_true (by kernel_rfl))
    (Eq.mpr (by kernel_rfl) H)

/-! milestone/walk.node -/

def sh_walk_node (P : Program) (n0 v1 : Value) (h : Heap) (K : Value → Heap → Prop) : Prop :=
  pBin .geq v1 (.int .i64 0) fun t6 =>
  ifV t6
  (callS P F_net_Net_Nodes [n0] h fun t10 h_1 =>
  pBin .lss v1 t10 fun t11 =>
  K t11 h_1)
  (K (.bool false) h)

set_option maxRecDepth 100000 in
theorem lk_walk_node (n0 v1 : Value) {h : Heap} {K : Value → Heap → Prop} (H : sh_walk_node Tryz.prog n0 v1 h K) : CallsH Tryz.prog F_walk_node [n0, v1].toArray h K :=
  callsH_of (ann := (annG (Tryz.f47.body.getD .skip) 0 []).1) (c := Tryz.f47.body.getD .skip) Tryz.func47 (by kernel_rfl) (by kernel_rfl) (by kernel_rfl) (of_decide_eq_true (by kernel_rfl))
    (Eq.mpr (by kernel_rfl) H)

/-! milestone/walk.steps -/

def sh_walk_steps (P : Program) (n0 s1 arcs2 : Value) (h : Heap) (K : Value → Heap → Prop) : Prop :=
  pBox T_p_net_Net n0 h fun n3 h_1 =>
  pBox T_int s1 h_1 fun s4 h_2 =>
  pBox T_sl_int arcs2 h_2 fun arcs5 h_3 =>
  K (.func (.func F_walk_steps_1) #[] #[arcs5, n3, s4]) h_3

set_option maxRecDepth 100000 in
theorem lk_walk_steps (n0 s1 arcs2 : Value) {h : Heap} {K : Value → Heap → Prop} (H : sh_walk_steps Tryz.prog n0 s1 arcs2 h K) : CallsH Tryz.prog F_walk_steps [n0, s1, arcs2].toArray h K :=
  callsH_of (ann := (annG (Tryz.f48.body.getD .skip) 0 []).1) (c := Tryz.f48.body.getD .skip) Tryz.func48 (by kernel_rfl) (by kernel_rfl) (by kernel_rfl) (of_decide_eq_true (by kernel_rfl))
    (Eq.mpr (by kernel_rfl) H)

/-! milestone/trace.may -/

def sh_trace_may (P : Program) (n0 : Value) (h : Heap) (K : Value → Heap → Prop) : Prop :=
  pBox T_p_net_Net n0 h fun n1 h_1 =>
  K (.func (.func F_trace_may_1) #[] #[n1]) h_1

set_option maxRecDepth 100000 in
theorem lk_trace_may (n0 : Value) {h : Heap} {K : Value → Heap → Prop} (H : sh_trace_may Tryz.prog n0 h K) : CallsH Tryz.prog F_trace_may [n0].toArray h K :=
  callsH_of (ann := (annG (Tryz.f49.body.getD .skip) 0 []).1) (c := Tryz.f49.body.getD .skip) Tryz.func49 (by kernel_rfl) (by kernel_rfl) (by kernel_rfl) (of_decide_eq_true (by kernel_rfl))
    (Eq.mpr (by kernel_rfl) H)

/-! slices.ContainsFunc[[]milestone/api.Event,milestone/api.Event] -/

def sh_slices_ContainsFunc_sl_api_Event_api_Event (P : Program) (s0 f1 : Value) (h : Heap) (K : Value → Heap → Prop) : Prop :=
  callS P F_slices_IndexFunc_sl_api_Event_api_Event [s0, f1] h fun t7 h_1 =>
  pBin .geq t7 (.int .i64 0) fun t8 =>
  K t8 h_1

set_option maxRecDepth 100000 in
theorem lk_slices_ContainsFunc_sl_api_Event_api_Event (s0 f1 : Value) {h : Heap} {K : Value → Heap → Prop} (H : sh_slices_ContainsFunc_sl_api_Event_api_Event Tryz.prog s0 f1 h K) : CallsH Tryz.prog F_slices_ContainsFunc_sl_api_Event_api_Event [s0, f1].toArray h K :=
  callsH_of (ann := (annG (Tryz.f50.body.getD .skip) 0 []).1) (c := Tryz.f50.body.getD .skip) Tryz.func50 (by kernel_rfl) (by kernel_rfl) (by kernel_rfl) (of_decide_eq_true (by kernel_rfl))
    (Eq.mpr (by kernel_rfl) H)

/-! milestone/trace.Once$1 -/

def sh_trace_Once_1 (P : Program) (e0 t1 t2 : Value) (h : Heap) (K : Value → Heap → Prop) : Prop :=
  pBox T_api_Event e0 h fun e3 h_1 =>
  pField 0 e3 fun t6 =>
  pLoad h_1 t6 fun t7 =>
  pField 1 e3 fun t8 =>
  pLoad h_1 t8 fun t9 =>
  pField 2 e3 fun t10 =>
  pLoad h_1 t10 fun t11 =>
  pBuild [(.int .i64 0), (.int .i64 0), (.int .i64 0)] [(0, 1, t7), (1, 1, t9), (2, 1, t11)] fun t12 =>
  pBox T_3_int (.agg #[(.int .i64 0), (.int .i64 0), (.int .i64 0)]) h_1 fun at5 h_2 =>
  pStore 3 at5 t12 h_2 fun u h_3 =>
  pLoad h_3 t1 fun t13 =>
  pLoadN 3 h_3 at5 fun t14 =>
  pLook (.array 3 T_int) (.int .i64 0) false h_3 t13 t14 fun t15 =>
  pBin .add t15 (.int .i64 1) fun t16 =>
  pMapEntry (.array 3 T_int) (.int .i64 0) t13 t14 h_3 fun t17 h_4 =>
  (pLook (.array 3 T_int) (.int .i64 0) false h_4 t13 t14 fun t15_1 =>
  t15_1 = t15) ∧
  (pExt t17 1 fun t18 =>
  pEntryStore t13 t18 t16 h_4 fun u_1 h_5 =>
  pLoad h_5 t2 fun t19 =>
  pLoadN 4 h_5 e3 fun t20 =>
  callV P t19 [t20].toArray h_5 fun t21 h_6 =>
  pUn .not t21 fun t22 =>
  ifV t22
  (K (.bool true) h_6)
  (pLoad h_6 t1 fun t24 =>
  pLoadN 3 h_6 at5 fun t25 =>
  pLook (.array 3 T_int) (.int .i64 0) false h_6 t24 t25 fun t26 =>
  pBin .gtr t26 (.int .i64 1) fun t27 =>
  K t27 h_6))

set_option maxRecDepth 100000 in
theorem lk_trace_Once_1 (e0 t1 t2 : Value) {h : Heap} {K : Value → Heap → Prop} (H : sh_trace_Once_1 Tryz.prog e0 t1 t2 h K) : CallsH Tryz.prog F_trace_Once_1 [e0, t1, t2].toArray h K :=
  callsH_of (ann := (annG (Tryz.f51.body.getD .skip) 0 []).1) (c := Tryz.f51.body.getD .skip) Tryz.func51 (by kernel_rfl) (by kernel_rfl) (by kernel_rfl) (of_decide_eq_true (by kernel_rfl))
    (Eq.mpr (by kernel_rfl) H)

/-! milestone/trace.Heads$1 -/

def sh_trace_Heads_1 (P : Program) (e0 t1 t2 t3 : Value) (h : Heap) (K : Value → Heap → Prop) : Prop :=
  pBox T_api_Event e0 h fun e4 h_1 =>
  pLoad h_1 t1 fun t7 =>
  pLoadN 4 h_1 e4 fun t8 =>
  callV P t7 [t8].toArray h_1 fun t9 h_2 =>
  pUn .not t9 fun t10 =>
  ifV t10
  (K (.bool true) h_2)
  (pField 0 e4 fun t12 =>
  pLoad h_2 t12 fun t13 =>
  pBin .eql t13 (.int .i64 0) fun t14 =>
  ifV t14
  (pField 1 e4 fun t15 =>
  pLoad h_2 t15 fun t16 =>
  pField 2 e4 fun t17 =>
  pLoad h_2 t17 fun t18 =>
  pIdxA 1 2 t2 t16 fun t19 =>
  pStore 1 t19 t18 h_2 fun u h_3 =>
  K (.bool false) h_3)
  (pField 1 e4 fun t20 =>
  pLoad h_2 t20 fun t21 =>
  pIdxA 1 2 t2 t21 fun t22 =>
  pLoad h_2 t22 fun t23 =>
  pLoad h_2 t3 fun t24 =>
  pField 2 e4 fun t25 =>
  pLoad h_2 t25 fun t26 =>
  pField 1 e4 fun t27 =>
  pLoad h_2 t27 fun t28 =>
  callS P F_trace_tail [t24, t26, t28] h_2 fun t29 h_4 =>
  (pLoad h_4 t20 fun t21_1 =>
  t21_1 = t21) ∧
  (pLoad h_4 t22 fun t23_1 =>
  t23_1 = t23) ∧
  (pBin .neq t23 t29 fun t30 =>
  K t30 h_4)))

set_option maxRecDepth 100000 in
theorem lk_trace_Heads_1 (e0 t1 t2 t3 : Value) {h : Heap} {K : Value → Heap → Prop} (H : sh_trace_Heads_1 Tryz.prog e0 t1 t2 t3 h K) : CallsH Tryz.prog F_trace_Heads_1 [e0, t1, t2, t3].toArray h K :=
  callsH_of (ann := (annG (Tryz.f52.body.getD .skip) 0 []).1) (c := Tryz.f52.body.getD .skip) Tryz.func52 (by kernel_rfl) (by kernel_rfl) (by kernel_rfl) (of_decide_eq_true (by kernel_rfl))
    (Eq.mpr (by kernel_rfl) H)

end Go.Proofs.YtkeoponidgpfpaaGreatDoor
