/- Texts of the proofs of seat YtoopkllfpmjnfaaGreatDoor, joined: Ids, Gen1, Gen2, Gen3, Gen4, Gen5. They have no conditions of their own. -/
import Derived.Test.YtoopkllfpmjnfaaGreatDoorMc
import Derived.Test.YtoopkllfpmjnfaaGreatDoorChecked
import Derived.KernelRfl
set_option linter.unusedVariables false
set_option linter.unusedSimpArgs false

namespace Go.Proofs.YtoopkllfpmjnfaaGreatDoor
abbrev F_gosem_cut_init : Nat := 2
abbrev F_milestonelaw16_AvoidTells : Nat := 3
abbrev F_milestonelaw16_AvoidBounds : Nat := 4
abbrev F_milestonelaw16_AvoidGains : Nat := 5
abbrev F_milestonelaw16_AvoidKnown : Nat := 6
abbrev F_milestonelaw16_drawn : Nat := 7
abbrev F_milestonelaw16_made : Nat := 8
abbrev F_milestoneref07_Ints : Nat := 9
abbrev F_avoid_Marks : Nat := 10
abbrev F_draw_New : Nat := 11
abbrev F_milestoneref16_Marks : Nat := 12
abbrev F_avoid_Sizes : Nat := 13
abbrev F_milestoneref16_Sizes : Nat := 14
abbrev F_avoid_Bound : Nat := 15
abbrev F_milestoneref16_Bound : Nat := 16
abbrev F_milestonelaw16_works : Nat := 17
abbrev F_flood_From : Nat := 18
abbrev F_draw_Draws_Next : Nat := 19
abbrev F_milestonelaw16_rows : Nat := 20
abbrev F_milestoneref07_Draft_Raw : Nat := 21
abbrev F_net_New : Nat := 22
abbrev F_net_Net_Nodes : Nat := 23
abbrev F_avoid_next : Nat := 24
abbrev F_avoid_marks : Nat := 25
abbrev F_milestoneref05_Draws_Next : Nat := 26
abbrev F_milestoneref16_next : Nat := 27
abbrev F_avoid_there : Nat := 28
abbrev F_avoid_grow : Nat := 29
abbrev F_milestoneref16_there : Nat := 30
abbrev F_milestoneref10_From : Nat := 31
abbrev F_milestoneref16_Part : Nat := 32
abbrev F_milestoneref16_in : Nat := 33
abbrev F_milestoneref04_Sat : Nat := 34
abbrev F_avoid_bound : Nat := 35
abbrev F_milestoneref10_To : Nat := 36
abbrev F_milestoneref04_Low : Nat := 37
abbrev F_milestoneref04_Lift : Nat := 38
abbrev F_flood_flood : Nat := 39
abbrev F_net_Net_Out : Nat := 40
abbrev F_flood_From_1 : Nat := 41
abbrev F_draw_Draws_Left : Nat := 42
abbrev F_draw_first_uint32 : Nat := 43
abbrev F_milestoneref07_Draft_Next : Nat := 44
abbrev F_milestoneref07_Draft_Weight : Nat := 45
abbrev F_graph_Check : Nat := 46
abbrev F_api_Told : Nat := 47
abbrev F_net_of : Nat := 48
abbrev F_net_own : Nat := 49
abbrev F_avoid_best_int64 : Nat := 50
abbrev F_slices_Values_sl_int_int : Nat := 51
abbrev F_avoid_tree_size : Nat := 52
abbrev F_slices_ContainsFunc_sl_avoid_mark_avoid_mark : Nat := 53
abbrev F_avoid_next_1 : Nat := 54
abbrev F_flood_To : Nat := 55
abbrev F_avoid_behind : Nat := 56
abbrev F_dist_Sat : Nat := 57
abbrev F_net_Net_Arc : Nat := 58
abbrev F_milestoneref08_New : Nat := 59
abbrev F_milestoneref08_Heap_Push : Nat := 60
abbrev F_milestoneref08_Heap_Pop : Nat := 61
abbrev F_milestoneref07_Out : Nat := 62
abbrev F_milestoneref08_Heap_Key : Nat := 63
abbrev F_milestoneref08_Heap_Lower : Nat := 64
abbrev F_milestoneref04_within : Nat := 65
abbrev F_dist_Low : Nat := 66
abbrev F_dist_Lift : Nat := 67
abbrev F_milestoneref07_Turned : Nat := 68
abbrev F_heap_New : Nat := 69
abbrev F_slices_Repeat_sl_int64_int64 : Nat := 70
abbrev F_slices_Repeat_sl_int_int : Nat := 71
abbrev F_heap_Heap_Push : Nat := 72
abbrev F_heap_Heap_Pop : Nat := 73
abbrev F_flood_arcs : Nat := 74
abbrev F_flood_run_reach : Nat := 75
abbrev F_net_one_sl_int : Nat := 76
abbrev F_slices_Clone_sl_int_int : Nat := 77
abbrev F_graph_Check_1 : Nat := 78
abbrev F_graph_look : Nat := 79
abbrev F_errors_As : Nat := 80
abbrev F_net_of_1 : Nat := 81
abbrev F_net_of_2 : Nat := 82
abbrev F_net_of_3 : Nat := 83
abbrev F_slices_Clone_sl_int64_int64 : Nat := 84
abbrev F_slices_Clone_sl_api_Arc_api_Arc : Nat := 85
abbrev F_slices_Values_sl_int_int_1 : Nat := 86
abbrev F_slices_IndexFunc_sl_avoid_mark_avoid_mark : Nat := 87
abbrev F_net_Net_In : Nat := 88
abbrev F_flood_To_1 : Nat := 89
abbrev F_avoid_behind_1 : Nat := 90
abbrev F_slices_Backward_sl_int_int : Nat := 91
abbrev F_dist_folded : Nat := 92
abbrev F_dist_between_int64 : Nat := 93
abbrev F_net_one_api_Arc : Nat := 94
abbrev F_milestoneref08_Heap_at : Nat := 95
abbrev F_milestoneref08_Heap_least : Nat := 96
abbrev F_dist_way : Nat := 97
abbrev F_dist_Finite : Nat := 98
abbrev F_milestoneref07_Copy : Nat := 99
abbrev F_math_bits_Mul : Nat := 100
abbrev F_heap_row_up : Nat := 101
abbrev F_heap_Heap_Len : Nat := 102
abbrev F_heap_row_swap : Nat := 103
abbrev F_heap_row_down : Nat := 104
abbrev F_flood_arcs_1 : Nat := 105
abbrev F_heap_Heap_Key : Nat := 106
abbrev F_heap_Heap_Lower : Nat := 107
abbrev F_graph_look_1 : Nat := 108
abbrev F_graph_one : Nat := 109
abbrev F_graph_look_2 : Nat := 110
abbrev F_graph_shapes : Nat := 111
abbrev F_graph_look_3 : Nat := 112
abbrev F_graph_nodes : Nat := 113
abbrev F_graph_look_4 : Nat := 114
abbrev F_graph_look_5 : Nat := 115
abbrev F_graph_arcs : Nat := 116
abbrev F_errors_as : Nat := 120
abbrev F_slices_Backward_sl_int_int_1 : Nat := 121
abbrev F_dist_between_int64_1 : Nat := 122
abbrev F_math_bits_Mul32 : Nat := 123
abbrev F_math_bits_Mul64 : Nat := 124
abbrev F_heap_row_ahead : Nat := 125
abbrev F_heap_row_below : Nat := 126
abbrev F_slices_Values_sl_graph_place_graph_place : Nat := 127
abbrev F_graph_nodes_1 : Nat := 128
abbrev F_graph_arcs_1 : Nat := 129
abbrev F_cmp_Or_int : Nat := 133
abbrev F_cmp_Compare_int64 : Nat := 134
abbrev F_cmp_Compare_int : Nat := 135
abbrev F_heap_row_below_1 : Nat := 136
abbrev F_slices_Values_sl_graph_place_graph_place_1 : Nat := 137
abbrev F_cmp_isNaN_int64 : Nat := 138
abbrev F_cmp_isNaN_int : Nat := 139
abbrev F_api_Fault_Unwrap : Nat := 161
abbrev F_net_trouble_Unwrap : Nat := 162
abbrev F_graph_trouble_Unwrap : Nat := 163
abbrev F_gosem_cut_vars : Nat := 182
abbrev T_ : Nat := 0
abbrev T_func : Nat := 1
abbrev T_int64 : Nat := 2
abbrev T_int : Nat := 3
abbrev T_bool : Nat := 4
abbrev T_uint8 : Nat := 5
abbrev T_abi_BoundsErrorCode : Nat := 6
abbrev T_struct_x_int64_y_int_signed_bool_code_abi_BoundsErrorCode : Nat := 7
abbrev T_runtime_boundsError : Nat := 8
abbrev T_string : Nat := 9
abbrev T_runtime_errorString : Nat := 10
abbrev T_runtime_plainError : Nat := 11
abbrev T_uintptr : Nat := 12
abbrev T_struct_msg_string_addr_uintptr : Nat := 13
abbrev T_runtime_errorAddressString : Nat := 14
abbrev T_p_runtime_TypeAssertionError : Nat := 15
abbrev T_p_runtime_PanicNilError : Nat := 16
abbrev T_p_abi_Type : Nat := 17
abbrev T_struct_typ_p_abi_Type : Nat := 18
abbrev T_maps_unhashableTypeError : Nat := 19
abbrev T_interface : Nat := 20
abbrev T_int32 : Nat := 21
abbrev T_sl_uint8 : Nat := 22
abbrev T_sl_uint32 : Nat := 23
abbrev T_sl_int8 : Nat := 24
abbrev T_sl_int64 : Nat := 25
abbrev T_sl_api_Arc : Nat := 26
abbrev T_struct_Nodes_int_X_sl_int64_Y_sl_int64_Arcs_sl_api_Arc : Nat := 27
abbrev T_api_Raw : Nat := 28
abbrev T_func_sl_uint8_api_Raw : Nat := 29
abbrev T_p_net_Net : Nat := 30
abbrev T_func_api_Raw_p_net_Net : Nat := 31
abbrev T_sl_int : Nat := 32
abbrev T_int8 : Nat := 33
abbrev T_func_sl_int_sl_int_bool : Nat := 34
abbrev T_funcnet_Net_int_p_draw_Draws_sl_int : Nat := 35
abbrev T_p_draw_Draws : Nat := 36
abbrev T_func_uint32_p_draw_Draws : Nat := 37
abbrev T_func_api_Raw_int_sl_uint32_sl_int : Nat := 38
abbrev T_uint32 : Nat := 39
abbrev T_funcnet_Net_sl_int_int_sl_int64 : Nat := 40
abbrev T_func_api_Raw_sl_int_int_sl_int64 : Nat := 41
abbrev T_funcnet_Net_sl_int_int_int_int64 : Nat := 42
abbrev T_func_api_Raw_sl_int_int_int_int64 : Nat := 43
abbrev T_func_bool : Nat := 44
abbrev T_func_sl_uint8_sl_uint32_sl_int8_bool : Nat := 45
abbrev T_struct_Dist_sl_int64_Arc_sl_int_Order_sl_int : Nat := 46
abbrev T_flood_Tree : Nat := 47
abbrev T_funcnet_Net_int_flood_Tree : Nat := 48
abbrev T_func_sl_uint8_sl_uint8_uint8_bool : Nat := 49
abbrev T_func_int_int : Nat := 50
abbrev T_func_sl_int_int_bool : Nat := 51
abbrev T_func_sl_uint8_sl_uint32_uint8_bool : Nat := 52
abbrev T_struct_From_int_To_int_Weight_int64 : Nat := 53
abbrev T_api_Arc : Nat := 54
abbrev T_p_milestoneref07_Draft : Nat := 55
abbrev T_struct_B_sl_uint8_At_int : Nat := 56
abbrev T_milestoneref07_Draft : Nat := 57
abbrev T_func_api_Raw : Nat := 58
abbrev T_interface_Error_string : Nat := 59
abbrev T_error : Nat := 60
abbrev T_net_Net_error : Nat := 61
abbrev T_func_api_Raw_net_Net_error : Nat := 62
abbrev T_sl_avoid_mark : Nat := 63
abbrev T_func_int : Nat := 64
abbrev T_funcnet_Net_sl_avoid_mark_int_int : Nat := 65
abbrev T_funcnet_Net_sl_int_sl_avoid_mark : Nat := 66
abbrev T_struct_left_sl_uint32 : Nat := 67
abbrev T_draw_Draws : Nat := 68
abbrev T_p_milestoneref05_Draws : Nat := 69
abbrev T_struct_L_sl_uint32_At_int : Nat := 70
abbrev T_milestoneref05_Draws : Nat := 71
abbrev T_func_api_Raw_sl_int_int_int : Nat := 72
abbrev T_funcnet_Net_int_bool : Nat := 73
abbrev T_map_int_sl_int : Nat := 74
abbrev T_struct_flood_Tree_kids_map_int_sl_int_sizes_sl_int64 : Nat := 75
abbrev T_avoid_tree : Nat := 76
abbrev T_p_avoid_tree : Nat := 77
abbrev T_funcnet_Net_sl_avoid_mark_int_p_avoid_tree : Nat := 78
abbrev T_func_api_Raw_int_bool : Nat := 79
abbrev T_milestoneref10_Tree : Nat := 80
abbrev T_func_api_Raw_int_milestoneref10_Tree : Nat := 81
abbrev T_func_api_Raw_milestoneref10_Tree_int_sl_int : Nat := 82
abbrev T_func_sl_int_int_bool_v2 : Nat := 83
abbrev T_func_int64_int64_int64 : Nat := 84
abbrev T_func_sl_avoid_mark_int_int_int64 : Nat := 85
abbrev T_funcnet_Net_int_func_int_sl_int_func_api_Arc_int_flood_Tree : Nat := 86
abbrev T_func_int_sl_int : Nat := 87
abbrev T_func_api_Arc_int : Nat := 88
abbrev T_uint32_sl_uint32 : Nat := 89
abbrev T_func_sl_uint32_uint32_sl_uint32 : Nat := 90
abbrev T_func_int64 : Nat := 91
abbrev T_func_api_Raw_error : Nat := 92
abbrev T_api_Errno : Nat := 93
abbrev T_struct_Code_api_Errno_Phase_int_Index_int_Field_int : Nat := 94
abbrev T_api_Fault : Nat := 95
abbrev T_func_error_api_Fault : Nat := 96
abbrev T_p_api_Fault : Nat := 97
abbrev T_struct_p_api_Fault : Nat := 98
abbrev T_net_trouble : Nat := 99
abbrev T_func_api_Raw_api_Raw : Nat := 100
abbrev T_sl_sl_int : Nat := 101
abbrev T_struct_raw_api_Raw_out_sl_sl_int_in_sl_sl_int : Nat := 102
abbrev T_net_Net : Nat := 103
abbrev T_func_iter_Seq_int_func_int_int64_int : Nat := 104
abbrev T_func_func_int_bool : Nat := 105
abbrev T_iter_Seq_int : Nat := 106
abbrev T_func_sl_int_iter_Seq_int : Nat := 107
abbrev T_func_int_int64 : Nat := 108
abbrev T_func_sl_avoid_mark_func_avoid_mark_bool_bool : Nat := 109
abbrev T_struct_node_int_to_flood_Tree_from_flood_Tree : Nat := 110
abbrev T_avoid_mark : Nat := 111
abbrev T_func_avoid_mark_bool : Nat := 112
abbrev T_api_Arc_bool : Nat := 113
abbrev T_func_int_api_Arc_bool : Nat := 114
abbrev T_sl_bool : Nat := 115
abbrev T_p_milestoneref08_Heap : Nat := 116
abbrev T_func_int_p_milestoneref08_Heap : Nat := 117
abbrev T_func_int_int64_api_Errno : Nat := 118
abbrev T_sl_milestoneref08_Held : Nat := 119
abbrev T_struct_N_int_L_sl_milestoneref08_Held : Nat := 120
abbrev T_milestoneref08_Heap : Nat := 121
abbrev T_int_int64_bool : Nat := 122
abbrev T_func_int_int64_bool : Nat := 123
abbrev T_func_api_Raw_int_sl_int : Nat := 124
abbrev T_int64_bool : Nat := 125
abbrev T_func_int_int64_bool_v2 : Nat := 126
abbrev T_p_flood_run : Nat := 127
abbrev T_p_heap_Heap : Nat := 128
abbrev T_func_int_p_heap_Heap : Nat := 129
abbrev T_func_sl_int64_int_sl_int64 : Nat := 130
abbrev T_func_sl_int_int_sl_int : Nat := 131
abbrev T_map_int_int : Nat := 132
abbrev T_struct_p_heap_Heap_flood_Tree_closed_map_int_int : Nat := 133
abbrev T_flood_run : Nat := 134
abbrev T_func_func_int_api_Arc_bool : Nat := 135
abbrev T_iter_Seq2_int_api_Arc : Nat := 136
abbrev T_funcnet_Net_sl_int_func_api_Arc_int_iter_Seq2_int_api_Arc : Nat := 137
abbrev T_func_int_int_int64 : Nat := 138
abbrev T_sl_int_bool : Nat := 139
abbrev T_func_sl_sl_int_int_sl_int_bool : Nat := 140
abbrev T_func_sl_int_sl_int : Nat := 141
abbrev T_graph_trouble : Nat := 142
abbrev T_graph_trouble_bool : Nat := 143
abbrev T_func_api_Raw_v2 : Nat := 144
abbrev T_func_error_interface_bool : Nat := 145
abbrev T_p_p_api_Fault : Nat := 146
abbrev T_p_api_Errno : Nat := 147
abbrev T_func_func_api_Arc_int_sl_sl_int : Nat := 148
abbrev T_func_sl_int64_sl_int64 : Nat := 149
abbrev T_func_sl_api_Arc_sl_api_Arc : Nat := 150
abbrev T_func_int_bool : Nat := 151
abbrev T_func_sl_avoid_mark_func_avoid_mark_bool_int : Nat := 152
abbrev T_func_func_int_int_bool : Nat := 153
abbrev T_iter_Seq2_int_int : Nat := 154
abbrev T_func_sl_int_iter_Seq2_int_int : Nat := 155
abbrev T_func_func_int64_int64_int64_int64 : Nat := 156
abbrev T_func_int64_int64 : Nat := 157
abbrev T_func_int64_int64_func_int64_int64 : Nat := 158
abbrev T_func_sl_api_Arc_int_api_Arc_bool : Nat := 159
abbrev T_struct_Id_int_Key_int64 : Nat := 160
abbrev T_milestoneref08_Held : Nat := 161
abbrev T_func_int64_bool : Nat := 162
abbrev T_sl_heap_held : Nat := 163
abbrev T_struct_l_sl_heap_held_at_map_int_int : Nat := 164
abbrev T_heap_row : Nat := 165
abbrev T_struct_heap_row_n_int : Nat := 166
abbrev T_heap_Heap : Nat := 167
abbrev T_uint : Nat := 168
abbrev T_uint_uint : Nat := 169
abbrev T_func_uint_uint_uint_uint : Nat := 170
abbrev T_int_bool : Nat := 171
abbrev T_struct_id_int_key_int64 : Nat := 172
abbrev T_heap_held : Nat := 173
abbrev T_func_int_v2 : Nat := 174
abbrev T_func_int_int_v2 : Nat := 175
abbrev T_func_int_api_Arc_bool_v2 : Nat := 176
abbrev T_func_func_graph_place_bool : Nat := 177
abbrev T_iter_Seq_graph_place : Nat := 178
abbrev T_func_api_Errno_int_int_int_iter_Seq_graph_place : Nat := 179
abbrev T_func_iter_Seq_graph_place : Nat := 180
abbrev T_func_api_Raw_iter_Seq_graph_place : Nat := 181
abbrev T_sl_func_iter_Seq_graph_place : Nat := 182
abbrev T_struct_index_int_field_int_code_api_Errno_n_int64_least_int64_end_int64 : Nat := 183
abbrev T_graph_place : Nat := 184
abbrev T_unsafe_Pointer : Nat := 185
abbrev T_reflectlite_flag : Nat := 186
abbrev T_struct_typ_p_abi_Type_ptr_unsafe_Pointer_reflectlite_flag : Nat := 187
abbrev T_reflectlite_Value : Nat := 188
abbrev T_func_interface_reflectlite_Value : Nat := 189
abbrev T_interface_AssignableTo_reflectlite_Type_bool_Comparable_bool_Elem_reflectlite_Type_Implements_reflectlite_Type_bool_Kind_abi_Kind_Name_string_PkgPath_string_Size_uintptr_String_string_reflectlite_common_p_abi_Type_reflectlite_uncommon_p_abi_UncommonType : Nat := 190
abbrev T_reflectlite_Type : Nat := 191
abbrev T_func_reflectlite_Type : Nat := 192
abbrev T_abi_Kind : Nat := 193
abbrev T_func_abi_Kind : Nat := 194
abbrev T_func_reflectlite_Type_bool : Nat := 195
abbrev T_func_error_interface_reflectlite_Value_reflectlite_Type_bool : Nat := 196
abbrev T_func_int_int_bool : Nat := 197
abbrev T_uint32_uint32 : Nat := 198
abbrev T_func_uint32_uint32_uint32_uint32 : Nat := 199
abbrev T_uint64 : Nat := 200
abbrev T_uint64_uint64 : Nat := 201
abbrev T_func_uint64_uint64_uint64_uint64 : Nat := 202
abbrev T_p_heap_row : Nat := 203
abbrev T_func_int_iter_Seq_int : Nat := 204
abbrev T_func_sl_graph_place_iter_Seq_graph_place : Nat := 205
abbrev T_sl_graph_place : Nat := 206
abbrev T_func_graph_place_bool : Nat := 207
abbrev T_struct_p_abi_Type : Nat := 208
abbrev T_reflectlite_rtype : Nat := 209
abbrev T_p_reflectlite_ValueError : Nat := 210
abbrev T_func_interface_reflectlite_Type : Nat := 211
abbrev T_func_reflectlite_Value : Nat := 212
abbrev T_func_reflectlite_Value_v2 : Nat := 213
abbrev T_interface_As_interface_bool : Nat := 214
abbrev T_interface_As_interface_bool_bool : Nat := 215
abbrev T_func_interface_bool : Nat := 216
abbrev T_interface_Unwrap_error : Nat := 217
abbrev T_func_error : Nat := 218
abbrev T_interface_Unwrap_sl_error : Nat := 219
abbrev T_sl_error : Nat := 220
abbrev T_func_sl_error : Nat := 221
abbrev T_func_int_int_v3 : Nat := 222
abbrev T_func_int64_int64_int : Nat := 223
abbrev T_func_int_int_int : Nat := 224
abbrev T_func_string : Nat := 225
abbrev T_struct_interface_p_abi_Type_concrete_p_abi_Type_asserted_p_abi_Type_missingMethod_string : Nat := 226
abbrev T_runtime_TypeAssertionError : Nat := 227
abbrev T_0_p_runtime_PanicNilError : Nat := 228
abbrev T_struct_0_p_runtime_PanicNilError : Nat := 229
abbrev T_runtime_PanicNilError : Nat := 230
abbrev T_func_p_abi_Type : Nat := 231
abbrev T_abi_TFlag : Nat := 232
abbrev T_func_unsafe_Pointer_unsafe_Pointer_bool : Nat := 233
abbrev T_p_uint8 : Nat := 234
abbrev T_abi_NameOff : Nat := 235
abbrev T_abi_TypeOff : Nat := 236
abbrev T_struct_Size_uintptr_PtrBytes_uintptr_Hash_uint32_TFlag_abi_TFlag_Align_uint8_FieldAlign_uint8_Kind_abi_Kind_Equal_func_unsafe_Pointer_unsafe_Pointer_bool_GCData_p_uint8_Str_abi_NameOff_PtrToThis_abi_TypeOff : Nat := 237
abbrev T_abi_Type : Nat := 238
abbrev T_func_uintptr : Nat := 239
abbrev T_func_p_abi_UncommonType : Nat := 240
abbrev T_struct_Method_string_Kind_abi_Kind : Nat := 241
abbrev T_reflectlite_ValueError : Nat := 242
abbrev T_p_abi_UncommonType : Nat := 243
abbrev T_func_sl_abi_Method : Nat := 244
abbrev T_uint16 : Nat := 245
abbrev T_struct_PkgPath_abi_NameOff_Mcount_uint16_Xcount_uint16_Moff_uint32_uint32 : Nat := 246
abbrev T_abi_UncommonType : Nat := 247
abbrev T_sl_abi_Method : Nat := 248
abbrev T_abi_TextOff : Nat := 249
abbrev T_struct_Name_abi_NameOff_Mtyp_abi_TypeOff_Ifn_abi_TextOff_Tfn_abi_TextOff : Nat := 250
abbrev T_abi_Method : Nat := 251
abbrev T_p_error : Nat := 252
abbrev G_errors_errorType : Nat := 0
end Go.Proofs.YtoopkllfpmjnfaaGreatDoor

namespace Go.Proofs.YtoopkllfpmjnfaaGreatDoor
open Go Go.Mh
set_option maxHeartbeats 0
set_option linter.unusedVariables false

/-! milestone/milestonelaw16.AvoidTells -/

def sh_milestonelaw16_AvoidTells_C7 (P : Program) (K : Value → Heap → Prop) (v16 : Value) (Z_3 : Value → Heap → Prop) (t127 : Value) (h_23 : Heap) : Prop :=
  ifV t127
  (K (.bool false) h_23)
  (pBin .add v16 (.int .i64 1) fun t103 =>
  Z_3 t103 h_23)

def sh_milestonelaw16_AvoidTells_L6 (P : Program) (g7 t20 l9 r12 : Value) (K : Value → Heap → Prop) (v16 : Value) (h_18 : Heap) (Z_3 : Value → Heap → Prop) : Prop :=
  pField 0 g7 fun t99 =>
  pLoad h_18 t99 fun t100 =>
  pBin .leq v16 t100 fun t101 =>
  ifV t101
  (cutP (σ := Vals [127]) (fun J =>
  pLoadN 4 h_18 g7 fun t109 =>
  callS P F_avoid_Bound [t20, l9, r12, v16] h_18 fun t108 h_19 =>
  (pLoadN 4 h_19 g7 fun t109_1 =>
  t109_1 = t109) ∧
  (callS P F_milestoneref16_Bound [t109, l9, r12, v16] h_19 fun t113 h_20 =>
  pBin .neq t108 t113 fun t114 =>
  ifV t114
  (J ((.bool true), ()) h_20)
  (pLoadN 4 h_20 g7 fun t121 =>
  callS P F_avoid_Bound [t20, l9, v16, r12] h_20 fun t120 h_21 =>
  (pLoadN 4 h_21 g7 fun t121_1 =>
  t121_1 = t121) ∧
  (callS P F_milestoneref16_Bound [t121, l9, v16, r12] h_21 fun t125 h_22 =>
  pBin .neq t120 t125 fun t126 =>
  J (t126, ()) h_22))))
  (fun x hh => sh_milestonelaw16_AvoidTells_C7 P K v16 Z_3 x.1 hh))
  (callS P F_milestonelaw16_works [] h_18 fun t128 h_24 =>
  K t128 h_24)

def sh_milestonelaw16_AvoidTells_L5 (P : Program) (t73 t77 : Value) (K : Value → Heap → Prop) (g7 t20 l9 r12 v15 : Value) (h_17 : Heap) (Z_2 : Value → Heap → Prop) : Prop :=
  pLen t73 fun t85 =>
  pBin .lss v15 t85 fun t86 =>
  ifV t86
  (pIdx 1 t73 v15 fun t91 =>
  pLoad h_17 t91 fun t92 =>
  pIdx 1 t77 v15 fun t95 =>
  pLoad h_17 t95 fun t96 =>
  pBin .neq t92 t96 fun t97 =>
  ifV t97
  (K (.bool false) h_17)
  (pBin .add v15 (.int .i64 1) fun t88 =>
  Z_2 t88 h_17))
  (LoopH (σ := Vals [16]) (fun x hh ZZ => sh_milestonelaw16_AvoidTells_L6 P g7 t20 l9 r12 K x.1 hh (fun a0 hz => ZZ (a0, ()) hz)) ((.int .i64 (-1)), ()) h_17)

def sh_milestonelaw16_AvoidTells_k4 (P : Program) (g7 t20 l9 : Value) (K : Value → Heap → Prop) (r12 : Value) (h_14 : Heap) : Prop :=
  pLoadN 4 h_14 g7 fun t74 =>
  callS P F_avoid_Sizes [t20, l9, r12] h_14 fun t73 h_15 =>
  (pLoadN 4 h_15 g7 fun t74_1 =>
  t74_1 = t74) ∧
  (callS P F_milestoneref16_Sizes [t74, l9, r12] h_15 fun t77 h_16 =>
  pLen t73 fun t79 =>
  pLen t77 fun t81 =>
  pBin .neq t79 t81 fun t82 =>
  ifV t82
  (K (.bool false) h_16)
  (LoopH (σ := Vals [15]) (fun x hh ZZ => sh_milestonelaw16_AvoidTells_L5 P t73 t77 K g7 t20 l9 r12 x.1 hh (fun a0 hz => ZZ (a0, ()) hz)) ((.int .i64 0), ()) h_16))

def sh_milestonelaw16_AvoidTells_L3 (P : Program) (g7 t27 t20 : Value) (K : Value → Heap → Prop) (l9 k11 : Value) (h_9 : Heap) (Z_1 : Value → Heap → Prop) : Prop :=
  pBin .leq k11 (.int .i64 5) fun t48 =>
  ifV t48
  (pLoadN 4 h_9 g7 fun t56 =>
  callS P F_draw_New [t27] h_9 fun t54 h_10 =>
  (pLoadN 4 h_10 g7 fun t56_1 =>
  t56_1 = t56) ∧
  (callS P F_avoid_Marks [t20, k11, t54] h_10 fun t55 h_11 =>
  (pLoadN 4 h_11 g7 fun t56_2 =>
  t56_2 = t56) ∧
  (callS P F_milestoneref16_Marks [t56, k11, t27] h_11 fun t59 h_12 =>
  callS P F_milestoneref07_Ints [t55, t59] h_12 fun t60 h_13 =>
  pUn .not t60 fun t61 =>
  ifV t61
  (K (.bool false) h_13)
  (pBin .add k11 (.int .i64 1) fun t50 =>
  Z_1 t50 h_13))))
  (pLen t27 fun t63 =>
  pBin .gtr t63 (.int .i64 0) fun t64 =>
  ifV t64
  (pIdx 1 t27 (.int .i64 0) fun t66 =>
  pLoad h_9 t66 fun t67 =>
  pBin .rem t67 (.int .u32 16) fun t68 =>
  pConv .i64 t68 fun t69 =>
  sh_milestonelaw16_AvoidTells_k4 P g7 t20 l9 K t69 h_9)
  (sh_milestonelaw16_AvoidTells_k4 P g7 t20 l9 K (.int .i64 0) h_9))

def sh_milestonelaw16_AvoidTells_k2 (P : Program) (g7 t27 t20 : Value) (K : Value → Heap → Prop) (l9 : Value) (h_8 : Heap) : Prop :=
  LoopH (σ := Vals [11]) (fun x hh ZZ => sh_milestonelaw16_AvoidTells_L3 P g7 t27 t20 K l9 x.1 hh (fun a0 hz => ZZ (a0, ()) hz)) ((.int .i64 (-1)), ()) h_8

def sh_milestonelaw16_AvoidTells_L1 (P : Program) (marks2 g7 t27 t20 : Value) (K : Value → Heap → Prop) (l9 i10 : Value) (h_5 : Heap) (Z : Value → Value → Heap → Prop) : Prop :=
  pLen marks2 fun t30 =>
  pBin .lss i10 t30 fun t31 =>
  ifV t31
  (pBin .lss i10 (.int .i64 5) fun t34 =>
  ifV t34
  (pIdx 1 marks2 i10 fun t41 =>
  pLoad h_5 t41 fun t42 =>
  pConv .i64 t42 fun t43 =>
  pBin .rem t43 (.int .i64 16) fun t44 =>
  pBuildSlice T_int (zerosL [(.int .i64 0)] 1) [(0, 1, t44)] 1 h_5 fun t45 h_6 =>
  pAppend T_int 1 8 [(.int .i64 0)] l9 t45 h_6 fun t46 h_7 =>
  pBin .add i10 (.int .i64 1) fun t37 =>
  Z t46 t37 h_7)
  (sh_milestonelaw16_AvoidTells_k2 P g7 t27 t20 K l9 h_5))
  (sh_milestonelaw16_AvoidTells_k2 P g7 t27 t20 K l9 h_5)

def sh_milestonelaw16_AvoidTells (P : Program) (b0 draws1 marks2 : Value) (h : Heap) (K : Value → Heap → Prop) : Prop :=
  callS P F_milestonelaw16_drawn [b0] h fun t18 h_1 =>
  pBox T_api_Raw (.agg #[(.int .i64 0), (.slice none 0 0), (.slice none 0 0), (.slice none 0 0)]) h_1 fun g7 h_2 =>
  pStore 4 g7 t18 h_2 fun u h_3 =>
  pLoadN 4 h_3 g7 fun t19 =>
  callS P F_milestonelaw16_made [t19] h_3 fun t20 h_4 =>
  pEq false .ptr t20 (.pointer none) fun t22 =>
  ifV t22
  (K (.bool false) h_4)
  (pLen draws1 fun t25 =>
  pMin t25 (.int .i64 12) fun t26 =>
  pSlice 1 draws1 none (some t26) none fun t27 =>
  LoopH (σ := Vals [9, 10]) (fun x hh ZZ => sh_milestonelaw16_AvoidTells_L1 P marks2 g7 t27 t20 K x.1 x.2.1 hh (fun a0 a1 hz => ZZ (a0, (a1, ())) hz)) ((.slice none 0 0), ((.int .i64 0), ())) h_4)

set_option maxRecDepth 100000 in
theorem lk_milestonelaw16_AvoidTells (b0 draws1 marks2 : Value) {h : Heap} {K : Value → Heap → Prop} (H : sh_milestonelaw16_AvoidTells Tryz.prog b0 draws1 marks2 h K) : CallsH Tryz.prog F_milestonelaw16_AvoidTells [b0, draws1, marks2].toArray h K :=
  callsH_of (ann := (annG (Tryz.f3.body.getD .skip) 0 [(10, [9, 10]), (16, [11]), (31, [15]), (39, [16]), (43, [127])]).1) (c := Tryz.f3.body.getD .skip) Tryz.func3 (by kernel_rfl) (by kernel_rfl) (by kernel_rfl) (of_decide_eq_true (by kernel_rfl))
    (Eq.mpr (by kernel_rfl) H)

/-! milestone/milestonelaw16.AvoidBounds -/

def sh_milestonelaw16_AvoidBounds_k4 (P : Program) (K : Value → Heap → Prop) (h_25 : Heap) : Prop :=
  K (.bool false) h_25

def sh_milestonelaw16_AvoidBounds_L3 (P : Program) (g7 t23 l11 t30 more13 : Value) (K : Value → Heap → Prop) (x10 i12 : Value) (Z : Value → Value → Heap → Prop) (v14 : Value) (h_22 : Heap) (Z_1 : Value → Heap → Prop) : Prop :=
  pField 0 g7 fun t58 =>
  pLoad h_22 t58 fun t59 =>
  pBin .lss v14 t59 fun t60 =>
  ifV t60
  (callS P F_avoid_Bound [t23, l11, t30, v14] h_22 fun t67 h_23 =>
  callS P F_avoid_Bound [t23, more13, t30, v14] h_23 fun t72 h_24 =>
  pBin .lss t67 (.int .i64 0) fun t74 =>
  ifV t74
  (sh_milestonelaw16_AvoidBounds_k4 P K h_24)
  (pBin .lss t72 t67 fun t78 =>
  ifV t78
  (sh_milestonelaw16_AvoidBounds_k4 P K h_24)
  (pField 0 x10 fun t82 =>
  pLoad h_24 t82 fun t83 =>
  pIdx 1 t83 v14 fun t85 =>
  pLoad h_24 t85 fun t86 =>
  pBin .gtr t72 t86 fun t87 =>
  ifV t87
  (sh_milestonelaw16_AvoidBounds_k4 P K h_24)
  (pBin .add v14 (.int .i64 1) fun t62 =>
  Z_1 t62 h_24))))
  (pBin .add i12 (.int .i64 1) fun t43 =>
  Z more13 t43 h_22)

def sh_milestonelaw16_AvoidBounds_C2 (P : Program) (g7 t23 l11 t30 : Value) (K : Value → Heap → Prop) (x10 i12 : Value) (Z : Value → Value → Heap → Prop) (more13 : Value) (h_21 : Heap) : Prop :=
  LoopH (σ := Vals [14]) (fun x hh ZZ => sh_milestonelaw16_AvoidBounds_L3 P g7 t23 l11 t30 more13 K x10 i12 Z x.1 hh (fun a0 hz => ZZ (a0, ()) hz)) ((.int .i64 0), ()) h_21

def sh_milestonelaw16_AvoidBounds_C7 (P : Program) (K : Value → Heap → Prop) (v17 : Value) (Z_2 : Value → Heap → Prop) (t121 : Value) (h_32 : Heap) : Prop :=
  ifV t121
  (K (.bool false) h_32)
  (pBin .add v17 (.int .i64 1) fun t95 =>
  Z_2 t95 h_32)

def sh_milestonelaw16_AvoidBounds_L6 (P : Program) (g7 x10 t23 t30 : Value) (K : Value → Heap → Prop) (v17 : Value) (h_27 : Heap) (Z_2 : Value → Heap → Prop) : Prop :=
  pField 0 g7 fun t91 =>
  pLoad h_27 t91 fun t92 =>
  pBin .lss v17 t92 fun t93 =>
  ifV t93
  (cutP (σ := Vals [121]) (fun J_1 =>
  pField 0 x10 fun t102 =>
  pLoad h_27 t102 fun t103 =>
  pIdx 1 t103 v17 fun t105 =>
  pLoad h_27 t105 fun t106 =>
  pBuildSlice T_int (zerosL [(.int .i64 0)] 1) [(0, 1, v17)] 1 h_27 fun t98 h_28 =>
  callS P F_avoid_Bound [t23, t98, t30, v17] h_28 fun t101 h_29 =>
  (pLoad h_29 t102 fun t103_1 =>
  t103_1 = t103) ∧
  (pLoad h_29 t105 fun t106_1 =>
  t106_1 = t106) ∧
  (pBin .neq t101 t106 fun t107 =>
  ifV t107
  (J_1 ((.bool true), ()) h_29)
  (pField 0 x10 fun t115 =>
  pLoad h_29 t115 fun t116 =>
  pIdx 1 t116 v17 fun t118 =>
  pLoad h_29 t118 fun t119 =>
  pBuildSlice T_int (zerosL [(.int .i64 0)] 1) [(0, 1, t30)] 1 h_29 fun t111 h_30 =>
  callS P F_avoid_Bound [t23, t111, t30, v17] h_30 fun t114 h_31 =>
  (pLoad h_31 t115 fun t116_1 =>
  t116_1 = t116) ∧
  (pLoad h_31 t118 fun t119_1 =>
  t119_1 = t119) ∧
  (pBin .neq t114 t119 fun t120 =>
  J_1 (t120, ()) h_31))))
  (fun x hh => sh_milestonelaw16_AvoidBounds_C7 P K v17 Z_2 x.1 hh))
  (K (.bool true) h_27)

def sh_milestonelaw16_AvoidBounds_k5 (P : Program) (g7 x10 t23 t30 : Value) (K : Value → Heap → Prop) (h_26 : Heap) : Prop :=
  LoopH (σ := Vals [17]) (fun x hh ZZ => sh_milestonelaw16_AvoidBounds_L6 P g7 x10 t23 t30 K x.1 hh (fun a0 hz => ZZ (a0, ()) hz)) ((.int .i64 0), ()) h_26

def sh_milestonelaw16_AvoidBounds_L1 (P : Program) (marks1 g7 t23 t30 : Value) (K : Value → Heap → Prop) (x10 l11 i12 : Value) (h_9 : Heap) (Z : Value → Value → Heap → Prop) : Prop :=
  pLen marks1 fun t36 =>
  pBin .lss i12 t36 fun t37 =>
  ifV t37
  (pBin .lss i12 (.int .i64 4) fun t40 =>
  ifV t40
  (cutP (σ := Vals [13]) (fun J =>
  pIdx 1 marks1 i12 fun t49 =>
  pLoad h_9 t49 fun t50 =>
  pConv .i64 t50 fun t51 =>
  pField 0 g7 fun t52 =>
  pLoad h_9 t52 fun t53 =>
  pBin .rem t51 t53 fun t54 =>
  (pBuildSlice T_int (zerosL [(.int .i64 0)] 0) [] 0 h_9 fun t44 h_10 =>
  (pAppend T_int 1 8 [(.int .i64 0)] t44 l11 h_10 fun t46 h_11 =>
  (pLoad h_11 t49 fun t50_1 =>
  t50_1 = t50) ∧
  (pLoad h_11 t52 fun t53_1 =>
  t53_1 = t53) ∧
  (pBuildSlice T_int (zerosL [(.int .i64 0)] 1) [(0, 1, t54)] 1 h_11 fun t55 h_12 =>
  pAppend T_int 1 8 [(.int .i64 0)] t46 t55 h_12 fun t56 h_13 =>
  J (t56, ()) h_13)) ∧
  (pBuildSlice T_int (zerosL [(.int .i64 0)] 1) [(0, 1, t54)] 1 h_10 fun t55_1 h_14 =>
  pAppend T_int 1 8 [(.int .i64 0)] t44 l11 h_14 fun t46_1 h_15 =>
  pAppend T_int 1 8 [(.int .i64 0)] t46_1 t55_1 h_15 fun t56_1 h_16 =>
  J (t56_1, ()) h_16)) ∧
  (pBuildSlice T_int (zerosL [(.int .i64 0)] 1) [(0, 1, t54)] 1 h_9 fun t55_2 h_17 =>
  pBuildSlice T_int (zerosL [(.int .i64 0)] 0) [] 0 h_17 fun t44_1 h_18 =>
  pAppend T_int 1 8 [(.int .i64 0)] t44_1 l11 h_18 fun t46_2 h_19 =>
  pAppend T_int 1 8 [(.int .i64 0)] t46_2 t55_2 h_19 fun t56_2 h_20 =>
  J (t56_2, ()) h_20))
  (fun x hh => sh_milestonelaw16_AvoidBounds_C2 P g7 t23 l11 t30 K x10 i12 Z x.1 hh))
  (sh_milestonelaw16_AvoidBounds_k5 P g7 x10 t23 t30 K h_9))
  (sh_milestonelaw16_AvoidBounds_k5 P g7 x10 t23 t30 K h_9)

def sh_milestonelaw16_AvoidBounds (P : Program) (b0 marks1 r2 : Value) (h : Heap) (K : Value → Heap → Prop) : Prop :=
  callS P F_milestonelaw16_works [] h fun t18 h_1 =>
  pUn .not t18 fun t19 =>
  ifV t19
  (K (.bool false) h_1)
  (callS P F_milestonelaw16_drawn [b0] h_1 fun t21 h_2 =>
  pBox T_api_Raw (.agg #[(.int .i64 0), (.slice none 0 0), (.slice none 0 0), (.slice none 0 0)]) h_2 fun g7 h_3 =>
  pStore 4 g7 t21 h_3 fun u h_4 =>
  pLoadN 4 h_4 g7 fun t22 =>
  callS P F_milestonelaw16_made [t22] h_4 fun t23 h_5 =>
  pEq false .ptr t23 (.pointer none) fun t25 =>
  ifV t25
  (K (.bool false) h_5)
  (pConv .i64 r2 fun t27 =>
  pField 0 g7 fun t28 =>
  pLoad h_5 t28 fun t29 =>
  pBin .rem t27 t29 fun t30 =>
  callS P F_flood_From [t23, t30] h_5 fun t33 h_6 =>
  pBox T_flood_Tree (.agg #[(.slice none 0 0), (.slice none 0 0), (.slice none 0 0)]) h_6 fun x10 h_7 =>
  pStore 3 x10 t33 h_7 fun u_1 h_8 =>
  LoopH (σ := Vals [11, 12]) (fun x hh ZZ => sh_milestonelaw16_AvoidBounds_L1 P marks1 g7 t23 t30 K x10 x.1 x.2.1 hh (fun a0 a1 hz => ZZ (a0, (a1, ())) hz)) ((.slice none 0 0), ((.int .i64 0), ())) h_8))

set_option maxRecDepth 100000 in
theorem lk_milestonelaw16_AvoidBounds (b0 marks1 r2 : Value) {h : Heap} {K : Value → Heap → Prop} (H : sh_milestonelaw16_AvoidBounds Tryz.prog b0 marks1 r2 h K) : CallsH Tryz.prog F_milestonelaw16_AvoidBounds [b0, marks1, r2].toArray h K :=
  callsH_of (ann := (annG (Tryz.f4.body.getD .skip) 0 [(14, [11, 12]), (18, [13]), (21, [14]), (30, [17]), (34, [121])]).1) (c := Tryz.f4.body.getD .skip) Tryz.func4 (by kernel_rfl) (by kernel_rfl) (by kernel_rfl) (of_decide_eq_true (by kernel_rfl))
    (Eq.mpr (by kernel_rfl) H)

/-! milestone/milestonelaw16.AvoidGains -/

def sh_milestonelaw16_AvoidGains_k4 (P : Program) (i12 : Value) (Z : Value → Heap → Prop) (h_19 : Heap) : Prop :=
  pBin .add i12 (.int .i64 1) fun t54 =>
  Z t54 h_19

def sh_milestonelaw16_AvoidGains_k6 (P : Program) (v17 : Value) (Z_2 : Value → Value → Heap → Prop) (some16_1 : Value) (h_22 : Heap) : Prop :=
  pBin .add v17 (.int .i64 1) fun t123 =>
  Z_2 some16_1 t123 h_22

def sh_milestonelaw16_AvoidGains_C7 (P : Program) (K : Value → Heap → Prop) (i12 : Value) (Z : Value → Heap → Prop) (t186 : Value) (h_26 : Heap) : Prop :=
  ifV t186
  (K (.bool false) h_26)
  (sh_milestonelaw16_AvoidGains_k4 P i12 Z h_26)

def sh_milestonelaw16_AvoidGains_L5 (P : Program) (t117 t39 i12 t24 t58 : Value) (K Z : Value → Heap → Prop) (some16 v17 : Value) (h_21 : Heap) (Z_2 : Value → Value → Heap → Prop) : Prop :=
  pLen t117 fun t120 =>
  pBin .lss v17 t120 fun t121 =>
  ifV t121
  (ifV some16
  (sh_milestonelaw16_AvoidGains_k6 P v17 Z_2 (.bool true) h_21)
  (pIdx 1 t117 v17 fun t128 =>
  pLoad h_21 t128 fun t129 =>
  pBin .gtr t129 (.int .i64 0) fun t130 =>
  sh_milestonelaw16_AvoidGains_k6 P v17 Z_2 t130 h_21))
  (pIdx 1 t39 i12 fun t138 =>
  pLoad h_21 t138 fun t139 =>
  callS P F_flood_From [t24, t58] h_21 fun t134 h_23 =>
  (pLoad h_23 t138 fun t139_1 =>
  t139_1 = t139) ∧
  (pPart1 0 t134 fun t135 =>
  pIdx 1 t135 t139 fun t140 =>
  pLoad h_23 t140 fun t141 =>
  cutP (σ := Vals [186]) (fun J_1 =>
  ifV some16
  (pIdx 1 t39 i12 fun t147 =>
  pLoad h_23 t147 fun t148 =>
  pIdx 1 t117 t148 fun t149 =>
  pLoad h_23 t149 fun t150 =>
  pBin .leq t150 (.int .i64 0) fun t151 =>
  ifV t151
  (J_1 ((.bool true), ()) h_23)
  (pSlice 1 t39 none (some i12) none fun t156 =>
  pIdx 1 t39 i12 fun t160 =>
  pLoad h_23 t160 fun t161 =>
  callS P F_avoid_Bound [t24, t156, t58, t161] h_23 fun t162 h_24 =>
  pBin .geq t162 t141 fun t164 =>
  ifV t164
  (J_1 ((.bool true), ()) h_24)
  (pBin .geq t141 (.int .i64 72057594037927936) fun t168 =>
  ifV t168
  (J_1 ((.bool true), ()) h_24)
  (pBin .add i12 (.int .i64 1) fun t175 =>
  pSlice 1 t39 (some i12) (some t175) none fun t176 =>
  pIdx 1 t39 i12 fun t180 =>
  pLoad h_24 t180 fun t181 =>
  callS P F_avoid_Bound [t24, t176, t58, t181] h_24 fun t182 h_25 =>
  pBin .neq t182 t141 fun t184 =>
  J_1 (t184, ()) h_25))))
  (J_1 ((.bool false), ()) h_23))
  (fun x hh => sh_milestonelaw16_AvoidGains_C7 P K i12 Z x.1 hh)))

def sh_milestonelaw16_AvoidGains_L3 (P : Program) (i12 t39 : Value) (K Z : Value → Heap → Prop) (t24 t58 j14 : Value) (h_18 : Heap) (Z_1 : Value → Heap → Prop) : Prop :=
  pBin .lss j14 i12 fun t98 =>
  ifV t98
  (pIdx 1 t39 j14 fun t103 =>
  pLoad h_18 t103 fun t104 =>
  pIdx 1 t39 i12 fun t107 =>
  pLoad h_18 t107 fun t108 =>
  pBin .eql t104 t108 fun t109 =>
  ifV t109
  (K (.bool false) h_18)
  (pBin .add j14 (.int .i64 1) fun t100 =>
  Z_1 t100 h_18))
  (pBin .eql i12 (.int .i64 0) fun t111 =>
  ifV t111
  (sh_milestonelaw16_AvoidGains_k4 P i12 Z h_18)
  (pSlice 1 t39 none (some i12) none fun t115 =>
  callS P F_avoid_Sizes [t24, t115, t58] h_18 fun t117 h_20 =>
  LoopH (σ := Vals [16, 17]) (fun x hh ZZ => sh_milestonelaw16_AvoidGains_L5 P t117 t39 i12 t24 t58 K Z x.1 x.2.1 hh (fun a0 a1 hz => ZZ (a0, (a1, ())) hz)) ((.bool false), ((.int .i64 0), ())) h_20))

def sh_milestonelaw16_AvoidGains_C2 (P : Program) (K : Value → Heap → Prop) (i12 t39 : Value) (Z : Value → Heap → Prop) (t24 t58 t95 : Value) (h_17 : Heap) : Prop :=
  ifV t95
  (K (.bool false) h_17)
  (LoopH (σ := Vals [14]) (fun x hh ZZ => sh_milestonelaw16_AvoidGains_L3 P i12 t39 K Z t24 t58 x.1 hh (fun a0 hz => ZZ (a0, ()) hz)) ((.int .i64 0), ()) h_17)

def sh_milestonelaw16_AvoidGains_L1 (P : Program) (t39 g7 t48 t31 t24 : Value) (K : Value → Heap → Prop) (i12 : Value) (h_9 : Heap) (Z : Value → Heap → Prop) : Prop :=
  pLen t39 fun t51 =>
  pBin .lss i12 t51 fun t52 =>
  ifV t52
  (pField 0 g7 fun t56 =>
  pLoad h_9 t56 fun t57 =>
  callS P F_draw_Draws_Next [t48, t57] h_9 fun t58 h_10 =>
  cutP (σ := Vals [95]) (fun J =>
  pIdx 1 t39 i12 fun t61 =>
  pLoad h_10 t61 fun t62 =>
  pBin .lss t62 (.int .i64 0) fun t63 =>
  ifV t63
  (J ((.bool true), ()) h_10)
  (pIdx 1 t39 i12 fun t67 =>
  pLoad h_10 t67 fun t68 =>
  pField 0 g7 fun t69 =>
  pLoad h_10 t69 fun t70 =>
  pBin .geq t68 t70 fun t71 =>
  ifV t71
  (J ((.bool true), ()) h_10)
  (pBin .eql i12 (.int .i64 0) fun t75 =>
  ifV t75
  (pIdx 1 t39 (.int .i64 0) fun t78 =>
  pLoad h_10 t78 fun t79 =>
  pBin .neq t79 t58 fun t81 =>
  ifV t81
  (J ((.bool true), ()) h_10)
  (pSlice 1 t39 none (some i12) none fun t92 =>
  callS P F_draw_New [t31] h_10 fun t88 h_11 =>
  callS P F_avoid_Marks [t24, i12, t88] h_11 fun t89 h_12 =>
  callS P F_milestonelaw16_rows [t89, t92] h_12 fun t93 h_13 =>
  pUn .not t93 fun t94 =>
  J (t94, ()) h_13))
  (pSlice 1 t39 none (some i12) none fun t92_1 =>
  callS P F_draw_New [t31] h_10 fun t88_1 h_14 =>
  callS P F_avoid_Marks [t24, i12, t88_1] h_14 fun t89_1 h_15 =>
  callS P F_milestonelaw16_rows [t89_1, t92_1] h_15 fun t93_1 h_16 =>
  pUn .not t93_1 fun t94_1 =>
  J (t94_1, ()) h_16))))
  (fun x hh => sh_milestonelaw16_AvoidGains_C2 P K i12 t39 Z t24 t58 x.1 hh))
  (K (.bool true) h_9)

def sh_milestonelaw16_AvoidGains (P : Program) (b0 draws1 many2 : Value) (h : Heap) (K : Value → Heap → Prop) : Prop :=
  callS P F_milestonelaw16_works [] h fun t19 h_1 =>
  pUn .not t19 fun t20 =>
  ifV t20
  (K (.bool false) h_1)
  (callS P F_milestonelaw16_drawn [b0] h_1 fun t22 h_2 =>
  pBox T_api_Raw (.agg #[(.int .i64 0), (.slice none 0 0), (.slice none 0 0), (.slice none 0 0)]) h_2 fun g7 h_3 =>
  pStore 4 g7 t22 h_3 fun u h_4 =>
  pLoadN 4 h_4 g7 fun t23 =>
  callS P F_milestonelaw16_made [t23] h_4 fun t24 h_5 =>
  pEq false .ptr t24 (.pointer none) fun t26 =>
  ifV t26
  (K (.bool false) h_5)
  (pLen draws1 fun t29 =>
  pMin t29 (.int .i64 8) fun t30 =>
  pSlice 1 draws1 none (some t30) none fun t31 =>
  pBin .rem many2 (.int .u8 8) fun t33 =>
  pConv .i64 t33 fun t34 =>
  callS P F_draw_New [t31] h_5 fun t38 h_6 =>
  callS P F_avoid_Marks [t24, t34, t38] h_6 fun t39 h_7 =>
  pLen t39 fun t41 =>
  pField 0 g7 fun t43 =>
  pLoad h_7 t43 fun t44 =>
  pMin t34 t44 fun t45 =>
  pBin .neq t41 t45 fun t46 =>
  ifV t46
  (K (.bool false) h_7)
  (callS P F_draw_New [t31] h_7 fun t48 h_8 =>
  LoopH (σ := Vals [12]) (fun x hh ZZ => sh_milestonelaw16_AvoidGains_L1 P t39 g7 t48 t31 t24 K x.1 hh (fun a0 hz => ZZ (a0, ()) hz)) ((.int .i64 0), ()) h_8)))

set_option maxRecDepth 100000 in
theorem lk_milestonelaw16_AvoidGains (b0 draws1 many2 : Value) {h : Heap} {K : Value → Heap → Prop} (H : sh_milestonelaw16_AvoidGains Tryz.prog b0 draws1 many2 h K) : CallsH Tryz.prog F_milestonelaw16_AvoidGains [b0, draws1, many2].toArray h K :=
  callsH_of (ann := (annG (Tryz.f5.body.getD .skip) 0 [(18, [12]), (24, [95]), (28, [14]), (40, [16, 17]), (45, [186])]).1) (c := Tryz.f5.body.getD .skip) Tryz.func5 (by kernel_rfl) (by kernel_rfl) (by kernel_rfl) (of_decide_eq_true (by kernel_rfl))
    (Eq.mpr (by kernel_rfl) H)

/-! milestone/milestonelaw16.AvoidKnown -/

def sh_milestonelaw16_AvoidKnown_k1 (P : Program) (K : Value → Heap → Prop) (h_5 : Heap) : Prop :=
  K (.bool false) h_5

def sh_milestonelaw16_AvoidKnown_C3 (P : Program) (one4 t18 : Value) (K : Value → Heap → Prop) (two6 : Value) (h_40 : Heap) : Prop :=
  callS P F_milestonelaw16_works [] h_40 fun t92 h_41 =>
  ifV t92
  (ifV one4
  (ifV two6
  (pBuildSlice T_int (zerosL [(.int .i64 0)] 1) [(0, 1, (.int .i64 0))] 1 h_41 fun t101 h_42 =>
  callS P F_avoid_Bound [t18, t101, (.int .i64 0), (.int .i64 2)] h_42 fun t102 h_43 =>
  pBin .eql t102 (.int .i64 4294967294) fun t103 =>
  ifV t103
  (pBuildSlice T_int (zerosL [(.int .i64 0)] 2) [(0, 1, (.int .i64 (-1))), (1, 1, (.int .i64 7))] 2 h_43 fun t107 h_44 =>
  callS P F_avoid_Bound [t18, t107, (.int .i64 0), (.int .i64 2)] h_44 fun t108 h_45 =>
  pBin .eql t108 (.int .i64 0) fun t109 =>
  ifV t109
  (pBuildSlice T_int (zerosL [(.int .i64 0)] 1) [(0, 1, (.int .i64 1))] 1 h_45 fun t113 h_46 =>
  callS P F_avoid_Bound [t18, t113, (.int .i64 5), (.int .i64 0)] h_46 fun t114 h_47 =>
  pBin .eql t114 (.int .i64 0) fun t115 =>
  ifV t115
  (callS P F_avoid_Sizes [t18, (.slice none 0 0), (.int .i64 3)] h_47 fun t119 h_48 =>
  pLen t119 fun t120 =>
  pBin .eql t120 (.int .i64 0) fun t121 =>
  ifV t121
  (callS P F_avoid_Bound [(.pointer none), (.slice none 0 0), (.int .i64 0), (.int .i64 0)] h_48 fun t124 h_49 =>
  pBin .eql t124 (.int .i64 0) fun t125 =>
  ifV t125
  (callS P F_avoid_Sizes [(.pointer none), (.slice none 0 0), (.int .i64 0)] h_49 fun t128 h_50 =>
  pLen t128 fun t129 =>
  pBin .eql t129 (.int .i64 0) fun t130 =>
  ifV t130
  (pBuildSlice T_int (zerosL [(.int .i64 0)] 1) [(0, 1, (.int .i64 2))] 1 h_50 fun t134 h_51 =>
  callS P F_avoid_Bound [t18, t134, (.int .i64 2), (.int .i64 1)] h_51 fun t135 h_52 =>
  pBin .eql t135 (.int .i64 72057594037927936) fun t136 =>
  ifV t136
  (pBuildSlice T_int (zerosL [(.int .i64 0)] 1) [(0, 1, (.int .i64 0))] 1 h_52 fun t140 h_53 =>
  callS P F_avoid_Bound [t18, t140, (.int .i64 2), (.int .i64 1)] h_53 fun t141 h_54 =>
  pBin .eql t141 (.int .i64 0) fun t142 =>
  K t142 h_54)
  (K (.bool false) h_52))
  (K (.bool false) h_50))
  (K (.bool false) h_49))
  (K (.bool false) h_48))
  (K (.bool false) h_47))
  (K (.bool false) h_45))
  (K (.bool false) h_43))
  (K (.bool false) h_41))
  (K (.bool false) h_41))
  (K (.bool false) h_41)

def sh_milestonelaw16_AvoidKnown_k2 (P : Program) (t18 : Value) (K : Value → Heap → Prop) (one4 : Value) (h_21 : Heap) : Prop :=
  callS P F_avoid_Sizes [t18, (.slice none 0 0), (.int .i64 0)] h_21 fun t59 h_22 =>
  cutP (σ := Vals [6]) (fun J =>
  pLen t59 fun t61 =>
  pBin .eql t61 (.int .i64 3) fun t62 =>
  ifV t62
  (pIdx 1 t59 (.int .i64 2) fun t65 =>
  pLoad h_22 t65 fun t66 =>
  pBin .eql t66 (.int .i64 4294967294) fun t67 =>
  ifV t67
  (pIdx 1 t59 (.int .i64 1) fun t71 =>
  pLoad h_22 t71 fun t72 =>
  pBin .eql t72 (.int .i64 6442450941) fun t73 =>
  ifV t73
  (pIdx 1 t59 (.int .i64 0) fun t77 =>
  pLoad h_22 t77 fun t78 =>
  pIdx 1 t59 (.int .i64 1) fun t80 =>
  pLoad h_22 t80 fun t81 =>
  pBin .eql t78 t81 fun t82 =>
  ifV t82
  ((pBuildSlice T_uint32 (zerosL [(.int .u32 0)] 2) [(0, 1, (.int .u32 1)), (1, 1, (.int .u32 0))] 2 h_22 fun t86 h_23 =>
  (callS P F_draw_New [t86] h_23 fun t87 h_24 =>
  (callS P F_avoid_Marks [t18, (.int .i64 2), t87] h_24 fun t88 h_25 =>
  pBuildSlice T_int (zerosL [(.int .i64 0)] 2) [(0, 1, (.int .i64 1)), (1, 1, (.int .i64 2))] 2 h_25 fun t89 h_26 =>
  callS P F_milestonelaw16_rows [t88, t89] h_26 fun t90 h_27 =>
  J (t90, ()) h_27) ∧
  (pBuildSlice T_int (zerosL [(.int .i64 0)] 2) [(0, 1, (.int .i64 1)), (1, 1, (.int .i64 2))] 2 h_24 fun t89_1 h_28 =>
  callS P F_avoid_Marks [t18, (.int .i64 2), t87] h_28 fun t88_1 h_29 =>
  callS P F_milestonelaw16_rows [t88_1, t89_1] h_29 fun t90_1 h_30 =>
  J (t90_1, ()) h_30)) ∧
  (pBuildSlice T_int (zerosL [(.int .i64 0)] 2) [(0, 1, (.int .i64 1)), (1, 1, (.int .i64 2))] 2 h_23 fun t89_2 h_31 =>
  callS P F_draw_New [t86] h_31 fun t87_1 h_32 =>
  callS P F_avoid_Marks [t18, (.int .i64 2), t87_1] h_32 fun t88_2 h_33 =>
  callS P F_milestonelaw16_rows [t88_2, t89_2] h_33 fun t90_2 h_34 =>
  J (t90_2, ()) h_34)) ∧
  (pBuildSlice T_int (zerosL [(.int .i64 0)] 2) [(0, 1, (.int .i64 1)), (1, 1, (.int .i64 2))] 2 h_22 fun t89_3 h_35 =>
  pBuildSlice T_uint32 (zerosL [(.int .u32 0)] 2) [(0, 1, (.int .u32 1)), (1, 1, (.int .u32 0))] 2 h_35 fun t86_1 h_36 =>
  callS P F_draw_New [t86_1] h_36 fun t87_2 h_37 =>
  callS P F_avoid_Marks [t18, (.int .i64 2), t87_2] h_37 fun t88_3 h_38 =>
  callS P F_milestonelaw16_rows [t88_3, t89_3] h_38 fun t90_3 h_39 =>
  J (t90_3, ()) h_39))
  ((((J ((.bool false), ()) h_22) ∧
  (J ((.bool false), ()) h_22)) ∧
  (J ((.bool false), ()) h_22)) ∧
  (J ((.bool false), ()) h_22)))
  ((((J ((.bool false), ()) h_22) ∧
  (J ((.bool false), ()) h_22)) ∧
  (J ((.bool false), ()) h_22)) ∧
  (J ((.bool false), ()) h_22)))
  ((((J ((.bool false), ()) h_22) ∧
  (J ((.bool false), ()) h_22)) ∧
  (J ((.bool false), ()) h_22)) ∧
  (J ((.bool false), ()) h_22)))
  ((((J ((.bool false), ()) h_22) ∧
  (J ((.bool false), ()) h_22)) ∧
  (J ((.bool false), ()) h_22)) ∧
  (J ((.bool false), ()) h_22)))
  (fun x hh => sh_milestonelaw16_AvoidKnown_C3 P one4 t18 K x.1 hh)

def sh_milestonelaw16_AvoidKnown (P : Program) (h : Heap) (K : Value → Heap → Prop) : Prop :=
  pBuildSlice T_int64 (zerosL [(.int .i64 0)] 3) [(0, 1, (.int .i64 0)), (1, 1, (.int .i64 0)), (2, 1, (.int .i64 0))] 3 h fun t7 h_1 =>
  pBuild [(.int .i64 0), (.slice none 0 0), (.slice none 0 0), (.slice none 0 0)] [(0, 1, (.int .i64 3)), (1, 1, t7), (2, 1, t7)] fun t10 =>
  callS P F_milestonelaw16_made [t10] h_1 fun t11 h_2 =>
  pBuild [(.int .i64 0), (.int .i64 0), (.int .i64 0)] [(0, 1, (.int .i64 0)), (1, 1, (.int .i64 1)), (2, 1, (.int .i64 2147483647))] fun t14 =>
  pBuild [(.int .i64 0), (.int .i64 0), (.int .i64 0)] [(0, 1, (.int .i64 1)), (1, 1, (.int .i64 2)), (2, 1, (.int .i64 2147483647))] fun t15 =>
  pBuildSlice T_api_Arc (zerosL [(.int .i64 0), (.int .i64 0), (.int .i64 0)] 2) [(0, 3, t14), (3, 3, t15)] 2 h_2 fun t16 h_3 =>
  pBuild [(.int .i64 0), (.slice none 0 0), (.slice none 0 0), (.slice none 0 0)] [(0, 1, (.int .i64 3)), (1, 1, t7), (2, 1, t7), (3, 1, t16)] fun t17 =>
  callS P F_milestonelaw16_made [t17] h_3 fun t18 h_4 =>
  pEq false .ptr t11 (.pointer none) fun t20 =>
  ifV t20
  (sh_milestonelaw16_AvoidKnown_k1 P K h_4)
  (pEq false .ptr t18 (.pointer none) fun t23 =>
  ifV t23
  (sh_milestonelaw16_AvoidKnown_k1 P K h_4)
  (pBuildSlice T_uint32 (zerosL [(.int .u32 0)] 1) [(0, 1, (.int .u32 5))] 1 h_4 fun t26 h_6 =>
  callS P F_draw_New [t26] h_6 fun t27 h_7 =>
  callS P F_avoid_Marks [t11, (.int .i64 9), t27] h_7 fun t28 h_8 =>
  pBuildSlice T_int (zerosL [(.int .i64 0)] 3) [(0, 1, (.int .i64 2)), (1, 1, (.int .i64 0)), (2, 1, (.int .i64 1))] 3 h_8 fun t29 h_9 =>
  callS P F_milestonelaw16_rows [t28, t29] h_9 fun t30 h_10 =>
  ifV t30
  (callS P F_avoid_Marks [t11, (.int .i64 2), (.pointer none)] h_10 fun t33 h_11 =>
  pBuildSlice T_int (zerosL [(.int .i64 0)] 2) [(0, 1, (.int .i64 0)), (1, 1, (.int .i64 1))] 2 h_11 fun t34 h_12 =>
  callS P F_milestonelaw16_rows [t33, t34] h_12 fun t35 h_13 =>
  ifV t35
  (pBuildSlice T_uint32 (zerosL [(.int .u32 0)] 1) [(0, 1, (.int .u32 1))] 1 h_13 fun t39 h_14 =>
  callS P F_draw_New [t39] h_14 fun t40 h_15 =>
  callS P F_avoid_Marks [t11, (.int .i64 0), t40] h_15 fun t41 h_16 =>
  pLen t41 fun t42 =>
  pBin .eql t42 (.int .i64 0) fun t43 =>
  ifV t43
  (callS P F_avoid_Marks [t11, (.int .i64 (-3)), (.pointer none)] h_16 fun t47 h_17 =>
  pLen t47 fun t48 =>
  pBin .eql t48 (.int .i64 0) fun t49 =>
  ifV t49
  (pBuildSlice T_uint32 (zerosL [(.int .u32 0)] 1) [(0, 1, (.int .u32 1))] 1 h_17 fun t52 h_18 =>
  callS P F_draw_New [t52] h_18 fun t53 h_19 =>
  callS P F_avoid_Marks [(.pointer none), (.int .i64 2), t53] h_19 fun t54 h_20 =>
  pLen t54 fun t55 =>
  pBin .eql t55 (.int .i64 0) fun t56 =>
  sh_milestonelaw16_AvoidKnown_k2 P t18 K t56 h_20)
  (sh_milestonelaw16_AvoidKnown_k2 P t18 K (.bool false) h_17))
  (sh_milestonelaw16_AvoidKnown_k2 P t18 K (.bool false) h_16))
  (sh_milestonelaw16_AvoidKnown_k2 P t18 K (.bool false) h_13))
  (sh_milestonelaw16_AvoidKnown_k2 P t18 K (.bool false) h_10)))

set_option maxRecDepth 100000 in
theorem lk_milestonelaw16_AvoidKnown {h : Heap} {K : Value → Heap → Prop} (H : sh_milestonelaw16_AvoidKnown Tryz.prog h K) : CallsH Tryz.prog F_milestonelaw16_AvoidKnown [].toArray h K :=
  callsH_of (ann := (annG (Tryz.f6.body.getD .skip) 0 [(9, [6])]).1) (c := Tryz.f6.body.getD .skip) Tryz.func6 (by kernel_rfl) (by kernel_rfl) (by kernel_rfl) (of_decide_eq_true (by kernel_rfl))
    (Eq.mpr (by kernel_rfl) H)

/-! milestone/milestonelaw16.drawn -/

def sh_milestonelaw16_drawn (P : Program) (b0 : Value) (h : Heap) (K : Value → Heap → Prop) : Prop :=
  pBox T_api_Raw (.agg #[(.int .i64 0), (.slice none 0 0), (.slice none 0 0), (.slice none 0 0)]) h fun t2 h_1 =>
  pLen b0 fun t6 =>
  pMin t6 (.int .i64 80) fun t7 =>
  pSlice 1 b0 none (some t7) none fun t8 =>
  pBuild [(.slice none 0 0), (.int .i64 0)] [(0, 1, t8)] fun t9 =>
  pBox T_milestoneref07_Draft t9 h_1 fun t10 h_2 =>
  callS P F_milestoneref07_Draft_Raw [t10] h_2 fun t12 h_3 =>
  pStore 4 t2 t12 h_3 fun u h_4 =>
  pLoadN 4 h_4 t2 fun res =>
  K res h_4

set_option maxRecDepth 100000 in
theorem lk_milestonelaw16_drawn (b0 : Value) {h : Heap} {K : Value → Heap → Prop} (H : sh_milestonelaw16_drawn Tryz.prog b0 h K) : CallsH Tryz.prog F_milestonelaw16_drawn [b0].toArray h K :=
  callsH_of (ann := (annG (Tryz.f7.body.getD .skip) 0 []).1) (c := Tryz.f7.body.getD .skip) Tryz.func7 (by kernel_rfl) (by kernel_rfl) (by kernel_rfl) (of_decide_eq_true (by kernel_rfl))
    (Eq.mpr (by kernel_rfl) H)

/-! milestone/milestonelaw16.made -/

def sh_milestonelaw16_made (P : Program) (g0 : Value) (h : Heap) (K : Value → Heap → Prop) : Prop :=
  pBox T_api_Raw g0 h fun g1 h_1 =>
  pLoadN 4 h_1 g1 fun t6 =>
  callS P F_net_New [t6] h_1 fun t7 h_2 =>
  pExt t7 0 fun t8 =>
  pExt t7 1 fun t9 =>
  pEq true .iface t9 .nilIface fun t11 =>
  ifV t11
  (K (.pointer none) h_2)
  (K t8 h_2)

set_option maxRecDepth 100000 in
theorem lk_milestonelaw16_made (g0 : Value) {h : Heap} {K : Value → Heap → Prop} (H : sh_milestonelaw16_made Tryz.prog g0 h K) : CallsH Tryz.prog F_milestonelaw16_made [g0].toArray h K :=
  callsH_of (ann := (annG (Tryz.f8.body.getD .skip) 0 []).1) (c := Tryz.f8.body.getD .skip) Tryz.func8 (by kernel_rfl) (by kernel_rfl) (by kernel_rfl) (of_decide_eq_true (by kernel_rfl))
    (Eq.mpr (by kernel_rfl) H)

end Go.Proofs.YtoopkllfpmjnfaaGreatDoor

namespace Go.Proofs.YtoopkllfpmjnfaaGreatDoor
open Go Go.Mh
set_option maxHeartbeats 0
set_option linter.unusedVariables false

/-! milestone/milestoneref07.Ints -/

def sh_milestoneref07_Ints_L1 (P : Program) (a0 b1 : Value) (K : Value → Heap → Prop) (i5 : Value) (h_1 : Heap) (Z : Value → Heap → Prop) : Prop :=
  pLen a0 fun t13 =>
  pBin .lss i5 t13 fun t14 =>
  ifV t14
  (pIdx 1 a0 i5 fun t19 =>
  pLoad h_1 t19 fun t20 =>
  pIdx 1 b1 i5 fun t23 =>
  pLoad h_1 t23 fun t24 =>
  pBin .neq t20 t24 fun t25 =>
  ifV t25
  (K (.bool false) h_1)
  (pBin .add i5 (.int .i64 1) fun t16 =>
  Z t16 h_1))
  (K (.bool true) h_1)

def sh_milestoneref07_Ints (P : Program) (a0 b1 : Value) (h : Heap) (K : Value → Heap → Prop) : Prop :=
  pLen a0 fun t7 =>
  pLen b1 fun t9 =>
  pBin .neq t7 t9 fun t10 =>
  ifV t10
  (K (.bool false) h)
  (LoopH (σ := Vals [5]) (fun x hh ZZ => sh_milestoneref07_Ints_L1 P a0 b1 K x.1 hh (fun a0 hz => ZZ (a0, ()) hz)) ((.int .i64 0), ()) h)

set_option maxRecDepth 100000 in
theorem lk_milestoneref07_Ints (a0 b1 : Value) {h : Heap} {K : Value → Heap → Prop} (H : sh_milestoneref07_Ints Tryz.prog a0 b1 h K) : CallsH Tryz.prog F_milestoneref07_Ints [a0, b1].toArray h K :=
  callsH_of (ann := (annG (Tryz.f9.body.getD .skip) 0 [(6, [5])]).1) (c := Tryz.f9.body.getD .skip) Tryz.func9 (by kernel_rfl) (by kernel_rfl) (by kernel_rfl) (of_decide_eq_true (by kernel_rfl))
    (Eq.mpr (by kernel_rfl) H)

/-! milestone/avoid.Marks -/

def sh_avoid_Marks_k2 (P : Program) (out6 n0 l7 : Value) (Z : Value → Value → Heap → Prop) (v8 : Value) (h_6 : Heap) : Prop :=
  pBuildSlice T_int (zerosL [(.int .i64 0)] 1) [(0, 1, v8)] 1 h_6 fun t31 h_7 =>
  pAppend T_int 1 8 [(.int .i64 0)] out6 t31 h_7 fun t32 h_8 =>
  pBuildSlice T_int (zerosL [(.int .i64 0)] 1) [(0, 1, v8)] 1 h_8 fun t36 h_9 =>
  callS P F_avoid_marks [n0, t36] h_9 fun t37 h_10 =>
  pAppend T_avoid_mark 7 152 [(.int .i64 0), (.slice none 0 0), (.slice none 0 0), (.slice none 0 0), (.slice none 0 0), (.slice none 0 0), (.slice none 0 0)] l7 t37 h_10 fun t38 h_11 =>
  Z t32 t38 h_11

def sh_avoid_Marks_L1 (P : Program) (n0 k1 d2 : Value) (K : Value → Heap → Prop) (out6 l7 : Value) (h_1 : Heap) (Z : Value → Value → Heap → Prop) : Prop :=
  pLen out6 fun t12 =>
  callS P F_net_Net_Nodes [n0] h_1 fun t15 h_2 =>
  pMin k1 t15 fun t16 =>
  pBin .lss t12 t16 fun t17 =>
  ifV t17
  (callS P F_net_Net_Nodes [n0] h_2 fun t20 h_3 =>
  callS P F_draw_Draws_Next [d2, t20] h_3 fun t21 h_4 =>
  pLen out6 fun t23 =>
  pBin .gtr t23 (.int .i64 0) fun t24 =>
  ifV t24
  (callS P F_avoid_next [n0, l7, t21] h_4 fun t28 h_5 =>
  sh_avoid_Marks_k2 P out6 n0 l7 Z t28 h_5)
  (sh_avoid_Marks_k2 P out6 n0 l7 Z t21 h_4))
  (K out6 h_2)

def sh_avoid_Marks (P : Program) (n0 k1 d2 : Value) (h : Heap) (K : Value → Heap → Prop) : Prop :=
  pEq false .ptr n0 (.pointer none) fun t10 =>
  ifV t10
  (K (.slice none 0 0) h)
  (LoopH (σ := Vals [6, 7]) (fun x hh ZZ => sh_avoid_Marks_L1 P n0 k1 d2 K x.1 x.2.1 hh (fun a0 a1 hz => ZZ (a0, (a1, ())) hz)) ((.slice none 0 0), ((.slice none 0 0), ())) h)

set_option maxRecDepth 100000 in
theorem lk_avoid_Marks (n0 k1 d2 : Value) {h : Heap} {K : Value → Heap → Prop} (H : sh_avoid_Marks Tryz.prog n0 k1 d2 h K) : CallsH Tryz.prog F_avoid_Marks [n0, k1, d2].toArray h K :=
  callsH_of (ann := (annG (Tryz.f10.body.getD .skip) 0 [(6, [6, 7])]).1) (c := Tryz.f10.body.getD .skip) Tryz.func10 (by kernel_rfl) (by kernel_rfl) (by kernel_rfl) (of_decide_eq_true (by kernel_rfl))
    (Eq.mpr (by kernel_rfl) H)

/-! milestone/draw.New -/

def sh_draw_New (P : Program) (l0 : Value) (h : Heap) (K : Value → Heap → Prop) : Prop :=
  pLen l0 fun t5 =>
  pMakeSlice T_uint32 4 [(.int .u32 0)] t5 t5 h fun t6 h_1 =>
  pCopy 1 t6 l0 h_1 fun t9 h_2 =>
  pBuild [(.slice none 0 0)] [(0, 1, t6)] fun t11 =>
  pBox T_draw_Draws t11 h_2 fun t12 h_3 =>
  K t12 h_3

set_option maxRecDepth 100000 in
theorem lk_draw_New (l0 : Value) {h : Heap} {K : Value → Heap → Prop} (H : sh_draw_New Tryz.prog l0 h K) : CallsH Tryz.prog F_draw_New [l0].toArray h K :=
  callsH_of (ann := (annG (Tryz.f11.body.getD .skip) 0 []).1) (c := Tryz.f11.body.getD .skip) Tryz.func11 (by kernel_rfl) (by kernel_rfl) (by kernel_rfl) (of_decide_eq_true (by kernel_rfl))
    (Eq.mpr (by kernel_rfl) H)

/-! milestone/milestoneref16.Marks -/

def sh_milestoneref16_Marks_k2 (P : Program) (out8 : Value) (Z : Value → Heap → Prop) (r9 : Value) (h_6 : Heap) : Prop :=
  pBuildSlice T_int (zerosL [(.int .i64 0)] 1) [(0, 1, r9)] 1 h_6 fun t37 h_7 =>
  pAppend T_int 1 8 [(.int .i64 0)] out8 t37 h_7 fun t38 h_8 =>
  Z t38 h_8

def sh_milestoneref16_Marks_k3 (P : Program) (K : Value → Heap → Prop) (out8 : Value) (h_9 : Heap) : Prop :=
  K out8 h_9

def sh_milestoneref16_Marks_L1 (P : Program) (k1 g3 t12 : Value) (K : Value → Heap → Prop) (out8 : Value) (h_3 : Heap) (Z : Value → Heap → Prop) : Prop :=
  pLen out8 fun t14 =>
  pBin .lss t14 k1 fun t16 =>
  ifV t16
  (pLen out8 fun t19 =>
  pField 0 g3 fun t20 =>
  pLoad h_3 t20 fun t21 =>
  pBin .lss t19 t21 fun t22 =>
  ifV t22
  (pField 0 g3 fun t25 =>
  pLoad h_3 t25 fun t26 =>
  callS P F_milestoneref05_Draws_Next [t12, t26] h_3 fun t27 h_4 =>
  pLen out8 fun t29 =>
  pBin .gtr t29 (.int .i64 0) fun t30 =>
  ifV t30
  (pLoadN 4 h_4 g3 fun t31 =>
  callS P F_milestoneref16_next [t31, out8, t27] h_4 fun t34 h_5 =>
  sh_milestoneref16_Marks_k2 P out8 Z t34 h_5)
  (sh_milestoneref16_Marks_k2 P out8 Z t27 h_4))
  (sh_milestoneref16_Marks_k3 P K out8 h_3))
  (sh_milestoneref16_Marks_k3 P K out8 h_3)

def sh_milestoneref16_Marks (P : Program) (g0 k1 draws2 : Value) (h : Heap) (K : Value → Heap → Prop) : Prop :=
  pBox T_api_Raw g0 h fun g3 h_1 =>
  pBuild [(.slice none 0 0), (.int .i64 0)] [(0, 1, draws2)] fun t11 =>
  pBox T_milestoneref05_Draws t11 h_1 fun t12 h_2 =>
  LoopH (σ := Vals [8]) (fun x hh ZZ => sh_milestoneref16_Marks_L1 P k1 g3 t12 K x.1 hh (fun a0 hz => ZZ (a0, ()) hz)) ((.slice none 0 0), ()) h_2

set_option maxRecDepth 100000 in
theorem lk_milestoneref16_Marks (g0 k1 draws2 : Value) {h : Heap} {K : Value → Heap → Prop} (H : sh_milestoneref16_Marks Tryz.prog g0 k1 draws2 h K) : CallsH Tryz.prog F_milestoneref16_Marks [g0, k1, draws2].toArray h K :=
  callsH_of (ann := (annG (Tryz.f12.body.getD .skip) 0 [(4, [8])]).1) (c := Tryz.f12.body.getD .skip) Tryz.func12 (by kernel_rfl) (by kernel_rfl) (by kernel_rfl) (of_decide_eq_true (by kernel_rfl))
    (Eq.mpr (by kernel_rfl) H)

/-! milestone/avoid.Sizes -/

def sh_avoid_Sizes (P : Program) (n0 l1 r2 : Value) (h : Heap) (K : Value → Heap → Prop) : Prop :=
  callS P F_avoid_there [n0, r2] h fun t9 h_1 =>
  pUn .not t9 fun t10 =>
  ifV t10
  (K (.slice none 0 0) h_1)
  (callS P F_avoid_marks [n0, l1] h_1 fun t14 h_2 =>
  callS P F_avoid_grow [n0, t14, r2] h_2 fun t16 h_3 =>
  pNil t16 fun t17 =>
  pField 4 t17 fun t18 =>
  pLoad h_3 t18 fun t19 =>
  K t19 h_3)

set_option maxRecDepth 100000 in
theorem lk_avoid_Sizes (n0 l1 r2 : Value) {h : Heap} {K : Value → Heap → Prop} (H : sh_avoid_Sizes Tryz.prog n0 l1 r2 h K) : CallsH Tryz.prog F_avoid_Sizes [n0, l1, r2].toArray h K :=
  callsH_of (ann := (annG (Tryz.f13.body.getD .skip) 0 []).1) (c := Tryz.f13.body.getD .skip) Tryz.func13 (by kernel_rfl) (by kernel_rfl) (by kernel_rfl) (of_decide_eq_true (by kernel_rfl))
    (Eq.mpr (by kernel_rfl) H)

/-! milestone/milestoneref16.Sizes -/

def sh_milestoneref16_Sizes_k4 (P : Program) (i13 : Value) (Z_1 : Value → Value → Value → Heap → Prop) (marked12_1 size10_1 : Value) (h_12 : Heap) : Prop :=
  pBin .add i13 (.int .i64 1) fun t42 =>
  Z_1 size10_1 marked12_1 t42 h_12

def sh_milestoneref16_Sizes_k3 (P : Program) (t36 i13 r2 x7 g3 marks1 size10 : Value) (Z_1 : Value → Value → Value → Heap → Prop) (marked12_1 : Value) (h_9 : Heap) : Prop :=
  pIdx 1 t36 i13 fun t54 =>
  pLoad h_9 t54 fun t55 =>
  pBin .neq t55 r2 fun t57 =>
  ifV t57
  (pField 0 x7 fun t59 =>
  pLoad h_9 t59 fun t60 =>
  pIdx 1 t36 i13 fun t63 =>
  pLoad h_9 t63 fun t64 =>
  pIdx 1 t60 t64 fun t65 =>
  pLoad h_9 t65 fun t66 =>
  pLoadN 4 h_9 g3 fun t67 =>
  pIdx 1 t36 i13 fun t72 =>
  pLoad h_9 t72 fun t73 =>
  callS P F_milestoneref16_Bound [t67, marks1, r2, t73] h_9 fun t74 h_10 =>
  (pLoad h_10 t59 fun t60_1 =>
  t60_1 = t60) ∧
  (pLoad h_10 t63 fun t64_1 =>
  t64_1 = t64) ∧
  (pLoad h_10 t65 fun t66_1 =>
  t66_1 = t66) ∧
  (pBin .sub t66 t74 fun t75 =>
  callS P F_milestoneref04_Sat [size10, t75] h_10 fun t76 h_11 =>
  sh_milestoneref16_Sizes_k4 P i13 Z_1 marked12_1 t76 h_11))
  (sh_milestoneref16_Sizes_k4 P i13 Z_1 marked12_1 size10 h_9)

def sh_milestoneref16_Sizes_k5 (P : Program) (out8 v9 : Value) (Z : Value → Value → Heap → Prop) (size10_2 : Value) (h_14 : Heap) : Prop :=
  pBuildSlice T_int64 (zerosL [(.int .i64 0)] 1) [(0, 1, size10_2)] 1 h_14 fun t80 h_15 =>
  pAppend T_int64 1 8 [(.int .i64 0)] out8 t80 h_15 fun t81 h_16 =>
  pBin .add v9 (.int .i64 1) fun t26 =>
  Z t81 t26 h_16

def sh_milestoneref16_Sizes_L2 (P : Program) (t36 r2 x7 g3 marks1 out8 v9 : Value) (Z : Value → Value → Heap → Prop) (size10 marked12 i13 : Value) (h_8 : Heap) (Z_1 : Value → Value → Value → Heap → Prop) : Prop :=
  pLen t36 fun t39 =>
  pBin .lss i13 t39 fun t40 =>
  ifV t40
  (ifV marked12
  (sh_milestoneref16_Sizes_k3 P t36 i13 r2 x7 g3 marks1 size10 Z_1 (.bool true) h_8)
  (pIdx 1 t36 i13 fun t48 =>
  pLoad h_8 t48 fun t49 =>
  callS P F_milestoneref16_in [marks1, t49] h_8 fun t50 h_13 =>
  sh_milestoneref16_Sizes_k3 P t36 i13 r2 x7 g3 marks1 size10 Z_1 t50 h_13))
  (ifV marked12
  (sh_milestoneref16_Sizes_k5 P out8 v9 Z (.int .i64 0) h_8)
  (sh_milestoneref16_Sizes_k5 P out8 v9 Z size10 h_8))

def sh_milestoneref16_Sizes_L1 (P : Program) (g3 x7 r2 marks1 : Value) (K : Value → Heap → Prop) (out8 v9 : Value) (h_6 : Heap) (Z : Value → Value → Heap → Prop) : Prop :=
  pField 0 g3 fun t22 =>
  pLoad h_6 t22 fun t23 =>
  pBin .lss v9 t23 fun t24 =>
  ifV t24
  (pField 0 x7 fun t27 =>
  pLoad h_6 t27 fun t28 =>
  pIdx 1 t28 v9 fun t30 =>
  pLoad h_6 t30 fun t31 =>
  pBin .lss t31 (.int .i64 72057594037927936) fun t32 =>
  ifV t32
  (pLoadN 4 h_6 g3 fun t33 =>
  pLoadN 3 h_6 x7 fun t34 =>
  callS P F_milestoneref16_Part [t33, t34, v9] h_6 fun t36 h_7 =>
  LoopH (σ := Vals [10, 12, 13]) (fun x hh ZZ => sh_milestoneref16_Sizes_L2 P t36 r2 x7 g3 marks1 out8 v9 Z x.1 x.2.1 x.2.2.1 hh (fun a0 a1 a2 hz => ZZ (a0, (a1, (a2, ()))) hz)) ((.int .i64 0), ((.bool false), ((.int .i64 0), ()))) h_7)
  (sh_milestoneref16_Sizes_k5 P out8 v9 Z (.int .i64 0) h_6))
  (K out8 h_6)

def sh_milestoneref16_Sizes (P : Program) (g0 marks1 r2 : Value) (h : Heap) (K : Value → Heap → Prop) : Prop :=
  pBox T_api_Raw g0 h fun g3 h_1 =>
  pLoadN 4 h_1 g3 fun t14 =>
  callS P F_milestoneref16_there [t14, r2] h_1 fun t16 h_2 =>
  pUn .not t16 fun t17 =>
  ifV t17
  (K (.slice none 0 0) h_2)
  (pLoadN 4 h_2 g3 fun t18 =>
  callS P F_milestoneref10_From [t18, r2] h_2 fun t20 h_3 =>
  pBox T_milestoneref10_Tree (.agg #[(.slice none 0 0), (.slice none 0 0), (.slice none 0 0)]) h_3 fun x7 h_4 =>
  pStore 3 x7 t20 h_4 fun u h_5 =>
  LoopH (σ := Vals [8, 9]) (fun x hh ZZ => sh_milestoneref16_Sizes_L1 P g3 x7 r2 marks1 K x.1 x.2.1 hh (fun a0 a1 hz => ZZ (a0, (a1, ())) hz)) ((.slice none 0 0), ((.int .i64 0), ())) h_5)

set_option maxRecDepth 100000 in
theorem lk_milestoneref16_Sizes (g0 marks1 r2 : Value) {h : Heap} {K : Value → Heap → Prop} (H : sh_milestoneref16_Sizes Tryz.prog g0 marks1 r2 h K) : CallsH Tryz.prog F_milestoneref16_Sizes [g0, marks1, r2].toArray h K :=
  callsH_of (ann := (annG (Tryz.f14.body.getD .skip) 0 [(8, [8, 9]), (19, [10, 12, 13])]).1) (c := Tryz.f14.body.getD .skip) Tryz.func14 (by kernel_rfl) (by kernel_rfl) (by kernel_rfl) (of_decide_eq_true (by kernel_rfl))
    (Eq.mpr (by kernel_rfl) H)

/-! milestone/avoid.Bound -/

def sh_avoid_Bound_k1 (P : Program) (K : Value → Heap → Prop) (h_2 : Heap) : Prop :=
  K (.int .i64 0) h_2

def sh_avoid_Bound (P : Program) (n0 l1 r2 v3 : Value) (h : Heap) (K : Value → Heap → Prop) : Prop :=
  callS P F_avoid_there [n0, r2] h fun t11 h_1 =>
  pUn .not t11 fun t12 =>
  ifV t12
  (sh_avoid_Bound_k1 P K h_1)
  (callS P F_avoid_there [n0, v3] h_1 fun t16 h_3 =>
  pUn .not t16 fun t17 =>
  ifV t17
  (sh_avoid_Bound_k1 P K h_3)
  (callS P F_avoid_marks [n0, l1] h_3 fun t21 h_4 =>
  callS P F_avoid_bound [t21, r2, v3] h_4 fun t24 h_5 =>
  K t24 h_5))

set_option maxRecDepth 100000 in
theorem lk_avoid_Bound (n0 l1 r2 v3 : Value) {h : Heap} {K : Value → Heap → Prop} (H : sh_avoid_Bound Tryz.prog n0 l1 r2 v3 h K) : CallsH Tryz.prog F_avoid_Bound [n0, l1, r2, v3].toArray h K :=
  callsH_of (ann := (annG (Tryz.f15.body.getD .skip) 0 []).1) (c := Tryz.f15.body.getD .skip) Tryz.func15 (by kernel_rfl) (by kernel_rfl) (by kernel_rfl) (of_decide_eq_true (by kernel_rfl))
    (Eq.mpr (by kernel_rfl) H)

/-! milestone/milestoneref16.Bound -/

def sh_milestoneref16_Bound_k2 (P : Program) (i10 : Value) (Z : Value → Value → Heap → Prop) (best9_1 : Value) (h_10 : Heap) : Prop :=
  pBin .add i10 (.int .i64 1) fun t28 =>
  Z best9_1 t28 h_10

def sh_milestoneref16_Bound_k3 (P : Program) (K : Value → Heap → Prop) (best9 : Value) (h_11 : Heap) : Prop :=
  K best9 h_11

def sh_milestoneref16_Bound_L1 (P : Program) (marks1 g4 r2 v3 : Value) (K : Value → Heap → Prop) (best9 i10 : Value) (h_2 : Heap) (Z : Value → Value → Heap → Prop) : Prop :=
  pLen marks1 fun t15 =>
  pBin .lss i10 t15 fun t16 =>
  ifV t16
  (pLoadN 4 h_2 g4 fun t18 =>
  callS P F_milestoneref16_there [t18, r2] h_2 fun t20 h_3 =>
  ifV t20
  (pLoadN 4 h_3 g4 fun t23 =>
  callS P F_milestoneref16_there [t23, v3] h_3 fun t25 h_4 =>
  ifV t25
  (pLoadN 4 h_4 g4 fun t29 =>
  pIdx 1 marks1 i10 fun t32 =>
  pLoad h_4 t32 fun t33 =>
  callS P F_milestoneref16_there [t29, t33] h_4 fun t34 h_5 =>
  ifV t34
  (pLoadN 4 h_5 g4 fun t35 =>
  pIdx 1 marks1 i10 fun t38 =>
  pLoad h_5 t38 fun t39 =>
  pLoadN 4 h_5 g4 fun t42 =>
  pIdx 1 marks1 i10 fun t45 =>
  pLoad h_5 t45 fun t46 =>
  callS P F_milestoneref10_To [t35, t39] h_5 fun t40 h_6 =>
  (pLoadN 4 h_6 g4 fun t42_1 =>
  t42_1 = t42) ∧
  (pLoad h_6 t45 fun t46_1 =>
  t46_1 = t46) ∧
  (pPart1 0 t40 fun t41 =>
  callS P F_milestoneref10_From [t42, t46] h_6 fun t47 h_7 =>
  pPart1 0 t47 fun t48 =>
  pIdx 1 t41 r2 fun t52 =>
  pLoad h_7 t52 fun t53 =>
  pIdx 1 t41 v3 fun t56 =>
  pLoad h_7 t56 fun t57 =>
  pIdx 1 t48 r2 fun t61 =>
  pLoad h_7 t61 fun t62 =>
  pIdx 1 t48 v3 fun t65 =>
  pLoad h_7 t65 fun t66 =>
  callS P F_milestoneref04_Low [t53, t57] h_7 fun t58 h_8 =>
  (pLoad h_8 t61 fun t62_1 =>
  t62_1 = t62) ∧
  (pLoad h_8 t65 fun t66_1 =>
  t66_1 = t66) ∧
  (callS P F_milestoneref04_Lift [t62, t66] h_8 fun t67 h_9 =>
  pMax best9 t58 fun u =>
  pMax u t67 fun t68 =>
  sh_milestoneref16_Bound_k2 P i10 Z t68 h_9)))
  (sh_milestoneref16_Bound_k2 P i10 Z best9 h_5))
  (sh_milestoneref16_Bound_k3 P K best9 h_4))
  (sh_milestoneref16_Bound_k3 P K best9 h_3))
  (sh_milestoneref16_Bound_k3 P K best9 h_2)

def sh_milestoneref16_Bound (P : Program) (g0 marks1 r2 v3 : Value) (h : Heap) (K : Value → Heap → Prop) : Prop :=
  pBox T_api_Raw g0 h fun g4 h_1 =>
  LoopH (σ := Vals [9, 10]) (fun x hh ZZ => sh_milestoneref16_Bound_L1 P marks1 g4 r2 v3 K x.1 x.2.1 hh (fun a0 a1 hz => ZZ (a0, (a1, ())) hz)) ((.int .i64 0), ((.int .i64 0), ())) h_1

set_option maxRecDepth 100000 in
theorem lk_milestoneref16_Bound (g0 marks1 r2 v3 : Value) {h : Heap} {K : Value → Heap → Prop} (H : sh_milestoneref16_Bound Tryz.prog g0 marks1 r2 v3 h K) : CallsH Tryz.prog F_milestoneref16_Bound [g0, marks1, r2, v3].toArray h K :=
  callsH_of (ann := (annG (Tryz.f16.body.getD .skip) 0 [(4, [9, 10])]).1) (c := Tryz.f16.body.getD .skip) Tryz.func16 (by kernel_rfl) (by kernel_rfl) (by kernel_rfl) (of_decide_eq_true (by kernel_rfl))
    (Eq.mpr (by kernel_rfl) H)

/-! milestone/milestonelaw16.works -/

def sh_milestonelaw16_works_k1 (P : Program) (t15 t21 : Value) (K : Value → Heap → Prop) (bounds5 : Value) (h_9 : Heap) : Prop :=
  pBuildSlice T_uint32 (zerosL [(.int .u32 0)] 1) [(0, 1, (.int .u32 6))] 1 h_9 fun t39 h_10 =>
  callS P F_draw_New [t39] h_10 fun t40 h_11 =>
  callS P F_avoid_Marks [t15, (.int .i64 1), t40] h_11 fun t41 h_12 =>
  pBuildSlice T_int (zerosL [(.int .i64 0)] 1) [(0, 1, (.int .i64 2))] 1 h_12 fun t42 h_13 =>
  callS P F_milestonelaw16_rows [t41, t42] h_13 fun t43 h_14 =>
  ifV t43
  (ifV bounds5
  (pLen t21 fun t49 =>
  pBin .eql t49 (.int .i64 4) fun t50 =>
  ifV t50
  (pIdx 1 t21 (.int .i64 0) fun t54 =>
  pLoad h_14 t54 fun t55 =>
  pBin .eql t55 (.int .i64 0) fun t56 =>
  ifV t56
  (pIdx 1 t21 (.int .i64 1) fun t60 =>
  pLoad h_14 t60 fun t61 =>
  pBin .eql t61 (.int .i64 0) fun t62 =>
  ifV t62
  (pIdx 1 t21 (.int .i64 2) fun t66 =>
  pLoad h_14 t66 fun t67 =>
  pBin .eql t67 (.int .i64 0) fun t68 =>
  ifV t68
  (pIdx 1 t21 (.int .i64 3) fun t72 =>
  pLoad h_14 t72 fun t73 =>
  pBin .eql t73 (.int .i64 1) fun t74 =>
  ifV t74
  (pBuildSlice T_uint32 (zerosL [(.int .u32 0)] 2) [(0, 1, (.int .u32 6)), (1, 1, (.int .u32 0))] 2 h_14 fun t78 h_15 =>
  callS P F_draw_New [t78] h_15 fun t79 h_16 =>
  callS P F_avoid_Marks [t15, (.int .i64 2), t79] h_16 fun t80 h_17 =>
  pBuildSlice T_int (zerosL [(.int .i64 0)] 2) [(0, 1, (.int .i64 2)), (1, 1, (.int .i64 3))] 2 h_17 fun t81 h_18 =>
  callS P F_milestonelaw16_rows [t80, t81] h_18 fun t82 h_19 =>
  K t82 h_19)
  (K (.bool false) h_14))
  (K (.bool false) h_14))
  (K (.bool false) h_14))
  (K (.bool false) h_14))
  (K (.bool false) h_14))
  (K (.bool false) h_14))
  (K (.bool false) h_14)

def sh_milestonelaw16_works (P : Program) (h : Heap) (K : Value → Heap → Prop) : Prop :=
  pBuildSlice T_int64 (zerosL [(.int .i64 0)] 4) [(0, 1, (.int .i64 0)), (1, 1, (.int .i64 0)), (2, 1, (.int .i64 0)), (3, 1, (.int .i64 0))] 4 h fun t6 h_1 =>
  pBuild [(.int .i64 0), (.int .i64 0), (.int .i64 0)] [(0, 1, (.int .i64 0)), (1, 1, (.int .i64 1)), (2, 1, (.int .i64 5))] fun t9 =>
  pBuild [(.int .i64 0), (.int .i64 0), (.int .i64 0)] [(0, 1, (.int .i64 1)), (1, 1, (.int .i64 2)), (2, 1, (.int .i64 4))] fun t10 =>
  pBuild [(.int .i64 0), (.int .i64 0), (.int .i64 0)] [(0, 1, (.int .i64 0)), (1, 1, (.int .i64 3)), (2, 1, (.int .i64 1))] fun t11 =>
  pBuild [(.int .i64 0), (.int .i64 0), (.int .i64 0)] [(0, 1, (.int .i64 3)), (1, 1, (.int .i64 0)), (2, 1, (.int .i64 2))] fun t12 =>
  pBuildSlice T_api_Arc (zerosL [(.int .i64 0), (.int .i64 0), (.int .i64 0)] 4) [(0, 3, t9), (3, 3, t10), (6, 3, t11), (9, 3, t12)] 4 h_1 fun t13 h_2 =>
  pBuild [(.int .i64 0), (.slice none 0 0), (.slice none 0 0), (.slice none 0 0)] [(0, 1, (.int .i64 4)), (1, 1, t6), (2, 1, t6), (3, 1, t13)] fun t14 =>
  callS P F_milestonelaw16_made [t14] h_2 fun t15 h_3 =>
  pEq false .ptr t15 (.pointer none) fun t17 =>
  ifV t17
  (K (.bool false) h_3)
  (pBuildSlice T_int (zerosL [(.int .i64 0)] 1) [(0, 1, (.int .i64 2))] 1 h_3 fun t18 h_4 =>
  callS P F_avoid_Sizes [t15, t18, (.int .i64 0)] h_4 fun t21 h_5 =>
  callS P F_avoid_Bound [t15, t18, (.int .i64 0), (.int .i64 2)] h_5 fun t24 h_6 =>
  pBin .eql t24 (.int .i64 9) fun t25 =>
  ifV t25
  (callS P F_avoid_Bound [t15, t18, (.int .i64 0), (.int .i64 1)] h_6 fun t29 h_7 =>
  pBin .eql t29 (.int .i64 5) fun t30 =>
  ifV t30
  (callS P F_avoid_Bound [t15, t18, (.int .i64 0), (.int .i64 3)] h_7 fun t35 h_8 =>
  pBin .eql t35 (.int .i64 0) fun t36 =>
  sh_milestonelaw16_works_k1 P t15 t21 K t36 h_8)
  (sh_milestonelaw16_works_k1 P t15 t21 K (.bool false) h_7))
  (sh_milestonelaw16_works_k1 P t15 t21 K (.bool false) h_6))

set_option maxRecDepth 100000 in
theorem lk_milestonelaw16_works {h : Heap} {K : Value → Heap → Prop} (H : sh_milestonelaw16_works Tryz.prog h K) : CallsH Tryz.prog F_milestonelaw16_works [].toArray h K :=
  callsH_of (ann := (annG (Tryz.f17.body.getD .skip) 0 []).1) (c := Tryz.f17.body.getD .skip) Tryz.func17 (by kernel_rfl) (by kernel_rfl) (by kernel_rfl) (of_decide_eq_true (by kernel_rfl))
    (Eq.mpr (by kernel_rfl) H)

/-! milestone/flood.From -/

def sh_flood_From (P : Program) (n0 s1 : Value) (h : Heap) (K : Value → Heap → Prop) : Prop :=
  pBox T_flood_Tree (.agg #[(.slice none 0 0), (.slice none 0 0), (.slice none 0 0)]) h fun t4 h_1 =>
  callS P F_flood_flood [n0, s1, (.func (.func F_net_Net_Out) #[n0] #[]), (.func (.func F_flood_From_1) #[] #[])] h_1 fun t9 h_2 =>
  pStore 3 t4 t9 h_2 fun u h_3 =>
  pLoadN 3 h_3 t4 fun res =>
  K res h_3

set_option maxRecDepth 100000 in
theorem lk_flood_From (n0 s1 : Value) {h : Heap} {K : Value → Heap → Prop} (H : sh_flood_From Tryz.prog n0 s1 h K) : CallsH Tryz.prog F_flood_From [n0, s1].toArray h K :=
  callsH_of (ann := (annG (Tryz.f18.body.getD .skip) 0 []).1) (c := Tryz.f18.body.getD .skip) Tryz.func18 (by kernel_rfl) (by kernel_rfl) (by kernel_rfl) (of_decide_eq_true (by kernel_rfl))
    (Eq.mpr (by kernel_rfl) H)

/-! (*milestone/draw.Draws).Next -/

def sh_draw_Draws_Next_k1 (P : Program) (K : Value → Heap → Prop) (h_1 : Heap) : Prop :=
  K (.int .i64 0) h_1

def sh_draw_Draws_Next (P : Program) (d0 n1 : Value) (h : Heap) (K : Value → Heap → Prop) : Prop :=
  pBin .lss n1 (.int .i64 1) fun t7 =>
  ifV t7
  (sh_draw_Draws_Next_k1 P K h)
  (callS P F_draw_Draws_Left [d0] h fun t10 h_2 =>
  pBin .eql t10 (.int .i64 0) fun t11 =>
  ifV t11
  (sh_draw_Draws_Next_k1 P K h_2)
  (pNil d0 fun t16 =>
  pField 0 t16 fun t17 =>
  pLoad h_2 t17 fun t18 =>
  callS P F_draw_first_uint32 [t18] h_2 fun t19 h_3 =>
  pExt t19 0 fun t20 =>
  pExt t19 1 fun t21 =>
  pNil d0 fun t22 =>
  pField 0 t22 fun t23 =>
  pStore 1 t23 t21 h_3 fun u h_4 =>
  pConv .i64 t20 fun t25 =>
  pBin .rem t25 n1 fun t27 =>
  K t27 h_4))

set_option maxRecDepth 100000 in
theorem lk_draw_Draws_Next (d0 n1 : Value) {h : Heap} {K : Value → Heap → Prop} (H : sh_draw_Draws_Next Tryz.prog d0 n1 h K) : CallsH Tryz.prog F_draw_Draws_Next [d0, n1].toArray h K :=
  callsH_of (ann := (annG (Tryz.f19.body.getD .skip) 0 []).1) (c := Tryz.f19.body.getD .skip) Tryz.func19 (by kernel_rfl) (by kernel_rfl) (by kernel_rfl) (of_decide_eq_true (by kernel_rfl))
    (Eq.mpr (by kernel_rfl) H)

/-! milestone/milestonelaw16.rows -/

def sh_milestonelaw16_rows_L1 (P : Program) (a0 b1 : Value) (K : Value → Heap → Prop) (i5 : Value) (h_1 : Heap) (Z : Value → Heap → Prop) : Prop :=
  pLen a0 fun t13 =>
  pBin .lss i5 t13 fun t14 =>
  ifV t14
  (pIdx 1 a0 i5 fun t19 =>
  pLoad h_1 t19 fun t20 =>
  pIdx 1 b1 i5 fun t23 =>
  pLoad h_1 t23 fun t24 =>
  pBin .neq t20 t24 fun t25 =>
  ifV t25
  (K (.bool false) h_1)
  (pBin .add i5 (.int .i64 1) fun t16 =>
  Z t16 h_1))
  (K (.bool true) h_1)

def sh_milestonelaw16_rows (P : Program) (a0 b1 : Value) (h : Heap) (K : Value → Heap → Prop) : Prop :=
  pLen a0 fun t7 =>
  pLen b1 fun t9 =>
  pBin .neq t7 t9 fun t10 =>
  ifV t10
  (K (.bool false) h)
  (LoopH (σ := Vals [5]) (fun x hh ZZ => sh_milestonelaw16_rows_L1 P a0 b1 K x.1 hh (fun a0 hz => ZZ (a0, ()) hz)) ((.int .i64 0), ()) h)

set_option maxRecDepth 100000 in
theorem lk_milestonelaw16_rows (a0 b1 : Value) {h : Heap} {K : Value → Heap → Prop} (H : sh_milestonelaw16_rows Tryz.prog a0 b1 h K) : CallsH Tryz.prog F_milestonelaw16_rows [a0, b1].toArray h K :=
  callsH_of (ann := (annG (Tryz.f20.body.getD .skip) 0 [(6, [5])]).1) (c := Tryz.f20.body.getD .skip) Tryz.func20 (by kernel_rfl) (by kernel_rfl) (by kernel_rfl) (of_decide_eq_true (by kernel_rfl))
    (Eq.mpr (by kernel_rfl) H)

/-! (*milestone/milestoneref07.Draft).Raw -/

def sh_milestoneref07_Draft_Raw_k7 (P : Program) (i8 : Value) (Z_2 : Value → Heap → Prop) (h_52 : Heap) : Prop :=
  pBin .add i8 (.int .i64 1) fun t83 =>
  Z_2 t83 h_52

def sh_milestoneref07_Draft_Raw_C6 (P : Program) (g3 d0 i8 : Value) (Z_2 : Value → Heap → Prop) (a9_4 : Value) (h_44 : Heap) : Prop :=
  pField 3 g3 fun t95 =>
  pLoad h_44 t95 fun t96 =>
  pLoadN 3 h_44 a9_4 fun t97 =>
  pBuildSlice T_api_Arc (zerosL [(.int .i64 0), (.int .i64 0), (.int .i64 0)] 1) [(0, 3, t97)] 1 h_44 fun t98 h_45 =>
  pAppend T_api_Arc 3 24 [(.int .i64 0), (.int .i64 0), (.int .i64 0)] t96 t98 h_45 fun t99 h_46 =>
  pField 3 g3 fun t100 =>
  pStore 1 t100 t99 h_46 fun u_10 h_47 =>
  callS P F_milestoneref07_Draft_Next [d0, (.int .i64 4)] h_47 fun t102 h_48 =>
  pBin .eql t102 (.int .i64 0) fun t103 =>
  ifV t103
  (pField 3 g3 fun t104 =>
  pLoad h_48 t104 fun t105 =>
  pField 1 a9_4 fun t106 =>
  pLoad h_48 t106 fun t107 =>
  pField 0 a9_4 fun t108 =>
  pLoad h_48 t108 fun t109 =>
  pField 2 a9_4 fun t110 =>
  pLoad h_48 t110 fun t111 =>
  pBuild [(.int .i64 0), (.int .i64 0), (.int .i64 0)] [(0, 1, t107), (1, 1, t109), (2, 1, t111)] fun t112 =>
  pBuildSlice T_api_Arc (zerosL [(.int .i64 0), (.int .i64 0), (.int .i64 0)] 1) [(0, 3, t112)] 1 h_48 fun t113 h_49 =>
  pAppend T_api_Arc 3 24 [(.int .i64 0), (.int .i64 0), (.int .i64 0)] t105 t113 h_49 fun t114 h_50 =>
  pField 3 g3 fun t115 =>
  pStore 1 t115 t114 h_50 fun u_11 h_51 =>
  sh_milestoneref07_Draft_Raw_k7 P i8 Z_2 h_51)
  (sh_milestoneref07_Draft_Raw_k7 P i8 Z_2 h_48)

def sh_milestoneref07_Draft_Raw_L5 (P : Program) (t52 g3 d0 t2 : Value) (K : Value → Heap → Prop) (i8 : Value) (h_26 : Heap) (Z_2 : Value → Heap → Prop) : Prop :=
  pBin .lss i8 t52 fun t81 =>
  ifV t81
  (cutP (σ := Vals [9]) (fun J =>
  pField 0 g3 fun t85 =>
  pLoad h_26 t85 fun t86 =>
  pField 0 g3 fun t89 =>
  pLoad h_26 t89 fun t90 =>
  (callS P F_milestoneref07_Draft_Next [d0, t86] h_26 fun t87 h_27 =>
  (pLoad h_27 t89 fun t90_1 =>
  t90_1 = t90) ∧
  ((callS P F_milestoneref07_Draft_Next [d0, t90] h_27 fun t91 h_28 =>
  (callS P F_milestoneref07_Draft_Weight [d0] h_28 fun t93 h_29 =>
  pBuild [(.int .i64 0), (.int .i64 0), (.int .i64 0)] [(0, 1, t87), (1, 1, t91), (2, 1, t93)] fun t94 =>
  pBox T_api_Arc (.agg #[(.int .i64 0), (.int .i64 0), (.int .i64 0)]) h_29 fun a9 h_30 =>
  pStore 3 a9 t94 h_30 fun u_6 h_31 =>
  J (a9, ()) h_31) ∧
  (pBox T_api_Arc (.agg #[(.int .i64 0), (.int .i64 0), (.int .i64 0)]) h_28 fun a9_1 h_32 =>
  callS P F_milestoneref07_Draft_Weight [d0] h_32 fun t93_1 h_33 =>
  pBuild [(.int .i64 0), (.int .i64 0), (.int .i64 0)] [(0, 1, t87), (1, 1, t91), (2, 1, t93_1)] fun t94_1 =>
  pStore 3 a9_1 t94_1 h_33 fun u_7 h_34 =>
  J (a9_1, ()) h_34)) ∧
  (pBox T_api_Arc (.agg #[(.int .i64 0), (.int .i64 0), (.int .i64 0)]) h_27 fun a9_2 h_35 =>
  callS P F_milestoneref07_Draft_Next [d0, t90] h_35 fun t91_1 h_36 =>
  callS P F_milestoneref07_Draft_Weight [d0] h_36 fun t93_2 h_37 =>
  pBuild [(.int .i64 0), (.int .i64 0), (.int .i64 0)] [(0, 1, t87), (1, 1, t91_1), (2, 1, t93_2)] fun t94_2 =>
  pStore 3 a9_2 t94_2 h_37 fun u_8 h_38 =>
  J (a9_2, ()) h_38))) ∧
  (pBox T_api_Arc (.agg #[(.int .i64 0), (.int .i64 0), (.int .i64 0)]) h_26 fun a9_3 h_39 =>
  callS P F_milestoneref07_Draft_Next [d0, t86] h_39 fun t87_1 h_40 =>
  (pLoad h_40 t89 fun t90_2 =>
  t90_2 = t90) ∧
  (callS P F_milestoneref07_Draft_Next [d0, t90] h_40 fun t91_2 h_41 =>
  callS P F_milestoneref07_Draft_Weight [d0] h_41 fun t93_3 h_42 =>
  pBuild [(.int .i64 0), (.int .i64 0), (.int .i64 0)] [(0, 1, t87_1), (1, 1, t91_2), (2, 1, t93_3)] fun t94_3 =>
  pStore 3 a9_3 t94_3 h_42 fun u_9 h_43 =>
  J (a9_3, ()) h_43)))
  (fun x hh => sh_milestoneref07_Draft_Raw_C6 P g3 d0 i8 Z_2 x.1 hh))
  (pLoadN 4 h_26 g3 fun t116 =>
  pStore 4 t2 t116 h_26 fun u_12 h_53 =>
  pLoadN 4 h_53 t2 fun res =>
  K res h_53)

def sh_milestoneref07_Draft_Raw_k4 (P : Program) (t52 g3 d0 t2 : Value) (K : Value → Heap → Prop) (h_25 : Heap) : Prop :=
  LoopH (σ := Vals [8]) (fun x hh ZZ => sh_milestoneref07_Draft_Raw_L5 P t52 g3 d0 t2 K x.1 hh (fun a0 hz => ZZ (a0, ()) hz)) ((.int .i64 0), ()) h_25

def sh_milestoneref07_Draft_Raw_L3 (P : Program) (g3 t55 d0 t52 t2 : Value) (K : Value → Heap → Prop) (v7 : Value) (h_20 : Heap) (Z_1 : Value → Heap → Prop) : Prop :=
  pField 0 g3 fun t57 =>
  pLoad h_20 t57 fun t58 =>
  pBin .lss v7 t58 fun t59 =>
  ifV t59
  (ifV t55
  (pField 3 g3 fun t65 =>
  pLoad h_20 t65 fun t66 =>
  pBin .add v7 (.int .i64 1) fun t69 =>
  pField 0 g3 fun t70 =>
  pLoad h_20 t70 fun t71 =>
  pBin .rem t69 t71 fun t72 =>
  callS P F_milestoneref07_Draft_Weight [d0] h_20 fun t74 h_21 =>
  (pLoad h_21 t65 fun t66_1 =>
  t66_1 = t66) ∧
  (pLoad h_21 t70 fun t71_1 =>
  t71_1 = t71) ∧
  (pBuild [(.int .i64 0), (.int .i64 0), (.int .i64 0)] [(0, 1, v7), (1, 1, t72), (2, 1, t74)] fun t75 =>
  pBuildSlice T_api_Arc (zerosL [(.int .i64 0), (.int .i64 0), (.int .i64 0)] 1) [(0, 3, t75)] 1 h_21 fun t76 h_22 =>
  pAppend T_api_Arc 3 24 [(.int .i64 0), (.int .i64 0), (.int .i64 0)] t66 t76 h_22 fun t77 h_23 =>
  pField 3 g3 fun t78 =>
  pStore 1 t78 t77 h_23 fun u_5 h_24 =>
  pBin .add v7 (.int .i64 1) fun t64 =>
  Z_1 t64 h_24))
  (sh_milestoneref07_Draft_Raw_k4 P t52 g3 d0 t2 K h_20))
  (sh_milestoneref07_Draft_Raw_k4 P t52 g3 d0 t2 K h_20)

def sh_milestoneref07_Draft_Raw_k2 (P : Program) (g3 d0 t2 : Value) (K : Value → Heap → Prop) (h_17 : Heap) : Prop :=
  pField 0 g3 fun t48 =>
  pLoad h_17 t48 fun t49 =>
  pBin .mul (.int .i64 3) t49 fun t50 =>
  pBin .add t50 (.int .i64 1) fun t51 =>
  callS P F_milestoneref07_Draft_Next [d0, t51] h_17 fun t52 h_18 =>
  callS P F_milestoneref07_Draft_Next [d0, (.int .i64 3)] h_18 fun t54 h_19 =>
  pBin .gtr t54 (.int .i64 0) fun t55 =>
  LoopH (σ := Vals [7]) (fun x hh ZZ => sh_milestoneref07_Draft_Raw_L3 P g3 t55 d0 t52 t2 K x.1 hh (fun a0 hz => ZZ (a0, ()) hz)) ((.int .i64 0), ()) h_19

def sh_milestoneref07_Draft_Raw_L1 (P : Program) (g3 d0 t2 : Value) (K : Value → Heap → Prop) (v4 : Value) (h_5 : Heap) (Z : Value → Heap → Prop) : Prop :=
  pField 0 g3 fun t15 =>
  pLoad h_5 t15 fun t16 =>
  pBin .lss v4 t16 fun t17 =>
  ifV t17
  (pField 1 g3 fun t20 =>
  pLoad h_5 t20 fun t21 =>
  callS P F_milestoneref07_Draft_Next [d0, (.int .i64 9)] h_5 fun t23 h_6 =>
  (pLoad h_6 t20 fun t21_1 =>
  t21_1 = t21) ∧
  (pBin .sub t23 (.int .i64 3) fun t24 =>
  pBuildSlice T_int64 (zerosL [(.int .i64 0)] 1) [(0, 1, t24)] 1 h_6 fun t25 h_7 =>
  pAppend T_int64 1 8 [(.int .i64 0)] t21 t25 h_7 fun t26 h_8 =>
  pField 1 g3 fun t27 =>
  pStore 1 t27 t26 h_8 fun u_1 h_9 =>
  pField 2 g3 fun t28 =>
  pLoad h_9 t28 fun t29 =>
  callS P F_milestoneref07_Draft_Next [d0, (.int .i64 7)] h_9 fun t31 h_10 =>
  (pLoad h_10 t28 fun t29_1 =>
  t29_1 = t29) ∧
  (pBuildSlice T_int64 (zerosL [(.int .i64 0)] 1) [(0, 1, t31)] 1 h_10 fun t32 h_11 =>
  pAppend T_int64 1 8 [(.int .i64 0)] t29 t32 h_11 fun t33 h_12 =>
  pField 2 g3 fun t34 =>
  pStore 1 t34 t33 h_12 fun u_2 h_13 =>
  pBin .add v4 (.int .i64 1) fun t19 =>
  Z t19 h_13)))
  (callS P F_milestoneref07_Draft_Next [d0, (.int .i64 9)] h_5 fun t36 h_14 =>
  pBin .eql t36 (.int .i64 0) fun t37 =>
  ifV t37
  (pField 1 g3 fun t38 =>
  pLoad h_14 t38 fun t39 =>
  pIdx 1 t39 (.int .i64 0) fun t40 =>
  pStore 1 t40 (.int .i64 (-2147483648)) h_14 fun u_3 h_15 =>
  pField 2 g3 fun t41 =>
  pLoad h_15 t41 fun t42 =>
  pField 0 g3 fun t43 =>
  pLoad h_15 t43 fun t44 =>
  pBin .sub t44 (.int .i64 1) fun t45 =>
  pIdx 1 t42 t45 fun t46 =>
  pStore 1 t46 (.int .i64 2147483647) h_15 fun u_4 h_16 =>
  sh_milestoneref07_Draft_Raw_k2 P g3 d0 t2 K h_16)
  (sh_milestoneref07_Draft_Raw_k2 P g3 d0 t2 K h_14))

def sh_milestoneref07_Draft_Raw (P : Program) (d0 : Value) (h : Heap) (K : Value → Heap → Prop) : Prop :=
  pBox T_api_Raw (.agg #[(.int .i64 0), (.slice none 0 0), (.slice none 0 0), (.slice none 0 0)]) h fun t2 h_1 =>
  callS P F_milestoneref07_Draft_Next [d0, (.int .i64 12)] h_1 fun t11 h_2 =>
  pBin .add (.int .i64 1) t11 fun t12 =>
  pBuild [(.int .i64 0), (.slice none 0 0), (.slice none 0 0), (.slice none 0 0)] [(0, 1, t12)] fun t13 =>
  pBox T_api_Raw (.agg #[(.int .i64 0), (.slice none 0 0), (.slice none 0 0), (.slice none 0 0)]) h_2 fun g3 h_3 =>
  pStore 4 g3 t13 h_3 fun u h_4 =>
  LoopH (σ := Vals [4]) (fun x hh ZZ => sh_milestoneref07_Draft_Raw_L1 P g3 d0 t2 K x.1 hh (fun a0 hz => ZZ (a0, ()) hz)) ((.int .i64 0), ()) h_4

set_option maxRecDepth 100000 in
theorem lk_milestoneref07_Draft_Raw (d0 : Value) {h : Heap} {K : Value → Heap → Prop} (H : sh_milestoneref07_Draft_Raw Tryz.prog d0 h K) : CallsH Tryz.prog F_milestoneref07_Draft_Raw [d0].toArray h K :=
  callsH_of (ann := (annG (Tryz.f21.body.getD .skip) 0 [(4, [4]), (16, [7]), (22, [8]), (26, [9])]).1) (c := Tryz.f21.body.getD .skip) Tryz.func21 (by kernel_rfl) (by kernel_rfl) (by kernel_rfl) (of_decide_eq_true (by kernel_rfl))
    (Eq.mpr (by kernel_rfl) H)

end Go.Proofs.YtoopkllfpmjnfaaGreatDoor

namespace Go.Proofs.YtoopkllfpmjnfaaGreatDoor
open Go Go.Mh
set_option maxHeartbeats 0
set_option linter.unusedVariables false

/-! milestone/net.New -/

def sh_net_New (P : Program) (raw0 : Value) (h : Heap) (K : Value → Heap → Prop) : Prop :=
  pBox T_api_Raw raw0 h fun raw1 h_1 =>
  pLoadN 4 h_1 raw1 fun t6 =>
  callS P F_graph_Check [t6] h_1 fun t7 h_2 =>
  pEq true .iface t7 .nilIface fun t9 =>
  ifV t9
  (callS P F_api_Told [t7] h_2 fun t11 h_3 =>
  pBox T_api_Fault (.agg #[(.int .i64 0), (.int .i64 0), (.int .i64 0), (.int .i64 0)]) h_3 fun f5 h_4 =>
  pStore 4 f5 t11 h_4 fun u h_5 =>
  pBuild [(.pointer none)] [(0, 1, f5)] fun t12 =>
  K (.tuple #[(.pointer none), (.iface T_net_trouble t12)]) h_5)
  (pLoadN 4 h_2 raw1 fun t14 =>
  callS P F_net_own [t14] h_2 fun t15 h_6 =>
  callS P F_net_of [t15] h_6 fun t16 h_7 =>
  K (.tuple #[t16, .nilIface]) h_7)

set_option maxRecDepth 100000 in
theorem lk_net_New (raw0 : Value) {h : Heap} {K : Value → Heap → Prop} (H : sh_net_New Tryz.prog raw0 h K) : CallsH Tryz.prog F_net_New [raw0].toArray h K :=
  callsH_of (ann := (annG (Tryz.f22.body.getD .skip) 0 []).1) (c := Tryz.f22.body.getD .skip) Tryz.func22 (by kernel_rfl) (by kernel_rfl) (by kernel_rfl) (of_decide_eq_true (by kernel_rfl))
    (Eq.mpr (by kernel_rfl) H)

/-! (*milestone/net.Net).Nodes -/

def sh_net_Net_Nodes (P : Program) (n0 : Value) (h : Heap) (K : Value → Heap → Prop) : Prop :=
  pEq false .ptr n0 (.pointer none) fun t4 =>
  ifV t4
  (K (.int .i64 0) h)
  (pNil n0 fun t6 =>
  pField 0 t6 fun t7 =>
  pField 0 t7 fun t8 =>
  pLoad h t8 fun t9 =>
  K t9 h)

set_option maxRecDepth 100000 in
theorem lk_net_Net_Nodes (n0 : Value) {h : Heap} {K : Value → Heap → Prop} (H : sh_net_Net_Nodes Tryz.prog n0 h K) : CallsH Tryz.prog F_net_Net_Nodes [n0].toArray h K :=
  callsH_of (ann := (annG (Tryz.f23.body.getD .skip) 0 []).1) (c := Tryz.f23.body.getD .skip) Tryz.func23 (by kernel_rfl) (by kernel_rfl) (by kernel_rfl) (of_decide_eq_true (by kernel_rfl))
    (Eq.mpr (by kernel_rfl) H)

/-! milestone/avoid.next -/

def sh_avoid_next_L1 (P : Program) (l1 v8 : Value) (K : Value → Heap → Prop) (h_7 : Heap) (Z : Heap → Prop) : Prop :=
  callS P F_slices_ContainsFunc_sl_avoid_mark_avoid_mark [l1, (.func (.func F_avoid_next_1) #[] #[v8])] h_7 fun t27 h_8 =>
  ifV t27
  (pLoad h_8 v8 fun t28 =>
  pBin .add t28 (.int .i64 1) fun t29 =>
  pStore 1 v8 t29 h_8 fun u_2 h_9 =>
  Z h_9)
  (pLoad h_8 v8 fun t30 =>
  K t30 h_8)

def sh_avoid_next_L2 (P : Program) (v8 t13 : Value) (K : Value → Heap → Prop) (k9 : Value) (h_10 : Heap) (Z_1 : Value → Heap → Prop) : Prop :=
  pBin .geq k9 (.int .i64 0) fun t33 =>
  ifV t33
  (pStore 1 v8 k9 h_10 fun u_3 h_11 =>
  pNil t13 fun t35 =>
  pField 3 t35 fun t36 =>
  pLoad h_11 t36 fun t37 =>
  pLoad h_11 v8 fun t38 =>
  pLook (.int .i64) (.slice none 0 0) false h_11 t37 t38 fun t39 =>
  callS P F_slices_Values_sl_int_int [t39] h_11 fun t40 h_12 =>
  callS P F_avoid_best_int64 [t40, (.func (.func F_avoid_tree_size) #[t13] #[])] h_12 fun t43 h_13 =>
  Z_1 t43 h_13)
  (pLoad h_10 v8 fun t45 =>
  K t45 h_10)

def sh_avoid_next (P : Program) (n0 l1 r2 : Value) (h : Heap) (K : Value → Heap → Prop) : Prop :=
  callS P F_avoid_grow [n0, l1, r2] h fun t13 h_1 =>
  pNil t13 fun t15 =>
  pField 0 t15 fun t16 =>
  pField 2 t16 fun t17 =>
  pLoad h_1 t17 fun t18 =>
  callS P F_slices_Values_sl_int_int [t18] h_1 fun t19 h_2 =>
  callS P F_avoid_best_int64 [t19, (.func (.func F_avoid_tree_size) #[t13] #[])] h_2 fun t22 h_3 =>
  pBox T_int (.int .i64 0) h_3 fun v8 h_4 =>
  pStore 1 v8 t22 h_4 fun u h_5 =>
  pLoad h_5 v8 fun t23 =>
  pBin .lss t23 (.int .i64 0) fun t24 =>
  ifV t24
  (pStore 1 v8 (.int .i64 0) h_5 fun u_1 h_6 =>
  LoopH (σ := Vals []) (fun x hh ZZ => sh_avoid_next_L1 P l1 v8 K hh (fun hz => ZZ () hz)) () h_6)
  (pLoad h_5 v8 fun t31 =>
  LoopH (σ := Vals [9]) (fun x hh ZZ => sh_avoid_next_L2 P v8 t13 K x.1 hh (fun a0 hz => ZZ (a0, ()) hz)) (t31, ()) h_5)

set_option maxRecDepth 100000 in
theorem lk_avoid_next (n0 l1 r2 : Value) {h : Heap} {K : Value → Heap → Prop} (H : sh_avoid_next Tryz.prog n0 l1 r2 h K) : CallsH Tryz.prog F_avoid_next [n0, l1, r2].toArray h K :=
  callsH_of (ann := (annG (Tryz.f24.body.getD .skip) 0 [(7, []), (14, [9])]).1) (c := Tryz.f24.body.getD .skip) Tryz.func24 (by kernel_rfl) (by kernel_rfl) (by kernel_rfl) (of_decide_eq_true (by kernel_rfl))
    (Eq.mpr (by kernel_rfl) H)

/-! milestone/avoid.marks -/

def sh_avoid_marks_k2 (P : Program) (t9 : Value) (Z : Value → Value → Heap → Prop) (out4_1 : Value) (h_7 : Heap) : Prop :=
  pBin .add t9 (.int .i64 1) fun t27 =>
  Z out4_1 t27 h_7

def sh_avoid_marks_L1 (P : Program) (t8 l1 n0 : Value) (K : Value → Heap → Prop) (out4 t9 : Value) (h_1 : Heap) (Z : Value → Value → Heap → Prop) : Prop :=
  pBin .lss t9 t8 fun t10 =>
  ifV t10
  (pIdx 1 l1 t9 fun t11 =>
  pLoad h_1 t11 fun t12 =>
  callS P F_avoid_there [n0, t12] h_1 fun t15 h_2 =>
  ifV t15
  (callS P F_flood_To [n0, t12] h_2 fun t20 h_3 =>
  callS P F_flood_From [n0, t12] h_3 fun t23 h_4 =>
  pBuild [(.int .i64 0), (.slice none 0 0), (.slice none 0 0), (.slice none 0 0), (.slice none 0 0), (.slice none 0 0), (.slice none 0 0)] [(0, 1, t12), (1, 3, t20), (4, 3, t23)] fun t24 =>
  pBuildSlice T_avoid_mark (zerosL [(.int .i64 0), (.slice none 0 0), (.slice none 0 0), (.slice none 0 0), (.slice none 0 0), (.slice none 0 0), (.slice none 0 0)] 1) [(0, 7, t24)] 1 h_4 fun t25 h_5 =>
  pAppend T_avoid_mark 7 152 [(.int .i64 0), (.slice none 0 0), (.slice none 0 0), (.slice none 0 0), (.slice none 0 0), (.slice none 0 0), (.slice none 0 0)] out4 t25 h_5 fun t26 h_6 =>
  sh_avoid_marks_k2 P t9 Z t26 h_6)
  (sh_avoid_marks_k2 P t9 Z out4 h_2))
  (K out4 h_1)

def sh_avoid_marks (P : Program) (n0 l1 : Value) (h : Heap) (K : Value → Heap → Prop) : Prop :=
  pLen l1 fun t8 =>
  LoopH (σ := Vals [4, 9]) (fun x hh ZZ => sh_avoid_marks_L1 P t8 l1 n0 K x.1 x.2.1 hh (fun a0 a1 hz => ZZ (a0, (a1, ())) hz)) ((.slice none 0 0), ((.int .i64 0), ())) h

set_option maxRecDepth 100000 in
theorem lk_avoid_marks (n0 l1 : Value) {h : Heap} {K : Value → Heap → Prop} (H : sh_avoid_marks Tryz.prog n0 l1 h K) : CallsH Tryz.prog F_avoid_marks [n0, l1].toArray h K :=
  callsH_of (ann := (annG (Tryz.f25.body.getD .skip) 0 [(3, [4, 9])]).1) (c := Tryz.f25.body.getD .skip) Tryz.func25 (by kernel_rfl) (by kernel_rfl) (by kernel_rfl) (of_decide_eq_true (by kernel_rfl))
    (Eq.mpr (by kernel_rfl) H)

/-! (*milestone/milestoneref05.Draws).Next -/

def sh_milestoneref05_Draws_Next_C1 (P : Program) (K : Value → Heap → Prop) (d0 n1 t18 : Value) (h_1 : Heap) : Prop :=
  ifV t18
  (K (.int .i64 0) h_1)
  (pNil d0 fun t20 =>
  pField 1 t20 fun t21 =>
  pLoad h_1 t21 fun t22 =>
  pBin .add t22 (.int .i64 1) fun t23 =>
  pNil d0 fun t24 =>
  pField 1 t24 fun t25 =>
  pStore 1 t25 t23 h_1 fun u h_2 =>
  pNil d0 fun t27 =>
  pField 0 t27 fun t28 =>
  pLoad h_2 t28 fun t29 =>
  pNil d0 fun t31 =>
  pField 1 t31 fun t32 =>
  pLoad h_2 t32 fun t33 =>
  pBin .sub t33 (.int .i64 1) fun t34 =>
  pIdx 1 t29 t34 fun t35 =>
  pLoad h_2 t35 fun t36 =>
  pConv .i64 t36 fun t37 =>
  pBin .rem t37 n1 fun t39 =>
  K t39 h_2)

def sh_milestoneref05_Draws_Next (P : Program) (d0 n1 : Value) (h : Heap) (K : Value → Heap → Prop) : Prop :=
  cutP (σ := Vals [18]) (fun J =>
  pBin .lss n1 (.int .i64 1) fun t6 =>
  ifV t6
  (J ((.bool true), ()) h)
  (pNil d0 fun t9 =>
  pField 1 t9 fun t10 =>
  pLoad h t10 fun t11 =>
  pNil d0 fun t13 =>
  pField 0 t13 fun t14 =>
  pLoad h t14 fun t15 =>
  pLen t15 fun t16 =>
  pBin .geq t11 t16 fun t17 =>
  J (t17, ()) h))
  (fun x hh => sh_milestoneref05_Draws_Next_C1 P K d0 n1 x.1 hh)

set_option maxRecDepth 100000 in
theorem lk_milestoneref05_Draws_Next (d0 n1 : Value) {h : Heap} {K : Value → Heap → Prop} (H : sh_milestoneref05_Draws_Next Tryz.prog d0 n1 h K) : CallsH Tryz.prog F_milestoneref05_Draws_Next [d0, n1].toArray h K :=
  callsH_of (ann := (annG (Tryz.f26.body.getD .skip) 0 [(2, [18])]).1) (c := Tryz.f26.body.getD .skip) Tryz.func26 (by kernel_rfl) (by kernel_rfl) (by kernel_rfl) (of_decide_eq_true (by kernel_rfl))
    (Eq.mpr (by kernel_rfl) H)

/-! milestone/milestoneref16.next -/

def sh_milestoneref16_next_k4 (P : Program) (v10 : Value) (Z : Value → Value → Heap → Prop) (best9_1 : Value) (h_16 : Heap) : Prop :=
  pBin .add v10 (.int .i64 1) fun t26 =>
  Z best9_1 t26 h_16

def sh_milestoneref16_next_C3 (P : Program) (v10 : Value) (Z : Value → Value → Heap → Prop) (best9 t46 : Value) (h_15 : Heap) : Prop :=
  ifV t46
  (sh_milestoneref16_next_k4 P v10 Z v10 h_15)
  (sh_milestoneref16_next_k4 P v10 Z best9 h_15)

def sh_milestoneref16_next_k10 (P : Program) (w13 : Value) (Z_3 : Value → Value → Heap → Prop) (kid12_1 : Value) (h_23 : Heap) : Prop :=
  pBin .add w13 (.int .i64 1) fun t66 =>
  Z_3 kid12_1 t66 h_23

def sh_milestoneref16_next_C9 (P : Program) (w13 : Value) (Z_3 : Value → Value → Heap → Prop) (kid12 t108 : Value) (h_22 : Heap) : Prop :=
  ifV t108
  (sh_milestoneref16_next_k10 P w13 Z_3 w13 h_22)
  (sh_milestoneref16_next_k10 P w13 Z_3 kid12 h_22)

def sh_milestoneref16_next_L8 (P : Program) (g3 x7_3 best9_2 size8 : Value) (K Z_2 : Value → Heap → Prop) (kid12 w13 : Value) (h_21 : Heap) (Z_3 : Value → Value → Heap → Prop) : Prop :=
  pField 0 g3 fun t62 =>
  pLoad h_21 t62 fun t63 =>
  pBin .lss w13 t63 fun t64 =>
  ifV t64
  (cutP (σ := Vals [108]) (fun J_2 =>
  pField 1 x7_3 fun t67 =>
  pLoad h_21 t67 fun t68 =>
  pIdx 1 t68 w13 fun t70 =>
  pLoad h_21 t70 fun t71 =>
  pBin .geq t71 (.int .i64 0) fun t72 =>
  ifV t72
  (pField 3 g3 fun t74 =>
  pLoad h_21 t74 fun t75 =>
  pField 1 x7_3 fun t76 =>
  pLoad h_21 t76 fun t77 =>
  pIdx 1 t77 w13 fun t79 =>
  pLoad h_21 t79 fun t80 =>
  pIdx 3 t75 t80 fun t81 =>
  pField 0 t81 fun t82 =>
  pLoad h_21 t82 fun t83 =>
  pBin .eql t83 best9_2 fun t85 =>
  ifV t85
  (pIdx 1 size8 w13 fun t90 =>
  pLoad h_21 t90 fun t91 =>
  pBin .gtr t91 (.int .i64 0) fun t92 =>
  ifV t92
  (pBin .lss kid12 (.int .i64 0) fun t96 =>
  ifV t96
  (J_2 ((.bool true), ()) h_21)
  (pIdx 1 size8 w13 fun t100 =>
  pLoad h_21 t100 fun t101 =>
  pIdx 1 size8 kid12 fun t104 =>
  pLoad h_21 t104 fun t105 =>
  pBin .gtr t101 t105 fun t106 =>
  J_2 (t106, ()) h_21))
  (J_2 ((.bool false), ()) h_21))
  (J_2 ((.bool false), ()) h_21))
  (J_2 ((.bool false), ()) h_21))
  (fun x hh => sh_milestoneref16_next_C9 P w13 Z_3 kid12 x.1 hh))
  (pBin .lss kid12 (.int .i64 0) fun t111 =>
  ifV t111
  (K best9_2 h_21)
  (Z_2 kid12 h_21))

def sh_milestoneref16_next_L7 (P : Program) (g3 x7_3 size8 : Value) (K : Value → Heap → Prop) (best9_2 : Value) (h_20 : Heap) (Z_2 : Value → Heap → Prop) : Prop :=
  LoopH (σ := Vals [12, 13]) (fun x hh ZZ => sh_milestoneref16_next_L8 P g3 x7_3 best9_2 size8 K Z_2 x.1 x.2.1 hh (fun a0 a1 hz => ZZ (a0, (a1, ())) hz)) ((.int .i64 (-1)), ((.int .i64 0), ())) h_20

def sh_milestoneref16_next_k6 (P : Program) (g3 x7_3 size8 : Value) (K : Value → Heap → Prop) (best9 : Value) (h_19 : Heap) : Prop :=
  LoopH (σ := Vals [9]) (fun x hh ZZ => sh_milestoneref16_next_L7 P g3 x7_3 size8 K x.1 hh (fun a0 hz => ZZ (a0, ()) hz)) (best9, ()) h_19

def sh_milestoneref16_next_L5 (P : Program) (g3 marks1 : Value) (K : Value → Heap → Prop) (x7_3 size8 best9 v11 : Value) (h_17 : Heap) (Z_1 : Value → Heap → Prop) : Prop :=
  pField 0 g3 fun t51 =>
  pLoad h_17 t51 fun t52 =>
  pBin .lss v11 t52 fun t53 =>
  ifV t53
  (callS P F_milestoneref16_in [marks1, v11] h_17 fun t58 h_18 =>
  pUn .not t58 fun t59 =>
  ifV t59
  (K v11 h_18)
  (pBin .add v11 (.int .i64 1) fun t55 =>
  Z_1 t55 h_18))
  (sh_milestoneref16_next_k6 P g3 x7_3 size8 K best9 h_17)

def sh_milestoneref16_next_L2 (P : Program) (g3 size8 marks1 : Value) (K : Value → Heap → Prop) (x7_3 best9 v10 : Value) (h_14 : Heap) (Z : Value → Value → Heap → Prop) : Prop :=
  pField 0 g3 fun t22 =>
  pLoad h_14 t22 fun t23 =>
  pBin .lss v10 t23 fun t24 =>
  ifV t24
  (cutP (σ := Vals [46]) (fun J_1 =>
  pIdx 1 size8 v10 fun t29 =>
  pLoad h_14 t29 fun t30 =>
  pBin .gtr t30 (.int .i64 0) fun t31 =>
  ifV t31
  (pBin .lss best9 (.int .i64 0) fun t34 =>
  ifV t34
  (J_1 ((.bool true), ()) h_14)
  (pIdx 1 size8 v10 fun t38 =>
  pLoad h_14 t38 fun t39 =>
  pIdx 1 size8 best9 fun t42 =>
  pLoad h_14 t42 fun t43 =>
  pBin .gtr t39 t43 fun t44 =>
  J_1 (t44, ()) h_14))
  (J_1 ((.bool false), ()) h_14))
  (fun x hh => sh_milestoneref16_next_C3 P v10 Z best9 x.1 hh))
  (pBin .lss best9 (.int .i64 0) fun t49 =>
  ifV t49
  (LoopH (σ := Vals [11]) (fun x hh ZZ => sh_milestoneref16_next_L5 P g3 marks1 K x7_3 size8 best9 x.1 hh (fun a0 hz => ZZ (a0, ()) hz)) ((.int .i64 0), ()) h_14)
  (sh_milestoneref16_next_k6 P g3 x7_3 size8 K best9 h_14))

def sh_milestoneref16_next_C1 (P : Program) (g3 marks1 : Value) (K : Value → Heap → Prop) (x7_3 size8 : Value) (h_13 : Heap) : Prop :=
  LoopH (σ := Vals [9, 10]) (fun x hh ZZ => sh_milestoneref16_next_L2 P g3 size8 marks1 K x7_3 x.1 x.2.1 hh (fun a0 a1 hz => ZZ (a0, (a1, ())) hz)) ((.int .i64 (-1)), ((.int .i64 0), ())) h_13

def sh_milestoneref16_next (P : Program) (g0 marks1 r2 : Value) (h : Heap) (K : Value → Heap → Prop) : Prop :=
  pBox T_api_Raw g0 h fun g3 h_1 =>
  cutP (σ := Vals [7, 8]) (fun J =>
  pLoadN 4 h_1 g3 fun t14 =>
  pLoadN 4 h_1 g3 fun t17 =>
  (callS P F_milestoneref10_From [t14, r2] h_1 fun t16 h_2 =>
  (pLoadN 4 h_2 g3 fun t17_1 =>
  t17_1 = t17) ∧
  ((callS P F_milestoneref16_Sizes [t17, marks1, r2] h_2 fun t20 h_3 =>
  pBox T_milestoneref10_Tree (.agg #[(.slice none 0 0), (.slice none 0 0), (.slice none 0 0)]) h_3 fun x7 h_4 =>
  pStore 3 x7 t16 h_4 fun u h_5 =>
  J (x7, (t20, ())) h_5) ∧
  (pBox T_milestoneref10_Tree (.agg #[(.slice none 0 0), (.slice none 0 0), (.slice none 0 0)]) h_2 fun x7_1 h_6 =>
  callS P F_milestoneref16_Sizes [t17, marks1, r2] h_6 fun t20_1 h_7 =>
  pStore 3 x7_1 t16 h_7 fun u_1 h_8 =>
  J (x7_1, (t20_1, ())) h_8))) ∧
  (pBox T_milestoneref10_Tree (.agg #[(.slice none 0 0), (.slice none 0 0), (.slice none 0 0)]) h_1 fun x7_2 h_9 =>
  callS P F_milestoneref10_From [t14, r2] h_9 fun t16_1 h_10 =>
  (pLoadN 4 h_10 g3 fun t17_2 =>
  t17_2 = t17) ∧
  (callS P F_milestoneref16_Sizes [t17, marks1, r2] h_10 fun t20_2 h_11 =>
  pStore 3 x7_2 t16_1 h_11 fun u_2 h_12 =>
  J (x7_2, (t20_2, ())) h_12)))
  (fun x hh => sh_milestoneref16_next_C1 P g3 marks1 K x.1 x.2.1 hh)

set_option maxRecDepth 100000 in
theorem lk_milestoneref16_next (g0 marks1 r2 : Value) {h : Heap} {K : Value → Heap → Prop} (H : sh_milestoneref16_next Tryz.prog g0 marks1 r2 h K) : CallsH Tryz.prog F_milestoneref16_next [g0, marks1, r2].toArray h K :=
  callsH_of (ann := (annG (Tryz.f27.body.getD .skip) 0 [(1, [7, 8]), (5, [9, 10]), (9, [46]), (13, [11]), (19, [9]), (23, [12, 13]), (27, [108])]).1) (c := Tryz.f27.body.getD .skip) Tryz.func27 (by kernel_rfl) (by kernel_rfl) (by kernel_rfl) (of_decide_eq_true (by kernel_rfl))
    (Eq.mpr (by kernel_rfl) H)

/-! milestone/avoid.there -/

def sh_avoid_there (P : Program) (n0 v1 : Value) (h : Heap) (K : Value → Heap → Prop) : Prop :=
  pEq true .ptr n0 (.pointer none) fun t6 =>
  ifV t6
  (pBin .geq v1 (.int .i64 0) fun t9 =>
  ifV t9
  (callS P F_net_Net_Nodes [n0] h fun t14 h_1 =>
  pBin .lss v1 t14 fun t15 =>
  K t15 h_1)
  (K (.bool false) h))
  (K (.bool false) h)

set_option maxRecDepth 100000 in
theorem lk_avoid_there (n0 v1 : Value) {h : Heap} {K : Value → Heap → Prop} (H : sh_avoid_there Tryz.prog n0 v1 h K) : CallsH Tryz.prog F_avoid_there [n0, v1].toArray h K :=
  callsH_of (ann := (annG (Tryz.f28.body.getD .skip) 0 []).1) (c := Tryz.f28.body.getD .skip) Tryz.func28 (by kernel_rfl) (by kernel_rfl) (by kernel_rfl) (of_decide_eq_true (by kernel_rfl))
    (Eq.mpr (by kernel_rfl) H)

/-! milestone/avoid.grow -/

def sh_avoid_grow_C7 (P : Program) (t7_18 t49 : Value) (R : Exit → Heap → Prop) (a15_2 is16 : Value) (h_144 : Heap) : Prop :=
  ifV is16
  (pLoad h_144 t7_18 fun t123 =>
  pNil t123 fun t124 =>
  pField 3 t124 fun t125 =>
  pLoad h_144 t125 fun t126 =>
  pField 0 a15_2 fun t127 =>
  pLoad h_144 t127 fun t128 =>
  pLoad h_144 t7_18 fun t129 =>
  pNil t129 fun t130 =>
  pField 3 t130 fun t131 =>
  pLoad h_144 t131 fun t132 =>
  pField 0 a15_2 fun t133 =>
  pLoad h_144 t133 fun t134 =>
  pLook (.int .i64) (.slice none 0 0) false h_144 t132 t134 fun t135 =>
  pBuildSlice T_int (zerosL [(.int .i64 0)] 1) [(0, 1, t49)] 1 h_144 fun t137 h_145 =>
  pAppend T_int 1 8 [(.int .i64 0)] t135 t137 h_145 fun t138 h_146 =>
  (pLoad h_146 t7_18 fun t123_1 =>
  t123_1 = t123) ∧
  (pLoad h_146 t125 fun t126_1 =>
  t126_1 = t126) ∧
  (pLoad h_146 t127 fun t128_1 =>
  t128_1 = t128) ∧
  (pMapSet (.int .i64) t126 t128 t138 h_146 fun u_31 h_147 =>
  R .normal h_147))
  (R .normal h_144)

def sh_avoid_grow_k6 (P : Program) (n3 t7_18 t49 : Value) (R : Exit → Heap → Prop) (h_137 : Heap) : Prop :=
  cutP (σ := Vals [15, 16]) (fun J_1 =>
  pLoad h_137 n3 fun t110 =>
  pLoad h_137 t7_18 fun t111 =>
  pNil t111 fun t112 =>
  pField 0 t112 fun t113 =>
  pField 1 t113 fun t114 =>
  pLoad h_137 t114 fun t115 =>
  pIdx 1 t115 t49 fun t117 =>
  pLoad h_137 t117 fun t118 =>
  (callS P F_net_Net_Arc [t110, t118] h_137 fun t119 h_138 =>
  pExt t119 0 fun t120 =>
  pExt t119 1 fun t121 =>
  pBox T_api_Arc (.agg #[(.int .i64 0), (.int .i64 0), (.int .i64 0)]) h_138 fun a15 h_139 =>
  pStore 3 a15 t120 h_139 fun u_29 h_140 =>
  J_1 (a15, (t121, ())) h_140) ∧
  (pBox T_api_Arc (.agg #[(.int .i64 0), (.int .i64 0), (.int .i64 0)]) h_137 fun a15_1 h_141 =>
  callS P F_net_Net_Arc [t110, t118] h_141 fun t119_1 h_142 =>
  pExt t119_1 0 fun t120_1 =>
  pExt t119_1 1 fun t121_1 =>
  pStore 3 a15_1 t120_1 h_142 fun u_30 h_143 =>
  J_1 (a15_1, (t121_1, ())) h_143))
  (fun x hh => sh_avoid_grow_C7 P t7_18 t49 R x.1 x.2.1 hh)

def sh_avoid_grow_L5 (P : Program) (t72 t71 t7_18 marked8 t49 n3 : Value) (R : Exit → Heap → Prop) (own12_1 t73 : Value) (h_133 : Heap) (Z_1 : Value → Value → Heap → Prop) : Prop :=
  pBin .lss t73 t72 fun t74 =>
  ifV t74
  (pIdx 1 t71 t73 fun t75 =>
  pLoad h_133 t75 fun t76 =>
  pLoad h_133 t7_18 fun t78 =>
  pNil t78 fun t79 =>
  pField 4 t79 fun t80 =>
  pLoad h_133 t80 fun t81 =>
  pIdx 1 t81 t76 fun t83 =>
  pLoad h_133 t83 fun t84 =>
  callS P F_dist_Sat [own12_1, t84] h_133 fun t85 h_134 =>
  pLoad h_134 marked8 fun t86 =>
  pIdx 1 t86 t49 fun t88 =>
  pLoad h_134 t88 fun t89 =>
  pLoad h_134 marked8 fun t90 =>
  pIdx 1 t90 t76 fun t92 =>
  pLoad h_134 t92 fun t93 =>
  pBin .add t89 t93 fun t94 =>
  pIdx 1 t86 t49 fun t95 =>
  pStore 1 t95 t94 h_134 fun u_27 h_135 =>
  pBin .add t73 (.int .i64 1) fun t96 =>
  Z_1 t85 t96 h_135)
  (pLoad h_133 marked8 fun t97 =>
  pIdx 1 t97 t49 fun t99 =>
  pLoad h_133 t99 fun t100 =>
  pBin .eql t100 (.int .i64 0) fun t101 =>
  ifV t101
  (pLoad h_133 t7_18 fun t102 =>
  pNil t102 fun t103 =>
  pField 4 t103 fun t104 =>
  pLoad h_133 t104 fun t105 =>
  pIdx 1 t105 t49 fun t108 =>
  pStore 1 t108 own12_1 h_133 fun u_28 h_136 =>
  sh_avoid_grow_k6 P n3 t7_18 t49 R h_136)
  (sh_avoid_grow_k6 P n3 t7_18 t49 R h_133))

def sh_avoid_grow_k4 (P : Program) (t7_18 t49 marked8 n3 : Value) (R : Exit → Heap → Prop) (own12 : Value) (h_132 : Heap) : Prop :=
  pLoad h_132 t7_18 fun t66 =>
  pNil t66 fun t67 =>
  pField 3 t67 fun t68 =>
  pLoad h_132 t68 fun t69 =>
  pLook (.int .i64) (.slice none 0 0) false h_132 t69 t49 fun t71 =>
  pLen t71 fun t72 =>
  LoopH (σ := Vals [12, 73]) (fun x hh ZZ => sh_avoid_grow_L5 P t72 t71 t7_18 marked8 t49 n3 R x.1 x.2.1 hh (fun a0 a1 hz => ZZ (a0, (a1, ())) hz)) (own12, ((.int .i64 0), ())) h_132

def sh_avoid_grow_B3 (P : Program) (h_128 : Heap) (r5 t7_18 l4 marked8 n3 : Value) (L : Loop) (t49 : Value) (h_129 : Heap) (R : Exit → Heap → Prop) : Prop :=
  beginR (h_128.size + 1) L h_129 fun h_130 =>
  pLoad h_130 r5 fun t51 =>
  pBin .neq t49 t51 fun t52 =>
  ifV t52
  (pLoad h_130 t7_18 fun t53 =>
  pNil t53 fun t54 =>
  pField 0 t54 fun t55 =>
  pField 0 t55 fun t56 =>
  pLoad h_130 t56 fun t57 =>
  pIdx 1 t57 t49 fun t59 =>
  pLoad h_130 t59 fun t60 =>
  pLoad h_130 l4 fun t61 =>
  pLoad h_130 r5 fun t62 =>
  callS P F_avoid_bound [t61, t62, t49] h_130 fun t64 h_131 =>
  (pLoad h_131 t7_18 fun t53_1 =>
  t53_1 = t53) ∧
  (pLoad h_131 t56 fun t57_1 =>
  t57_1 = t57) ∧
  (pLoad h_131 t59 fun t60_1 =>
  t60_1 = t60) ∧
  (pBin .sub t60 t64 fun t65 =>
  sh_avoid_grow_k4 P t7_18 t49 marked8 n3 R t65 h_131))
  (sh_avoid_grow_k4 P t7_18 t49 marked8 n3 R (.int .i64 0) h_130)

def sh_avoid_grow_L2 (P : Program) (t30 t29 marked8 t7_18 r5 l4 n3 : Value) (K : Value → Heap → Prop) (t31 : Value) (h_124 : Heap) (Z : Value → Heap → Prop) : Prop :=
  pBin .lss t31 t30 fun t32 =>
  ifV t32
  (pIdx 7 t29 t31 fun t33 =>
  pLoadN 7 h_124 t33 fun t34 =>
  pBox T_avoid_mark (.agg #[(.int .i64 0), (.slice none 0 0), (.slice none 0 0), (.slice none 0 0), (.slice none 0 0), (.slice none 0 0), (.slice none 0 0)]) h_124 fun m10 h_125 =>
  pStore 7 m10 t34 h_125 fun u_25 h_126 =>
  pLoad h_126 marked8 fun t35 =>
  pField 0 m10 fun t36 =>
  pLoad h_126 t36 fun t37 =>
  pIdx 1 t35 t37 fun t38 =>
  pLoad h_126 t38 fun t39 =>
  pBin .add t39 (.int .i64 1) fun t40 =>
  pIdx 1 t35 t37 fun t41 =>
  pStore 1 t41 t40 h_126 fun u_26 h_127 =>
  pBin .add t31 (.int .i64 1) fun t42 =>
  Z t42 h_127)
  (pLoad h_124 t7_18 fun t43 =>
  pNil t43 fun t44 =>
  pField 0 t44 fun t45 =>
  pField 2 t45 fun t46 =>
  pLoad h_124 t46 fun t47 =>
  callS P F_avoid_behind [t47] h_124 fun t48 h_128 =>
  rangeH P t48 [49] (h_128.size + 1) (h_128.push (.deferred (some []))) (fun L x hh R => sh_avoid_grow_B3 P h_128 r5 t7_18 l4 marked8 n3 L x.1 hh R)
  (fun h_148 => pLoad h_148 t7_18 fun t139 =>
  takeM (h_128.size :: []) h_148 fun h_149 =>
  K t139 h_149)
  (fun h_150 => takeM (h_128.size :: []) h_150 fun h_151 =>
  K (.pointer none) h_151)
  [])

def sh_avoid_grow_C1 (P : Program) (n3 l4 r5 : Value) (K : Value → Heap → Prop) (t7_18 : Value) (h_119 : Heap) : Prop :=
  pLoad h_119 n3 fun t26 =>
  callS P F_net_Net_Nodes [t26] h_119 fun t27 h_120 =>
  pMakeSlice T_int 8 [(.int .i64 0)] t27 t27 h_120 fun t28 h_121 =>
  pBox T_sl_int (.slice none 0 0) h_121 fun marked8 h_122 =>
  pStore 1 marked8 t28 h_122 fun u_24 h_123 =>
  pLoad h_123 l4 fun t29 =>
  pLen t29 fun t30 =>
  LoopH (σ := Vals [31]) (fun x hh ZZ => sh_avoid_grow_L2 P t30 t29 marked8 t7_18 r5 l4 n3 K x.1 hh (fun a0 hz => ZZ (a0, ()) hz)) ((.int .i64 0), ()) h_123

def sh_avoid_grow (P : Program) (n0 l1 r2 : Value) (h : Heap) (K : Value → Heap → Prop) : Prop :=
  pBox T_p_net_Net n0 h fun n3 h_1 =>
  pBox T_sl_avoid_mark l1 h_1 fun l4 h_2 =>
  pBox T_int r2 h_2 fun r5 h_3 =>
  cutP (σ := Vals [7]) (fun J =>
  pLoad h_3 n3 fun t17 =>
  pLoad h_3 r5 fun t18 =>
  pLoad h_3 n3 fun t21 =>
  (callS P F_flood_From [t17, t18] h_3 fun t19 h_4 =>
  (pLoad h_4 n3 fun t21_1 =>
  t21_1 = t21) ∧
  ((pMakeMap h_4 fun t20 h_5 =>
  (callS P F_net_Net_Nodes [t21] h_5 fun t22 h_6 =>
  (pMakeSlice T_int64 8 [(.int .i64 0)] t22 t22 h_6 fun t23 h_7 =>
  pBuild [(.slice none 0 0), (.slice none 0 0), (.slice none 0 0), (.map none), (.slice none 0 0)] [(0, 3, t19), (3, 1, t20), (4, 1, t23)] fun t24 =>
  (pBox T_avoid_tree t24 h_7 fun t25 h_8 =>
  pBox T_p_avoid_tree (.pointer none) h_8 fun t7 h_9 =>
  pStore 1 t7 t25 h_9 fun u h_10 =>
  J (t7, ()) h_10) ∧
  (pBox T_p_avoid_tree (.pointer none) h_7 fun t7_1 h_11 =>
  pBox T_avoid_tree t24 h_11 fun t25_1 h_12 =>
  pStore 1 t7_1 t25_1 h_12 fun u_1 h_13 =>
  J (t7_1, ()) h_13)) ∧
  (pBox T_p_avoid_tree (.pointer none) h_6 fun t7_2 h_14 =>
  pMakeSlice T_int64 8 [(.int .i64 0)] t22 t22 h_14 fun t23_1 h_15 =>
  pBuild [(.slice none 0 0), (.slice none 0 0), (.slice none 0 0), (.map none), (.slice none 0 0)] [(0, 3, t19), (3, 1, t20), (4, 1, t23_1)] fun t24_1 =>
  pBox T_avoid_tree t24_1 h_15 fun t25_2 h_16 =>
  pStore 1 t7_2 t25_2 h_16 fun u_2 h_17 =>
  J (t7_2, ()) h_17)) ∧
  (pBox T_p_avoid_tree (.pointer none) h_5 fun t7_3 h_18 =>
  callS P F_net_Net_Nodes [t21] h_18 fun t22_1 h_19 =>
  pMakeSlice T_int64 8 [(.int .i64 0)] t22_1 t22_1 h_19 fun t23_2 h_20 =>
  pBuild [(.slice none 0 0), (.slice none 0 0), (.slice none 0 0), (.map none), (.slice none 0 0)] [(0, 3, t19), (3, 1, t20), (4, 1, t23_2)] fun t24_2 =>
  pBox T_avoid_tree t24_2 h_20 fun t25_3 h_21 =>
  pStore 1 t7_3 t25_3 h_21 fun u_3 h_22 =>
  J (t7_3, ()) h_22)) ∧
  (callS P F_net_Net_Nodes [t21] h_4 fun t22_2 h_23 =>
  (pMakeMap h_23 fun t20_1 h_24 =>
  (pMakeSlice T_int64 8 [(.int .i64 0)] t22_2 t22_2 h_24 fun t23_3 h_25 =>
  pBuild [(.slice none 0 0), (.slice none 0 0), (.slice none 0 0), (.map none), (.slice none 0 0)] [(0, 3, t19), (3, 1, t20_1), (4, 1, t23_3)] fun t24_3 =>
  (pBox T_avoid_tree t24_3 h_25 fun t25_4 h_26 =>
  pBox T_p_avoid_tree (.pointer none) h_26 fun t7_4 h_27 =>
  pStore 1 t7_4 t25_4 h_27 fun u_4 h_28 =>
  J (t7_4, ()) h_28) ∧
  (pBox T_p_avoid_tree (.pointer none) h_25 fun t7_5 h_29 =>
  pBox T_avoid_tree t24_3 h_29 fun t25_5 h_30 =>
  pStore 1 t7_5 t25_5 h_30 fun u_5 h_31 =>
  J (t7_5, ()) h_31)) ∧
  (pBox T_p_avoid_tree (.pointer none) h_24 fun t7_6 h_32 =>
  pMakeSlice T_int64 8 [(.int .i64 0)] t22_2 t22_2 h_32 fun t23_4 h_33 =>
  pBuild [(.slice none 0 0), (.slice none 0 0), (.slice none 0 0), (.map none), (.slice none 0 0)] [(0, 3, t19), (3, 1, t20_1), (4, 1, t23_4)] fun t24_4 =>
  pBox T_avoid_tree t24_4 h_33 fun t25_6 h_34 =>
  pStore 1 t7_6 t25_6 h_34 fun u_6 h_35 =>
  J (t7_6, ()) h_35)) ∧
  (pMakeSlice T_int64 8 [(.int .i64 0)] t22_2 t22_2 h_23 fun t23_5 h_36 =>
  (pMakeMap h_36 fun t20_2 h_37 =>
  pBuild [(.slice none 0 0), (.slice none 0 0), (.slice none 0 0), (.map none), (.slice none 0 0)] [(0, 3, t19), (3, 1, t20_2), (4, 1, t23_5)] fun t24_5 =>
  (pBox T_avoid_tree t24_5 h_37 fun t25_7 h_38 =>
  pBox T_p_avoid_tree (.pointer none) h_38 fun t7_7 h_39 =>
  pStore 1 t7_7 t25_7 h_39 fun u_7 h_40 =>
  J (t7_7, ()) h_40) ∧
  (pBox T_p_avoid_tree (.pointer none) h_37 fun t7_8 h_41 =>
  pBox T_avoid_tree t24_5 h_41 fun t25_8 h_42 =>
  pStore 1 t7_8 t25_8 h_42 fun u_8 h_43 =>
  J (t7_8, ()) h_43)) ∧
  (pBox T_p_avoid_tree (.pointer none) h_36 fun t7_9 h_44 =>
  pMakeMap h_44 fun t20_3 h_45 =>
  pBuild [(.slice none 0 0), (.slice none 0 0), (.slice none 0 0), (.map none), (.slice none 0 0)] [(0, 3, t19), (3, 1, t20_3), (4, 1, t23_5)] fun t24_6 =>
  pBox T_avoid_tree t24_6 h_45 fun t25_9 h_46 =>
  pStore 1 t7_9 t25_9 h_46 fun u_9 h_47 =>
  J (t7_9, ()) h_47)) ∧
  (pBox T_p_avoid_tree (.pointer none) h_23 fun t7_10 h_48 =>
  (pMakeMap h_48 fun t20_4 h_49 =>
  pMakeSlice T_int64 8 [(.int .i64 0)] t22_2 t22_2 h_49 fun t23_6 h_50 =>
  pBuild [(.slice none 0 0), (.slice none 0 0), (.slice none 0 0), (.map none), (.slice none 0 0)] [(0, 3, t19), (3, 1, t20_4), (4, 1, t23_6)] fun t24_7 =>
  pBox T_avoid_tree t24_7 h_50 fun t25_10 h_51 =>
  pStore 1 t7_10 t25_10 h_51 fun u_10 h_52 =>
  J (t7_10, ()) h_52) ∧
  (pMakeSlice T_int64 8 [(.int .i64 0)] t22_2 t22_2 h_48 fun t23_7 h_53 =>
  pMakeMap h_53 fun t20_5 h_54 =>
  pBuild [(.slice none 0 0), (.slice none 0 0), (.slice none 0 0), (.map none), (.slice none 0 0)] [(0, 3, t19), (3, 1, t20_5), (4, 1, t23_7)] fun t24_8 =>
  pBox T_avoid_tree t24_8 h_54 fun t25_11 h_55 =>
  pStore 1 t7_10 t25_11 h_55 fun u_11 h_56 =>
  J (t7_10, ()) h_56))) ∧
  (pBox T_p_avoid_tree (.pointer none) h_4 fun t7_11 h_57 =>
  (pMakeMap h_57 fun t20_6 h_58 =>
  callS P F_net_Net_Nodes [t21] h_58 fun t22_3 h_59 =>
  pMakeSlice T_int64 8 [(.int .i64 0)] t22_3 t22_3 h_59 fun t23_8 h_60 =>
  pBuild [(.slice none 0 0), (.slice none 0 0), (.slice none 0 0), (.map none), (.slice none 0 0)] [(0, 3, t19), (3, 1, t20_6), (4, 1, t23_8)] fun t24_9 =>
  pBox T_avoid_tree t24_9 h_60 fun t25_12 h_61 =>
  pStore 1 t7_11 t25_12 h_61 fun u_12 h_62 =>
  J (t7_11, ()) h_62) ∧
  (callS P F_net_Net_Nodes [t21] h_57 fun t22_4 h_63 =>
  (pMakeMap h_63 fun t20_7 h_64 =>
  pMakeSlice T_int64 8 [(.int .i64 0)] t22_4 t22_4 h_64 fun t23_9 h_65 =>
  pBuild [(.slice none 0 0), (.slice none 0 0), (.slice none 0 0), (.map none), (.slice none 0 0)] [(0, 3, t19), (3, 1, t20_7), (4, 1, t23_9)] fun t24_10 =>
  pBox T_avoid_tree t24_10 h_65 fun t25_13 h_66 =>
  pStore 1 t7_11 t25_13 h_66 fun u_13 h_67 =>
  J (t7_11, ()) h_67) ∧
  (pMakeSlice T_int64 8 [(.int .i64 0)] t22_4 t22_4 h_63 fun t23_10 h_68 =>
  pMakeMap h_68 fun t20_8 h_69 =>
  pBuild [(.slice none 0 0), (.slice none 0 0), (.slice none 0 0), (.map none), (.slice none 0 0)] [(0, 3, t19), (3, 1, t20_8), (4, 1, t23_10)] fun t24_11 =>
  pBox T_avoid_tree t24_11 h_69 fun t25_14 h_70 =>
  pStore 1 t7_11 t25_14 h_70 fun u_14 h_71 =>
  J (t7_11, ()) h_71))))) ∧
  (pMakeMap h_3 fun t20_9 h_72 =>
  (callS P F_flood_From [t17, t18] h_72 fun t19_1 h_73 =>
  (pLoad h_73 n3 fun t21_2 =>
  t21_2 = t21) ∧
  ((callS P F_net_Net_Nodes [t21] h_73 fun t22_5 h_74 =>
  (pMakeSlice T_int64 8 [(.int .i64 0)] t22_5 t22_5 h_74 fun t23_11 h_75 =>
  pBuild [(.slice none 0 0), (.slice none 0 0), (.slice none 0 0), (.map none), (.slice none 0 0)] [(0, 3, t19_1), (3, 1, t20_9), (4, 1, t23_11)] fun t24_12 =>
  (pBox T_avoid_tree t24_12 h_75 fun t25_15 h_76 =>
  pBox T_p_avoid_tree (.pointer none) h_76 fun t7_12 h_77 =>
  pStore 1 t7_12 t25_15 h_77 fun u_15 h_78 =>
  J (t7_12, ()) h_78) ∧
  (pBox T_p_avoid_tree (.pointer none) h_75 fun t7_13 h_79 =>
  pBox T_avoid_tree t24_12 h_79 fun t25_16 h_80 =>
  pStore 1 t7_13 t25_16 h_80 fun u_16 h_81 =>
  J (t7_13, ()) h_81)) ∧
  (pBox T_p_avoid_tree (.pointer none) h_74 fun t7_14 h_82 =>
  pMakeSlice T_int64 8 [(.int .i64 0)] t22_5 t22_5 h_82 fun t23_12 h_83 =>
  pBuild [(.slice none 0 0), (.slice none 0 0), (.slice none 0 0), (.map none), (.slice none 0 0)] [(0, 3, t19_1), (3, 1, t20_9), (4, 1, t23_12)] fun t24_13 =>
  pBox T_avoid_tree t24_13 h_83 fun t25_17 h_84 =>
  pStore 1 t7_14 t25_17 h_84 fun u_17 h_85 =>
  J (t7_14, ()) h_85)) ∧
  (pBox T_p_avoid_tree (.pointer none) h_73 fun t7_15 h_86 =>
  callS P F_net_Net_Nodes [t21] h_86 fun t22_6 h_87 =>
  pMakeSlice T_int64 8 [(.int .i64 0)] t22_6 t22_6 h_87 fun t23_13 h_88 =>
  pBuild [(.slice none 0 0), (.slice none 0 0), (.slice none 0 0), (.map none), (.slice none 0 0)] [(0, 3, t19_1), (3, 1, t20_9), (4, 1, t23_13)] fun t24_14 =>
  pBox T_avoid_tree t24_14 h_88 fun t25_18 h_89 =>
  pStore 1 t7_15 t25_18 h_89 fun u_18 h_90 =>
  J (t7_15, ()) h_90))) ∧
  (pBox T_p_avoid_tree (.pointer none) h_72 fun t7_16 h_91 =>
  callS P F_flood_From [t17, t18] h_91 fun t19_2 h_92 =>
  (pLoad h_92 n3 fun t21_3 =>
  t21_3 = t21) ∧
  (callS P F_net_Net_Nodes [t21] h_92 fun t22_7 h_93 =>
  pMakeSlice T_int64 8 [(.int .i64 0)] t22_7 t22_7 h_93 fun t23_14 h_94 =>
  pBuild [(.slice none 0 0), (.slice none 0 0), (.slice none 0 0), (.map none), (.slice none 0 0)] [(0, 3, t19_2), (3, 1, t20_9), (4, 1, t23_14)] fun t24_15 =>
  pBox T_avoid_tree t24_15 h_94 fun t25_19 h_95 =>
  pStore 1 t7_16 t25_19 h_95 fun u_19 h_96 =>
  J (t7_16, ()) h_96))) ∧
  (pBox T_p_avoid_tree (.pointer none) h_3 fun t7_17 h_97 =>
  (callS P F_flood_From [t17, t18] h_97 fun t19_3 h_98 =>
  (pLoad h_98 n3 fun t21_4 =>
  t21_4 = t21) ∧
  ((pMakeMap h_98 fun t20_10 h_99 =>
  callS P F_net_Net_Nodes [t21] h_99 fun t22_8 h_100 =>
  pMakeSlice T_int64 8 [(.int .i64 0)] t22_8 t22_8 h_100 fun t23_15 h_101 =>
  pBuild [(.slice none 0 0), (.slice none 0 0), (.slice none 0 0), (.map none), (.slice none 0 0)] [(0, 3, t19_3), (3, 1, t20_10), (4, 1, t23_15)] fun t24_16 =>
  pBox T_avoid_tree t24_16 h_101 fun t25_20 h_102 =>
  pStore 1 t7_17 t25_20 h_102 fun u_20 h_103 =>
  J (t7_17, ()) h_103) ∧
  (callS P F_net_Net_Nodes [t21] h_98 fun t22_9 h_104 =>
  (pMakeMap h_104 fun t20_11 h_105 =>
  pMakeSlice T_int64 8 [(.int .i64 0)] t22_9 t22_9 h_105 fun t23_16 h_106 =>
  pBuild [(.slice none 0 0), (.slice none 0 0), (.slice none 0 0), (.map none), (.slice none 0 0)] [(0, 3, t19_3), (3, 1, t20_11), (4, 1, t23_16)] fun t24_17 =>
  pBox T_avoid_tree t24_17 h_106 fun t25_21 h_107 =>
  pStore 1 t7_17 t25_21 h_107 fun u_21 h_108 =>
  J (t7_17, ()) h_108) ∧
  (pMakeSlice T_int64 8 [(.int .i64 0)] t22_9 t22_9 h_104 fun t23_17 h_109 =>
  pMakeMap h_109 fun t20_12 h_110 =>
  pBuild [(.slice none 0 0), (.slice none 0 0), (.slice none 0 0), (.map none), (.slice none 0 0)] [(0, 3, t19_3), (3, 1, t20_12), (4, 1, t23_17)] fun t24_18 =>
  pBox T_avoid_tree t24_18 h_110 fun t25_22 h_111 =>
  pStore 1 t7_17 t25_22 h_111 fun u_22 h_112 =>
  J (t7_17, ()) h_112)))) ∧
  (pMakeMap h_97 fun t20_13 h_113 =>
  callS P F_flood_From [t17, t18] h_113 fun t19_4 h_114 =>
  (pLoad h_114 n3 fun t21_5 =>
  t21_5 = t21) ∧
  (callS P F_net_Net_Nodes [t21] h_114 fun t22_10 h_115 =>
  pMakeSlice T_int64 8 [(.int .i64 0)] t22_10 t22_10 h_115 fun t23_18 h_116 =>
  pBuild [(.slice none 0 0), (.slice none 0 0), (.slice none 0 0), (.map none), (.slice none 0 0)] [(0, 3, t19_4), (3, 1, t20_13), (4, 1, t23_18)] fun t24_19 =>
  pBox T_avoid_tree t24_19 h_116 fun t25_23 h_117 =>
  pStore 1 t7_17 t25_23 h_117 fun u_23 h_118 =>
  J (t7_17, ()) h_118))))
  (fun x hh => sh_avoid_grow_C1 P n3 l4 r5 K x.1 hh)

set_option maxRecDepth 100000 in
theorem lk_avoid_grow (n0 l1 r2 : Value) {h : Heap} {K : Value → Heap → Prop} (H : sh_avoid_grow Tryz.prog n0 l1 r2 h K) : CallsH Tryz.prog F_avoid_grow [n0, l1, r2].toArray h K :=
  callsH_of (ann := (annG (Tryz.f29.body.getD .skip) 0 [(1, [7]), (5, [31]), (17, [12, 73]), (25, [15, 16])]).1) (c := Tryz.f29.body.getD .skip) Tryz.func29 (by kernel_rfl) (by kernel_rfl) (by kernel_rfl) (of_decide_eq_true (by kernel_rfl))
    (Eq.mpr (by kernel_rfl) H)

end Go.Proofs.YtoopkllfpmjnfaaGreatDoor

namespace Go.Proofs.YtoopkllfpmjnfaaGreatDoor
open Go Go.Mh
set_option maxHeartbeats 0
set_option linter.unusedVariables false

/-! milestone/milestoneref16.there -/

def sh_milestoneref16_there (P : Program) (g0 v1 : Value) (h : Heap) (K : Value → Heap → Prop) : Prop :=
  pBox T_api_Raw g0 h fun g2 h_1 =>
  pBin .geq v1 (.int .i64 0) fun t6 =>
  ifV t6
  (pField 0 g2 fun t9 =>
  pLoad h_1 t9 fun t10 =>
  pBin .lss v1 t10 fun t11 =>
  K t11 h_1)
  (K (.bool false) h_1)

set_option maxRecDepth 100000 in
theorem lk_milestoneref16_there (g0 v1 : Value) {h : Heap} {K : Value → Heap → Prop} (H : sh_milestoneref16_there Tryz.prog g0 v1 h K) : CallsH Tryz.prog F_milestoneref16_there [g0, v1].toArray h K :=
  callsH_of (ann := (annG (Tryz.f30.body.getD .skip) 0 []).1) (c := Tryz.f30.body.getD .skip) Tryz.func30 (by kernel_rfl) (by kernel_rfl) (by kernel_rfl) (of_decide_eq_true (by kernel_rfl))
    (Eq.mpr (by kernel_rfl) H)

/-! milestone/milestoneref10.From -/

def sh_milestoneref10_From_k1 (P : Program) (x5 t4 : Value) (K : Value → Heap → Prop) (h_4 : Heap) : Prop :=
  pLoadN 3 h_4 x5 fun t25 =>
  pStore 3 t4 t25 h_4 fun u h_5 =>
  pLoadN 3 h_5 t4 fun res =>
  K res h_5

def sh_milestoneref10_From_k5 (P : Program) (i13 : Value) (Z_2 : Value → Heap → Prop) (h_27 : Heap) : Prop :=
  pBin .add i13 (.int .i64 1) fun t85 =>
  Z_2 t85 h_27

def sh_milestoneref10_From_L4 (P : Program) (t79 g2 t28 t47 t61 x5 : Value) (Z_1 : Heap → Prop) (i13 : Value) (h_24 : Heap) (Z_2 : Value → Heap → Prop) : Prop :=
  pLen t79 fun t82 =>
  pBin .lss i13 t82 fun t83 =>
  ifV t83
  (pField 3 g2 fun t86 =>
  pLoad h_24 t86 fun t87 =>
  pIdx 1 t79 i13 fun t90 =>
  pLoad h_24 t90 fun t91 =>
  pIdx 3 t87 t91 fun t92 =>
  pLoadN 3 h_24 t92 fun t93 =>
  pBox T_api_Arc (.agg #[(.int .i64 0), (.int .i64 0), (.int .i64 0)]) h_24 fun a14 h_25 =>
  pStore 3 a14 t93 h_25 fun u_6 h_26 =>
  pField 1 a14 fun t95 =>
  pLoad h_26 t95 fun t96 =>
  pIdx 1 t28 t96 fun t97 =>
  pLoad h_26 t97 fun t98 =>
  ifV t98
  (sh_milestoneref10_From_k5 P i13 Z_2 h_26)
  (pField 1 a14 fun t101 =>
  pLoad h_26 t101 fun t102 =>
  callS P F_milestoneref08_Heap_Key [t47, t102] h_26 fun t103 h_28 =>
  pExt t103 0 fun t104 =>
  pExt t103 1 fun t105 =>
  pUn .not t105 fun t107 =>
  ifV t107
  (pField 1 a14 fun t109 =>
  pLoad h_28 t109 fun t110 =>
  pField 2 a14 fun t112 =>
  pLoad h_28 t112 fun t113 =>
  pBin .add t61 t113 fun t114 =>
  callS P F_milestoneref08_Heap_Push [t47, t110, t114] h_28 fun t115 h_29 =>
  pField 1 x5 fun t116 =>
  pLoad h_29 t116 fun t117 =>
  pField 1 a14 fun t118 =>
  pLoad h_29 t118 fun t119 =>
  pIdx 1 t79 i13 fun t122 =>
  pLoad h_29 t122 fun t123 =>
  pIdx 1 t117 t119 fun t124 =>
  pStore 1 t124 t123 h_29 fun u_7 h_30 =>
  sh_milestoneref10_From_k5 P i13 Z_2 h_30)
  (pField 2 a14 fun t127 =>
  pLoad h_28 t127 fun t128 =>
  pBin .add t61 t128 fun t129 =>
  pBin .gtr t104 t129 fun t130 =>
  ifV t130
  (pField 1 a14 fun t132 =>
  pLoad h_28 t132 fun t133 =>
  pField 2 a14 fun t135 =>
  pLoad h_28 t135 fun t136 =>
  pBin .add t61 t136 fun t137 =>
  callS P F_milestoneref08_Heap_Lower [t47, t133, t137] h_28 fun t138 h_31 =>
  pField 1 x5 fun t139 =>
  pLoad h_31 t139 fun t140 =>
  pField 1 a14 fun t141 =>
  pLoad h_31 t141 fun t142 =>
  pIdx 1 t79 i13 fun t145 =>
  pLoad h_31 t145 fun t146 =>
  pIdx 1 t140 t142 fun t147 =>
  pStore 1 t147 t146 h_31 fun u_8 h_32 =>
  sh_milestoneref10_From_k5 P i13 Z_2 h_32)
  (sh_milestoneref10_From_k5 P i13 Z_2 h_28))))
  (Z_1 h_24)

def sh_milestoneref10_From_L3 (P : Program) (t47 t28 x5 g2 t4 : Value) (K : Value → Heap → Prop) (h_16 : Heap) (Z_1 : Heap → Prop) : Prop :=
  pNil t47 fun t52 =>
  pField 1 t52 fun t53 =>
  pLoad h_16 t53 fun t54 =>
  pLen t54 fun t55 =>
  pBin .gtr t55 (.int .i64 0) fun t56 =>
  ifV t56
  (callS P F_milestoneref08_Heap_Pop [t47] h_16 fun t59 h_17 =>
  pExt t59 0 fun t60 =>
  pExt t59 1 fun t61 =>
  pExt t59 2 fun t62 =>
  pIdx 1 t28 t60 fun t65 =>
  pStore 1 t65 (.bool true) h_17 fun u_3 h_18 =>
  pField 0 x5 fun t66 =>
  pLoad h_18 t66 fun t67 =>
  pIdx 1 t67 t60 fun t70 =>
  pStore 1 t70 t61 h_18 fun u_4 h_19 =>
  pField 2 x5 fun t71 =>
  pLoad h_19 t71 fun t72 =>
  pBuildSlice T_int (zerosL [(.int .i64 0)] 1) [(0, 1, t60)] 1 h_19 fun t74 h_20 =>
  pAppend T_int 1 8 [(.int .i64 0)] t72 t74 h_20 fun t75 h_21 =>
  pField 2 x5 fun t76 =>
  pStore 1 t76 t75 h_21 fun u_5 h_22 =>
  pLoadN 4 h_22 g2 fun t77 =>
  callS P F_milestoneref07_Out [t77, t60] h_22 fun t79 h_23 =>
  LoopH (σ := Vals [13]) (fun x hh ZZ => sh_milestoneref10_From_L4 P t79 g2 t28 t47 t61 x5 Z_1 x.1 hh (fun a0 hz => ZZ (a0, ()) hz)) ((.int .i64 0), ()) h_23)
  (pLoadN 3 h_16 x5 fun t148 =>
  pStore 3 t4 t148 h_16 fun u_9 h_33 =>
  pLoadN 3 h_33 t4 fun res_1 =>
  K res_1 h_33)

def sh_milestoneref10_From_L2 (P : Program) (g2 x5 s1 t28 t4 : Value) (K : Value → Heap → Prop) (v7 : Value) (h_7 : Heap) (Z : Value → Heap → Prop) : Prop :=
  pField 0 g2 fun t30 =>
  pLoad h_7 t30 fun t31 =>
  pBin .lss v7 t31 fun t32 =>
  ifV t32
  (pField 0 x5 fun t35 =>
  pLoad h_7 t35 fun t36 =>
  pBuildSlice T_int64 (zerosL [(.int .i64 0)] 1) [(0, 1, (.int .i64 72057594037927936))] 1 h_7 fun t37 h_8 =>
  pAppend T_int64 1 8 [(.int .i64 0)] t36 t37 h_8 fun t38 h_9 =>
  pField 0 x5 fun t39 =>
  pStore 1 t39 t38 h_9 fun u_1 h_10 =>
  pField 1 x5 fun t40 =>
  pLoad h_10 t40 fun t41 =>
  pBuildSlice T_int (zerosL [(.int .i64 0)] 1) [(0, 1, (.int .i64 (-1)))] 1 h_10 fun t42 h_11 =>
  pAppend T_int 1 8 [(.int .i64 0)] t41 t42 h_11 fun t43 h_12 =>
  pField 1 x5 fun t44 =>
  pStore 1 t44 t43 h_12 fun u_2 h_13 =>
  pBin .add v7 (.int .i64 1) fun t34 =>
  Z t34 h_13)
  (pField 0 g2 fun t45 =>
  pLoad h_7 t45 fun t46 =>
  callS P F_milestoneref08_New [t46] h_7 fun t47 h_14 =>
  callS P F_milestoneref08_Heap_Push [t47, s1, (.int .i64 0)] h_14 fun t50 h_15 =>
  LoopH (σ := Vals []) (fun x hh ZZ => sh_milestoneref10_From_L3 P t47 t28 x5 g2 t4 K hh (fun hz => ZZ () hz)) () h_15)

def sh_milestoneref10_From (P : Program) (g0 s1 : Value) (h : Heap) (K : Value → Heap → Prop) : Prop :=
  pBox T_api_Raw g0 h fun g2 h_1 =>
  pBox T_milestoneref10_Tree (.agg #[(.slice none 0 0), (.slice none 0 0), (.slice none 0 0)]) h_1 fun t4 h_2 =>
  pBox T_milestoneref10_Tree (.agg #[(.slice none 0 0), (.slice none 0 0), (.slice none 0 0)]) h_2 fun x5 h_3 =>
  pBin .lss s1 (.int .i64 0) fun t18 =>
  ifV t18
  (sh_milestoneref10_From_k1 P x5 t4 K h_3)
  (pField 0 g2 fun t21 =>
  pLoad h_3 t21 fun t22 =>
  pBin .geq s1 t22 fun t23 =>
  ifV t23
  (sh_milestoneref10_From_k1 P x5 t4 K h_3)
  (pField 0 g2 fun t26 =>
  pLoad h_3 t26 fun t27 =>
  pMakeSlice T_bool 1 [(.bool false)] t27 t27 h_3 fun t28 h_6 =>
  LoopH (σ := Vals [7]) (fun x hh ZZ => sh_milestoneref10_From_L2 P g2 x5 s1 t28 t4 K x.1 hh (fun a0 hz => ZZ (a0, ()) hz)) ((.int .i64 0), ()) h_6))

set_option maxRecDepth 100000 in
theorem lk_milestoneref10_From (g0 s1 : Value) {h : Heap} {K : Value → Heap → Prop} (H : sh_milestoneref10_From Tryz.prog g0 s1 h K) : CallsH Tryz.prog F_milestoneref10_From [g0, s1].toArray h K :=
  callsH_of (ann := (annG (Tryz.f31.body.getD .skip) 0 [(8, [7]), (16, []), (25, [13])]).1) (c := Tryz.f31.body.getD .skip) Tryz.func31 (by kernel_rfl) (by kernel_rfl) (by kernel_rfl) (of_decide_eq_true (by kernel_rfl))
    (Eq.mpr (by kernel_rfl) H)

/-! milestone/milestoneref16.Part -/

def sh_milestoneref16_Part_k4 (P : Program) (w9 : Value) (Z_1 : Value → Value → Heap → Prop) (out7_2 : Value) (h_9 : Heap) : Prop :=
  pBin .add w9 (.int .i64 1) fun t23 =>
  Z_1 out7_2 t23 h_9

def sh_milestoneref16_Part_C3 (P : Program) (w9 out7_1 : Value) (Z_1 : Value → Value → Heap → Prop) (t46 : Value) (h_6 : Heap) : Prop :=
  ifV t46
  (pBuildSlice T_int (zerosL [(.int .i64 0)] 1) [(0, 1, w9)] 1 h_6 fun t49 h_7 =>
  pAppend T_int 1 8 [(.int .i64 0)] out7_1 t49 h_7 fun t50 h_8 =>
  sh_milestoneref16_Part_k4 P w9 Z_1 t50 h_8)
  (sh_milestoneref16_Part_k4 P w9 Z_1 out7_1 h_6)

def sh_milestoneref16_Part_L2 (P : Program) (g3 x4 i8 : Value) (Z : Value → Value → Heap → Prop) (out7_1 w9 : Value) (h_5 : Heap) (Z_1 : Value → Value → Heap → Prop) : Prop :=
  pField 0 g3 fun t19 =>
  pLoad h_5 t19 fun t20 =>
  pBin .lss w9 t20 fun t21 =>
  ifV t21
  (cutP (σ := Vals [46]) (fun J =>
  pField 1 x4 fun t24 =>
  pLoad h_5 t24 fun t25 =>
  pIdx 1 t25 w9 fun t27 =>
  pLoad h_5 t27 fun t28 =>
  pBin .geq t28 (.int .i64 0) fun t29 =>
  ifV t29
  (pField 3 g3 fun t31 =>
  pLoad h_5 t31 fun t32 =>
  pField 1 x4 fun t33 =>
  pLoad h_5 t33 fun t34 =>
  pIdx 1 t34 w9 fun t36 =>
  pLoad h_5 t36 fun t37 =>
  pIdx 3 t32 t37 fun t38 =>
  pField 0 t38 fun t39 =>
  pLoad h_5 t39 fun t40 =>
  pIdx 1 out7_1 i8 fun t43 =>
  pLoad h_5 t43 fun t44 =>
  pBin .eql t40 t44 fun t45 =>
  J (t45, ()) h_5)
  (J ((.bool false), ()) h_5))
  (fun x hh => sh_milestoneref16_Part_C3 P w9 out7_1 Z_1 x.1 hh))
  (pBin .add i8 (.int .i64 1) fun t17 =>
  Z out7_1 t17 h_5)

def sh_milestoneref16_Part_L1 (P : Program) (g3 x4 : Value) (K : Value → Heap → Prop) (out7 i8 : Value) (h_4 : Heap) (Z : Value → Value → Heap → Prop) : Prop :=
  pLen out7 fun t14 =>
  pBin .lss i8 t14 fun t15 =>
  ifV t15
  (LoopH (σ := Vals [7, 9]) (fun x hh ZZ => sh_milestoneref16_Part_L2 P g3 x4 i8 Z x.1 x.2.1 hh (fun a0 a1 hz => ZZ (a0, (a1, ())) hz)) (out7, ((.int .i64 0), ())) h_4)
  (K out7 h_4)

def sh_milestoneref16_Part (P : Program) (g0 x1 v2 : Value) (h : Heap) (K : Value → Heap → Prop) : Prop :=
  pBox T_api_Raw g0 h fun g3 h_1 =>
  pBox T_milestoneref10_Tree x1 h_1 fun x4 h_2 =>
  pBuildSlice T_int (zerosL [(.int .i64 0)] 1) [(0, 1, v2)] 1 h_2 fun t11 h_3 =>
  LoopH (σ := Vals [7, 8]) (fun x hh ZZ => sh_milestoneref16_Part_L1 P g3 x4 K x.1 x.2.1 hh (fun a0 a1 hz => ZZ (a0, (a1, ())) hz)) (t11, ((.int .i64 0), ())) h_3

set_option maxRecDepth 100000 in
theorem lk_milestoneref16_Part (g0 x1 v2 : Value) {h : Heap} {K : Value → Heap → Prop} (H : sh_milestoneref16_Part Tryz.prog g0 x1 v2 h K) : CallsH Tryz.prog F_milestoneref16_Part [g0, x1, v2].toArray h K :=
  callsH_of (ann := (annG (Tryz.f32.body.getD .skip) 0 [(4, [7, 8]), (9, [7, 9]), (13, [46])]).1) (c := Tryz.f32.body.getD .skip) Tryz.func32 (by kernel_rfl) (by kernel_rfl) (by kernel_rfl) (of_decide_eq_true (by kernel_rfl))
    (Eq.mpr (by kernel_rfl) H)

/-! milestone/milestoneref16.in -/

def sh_milestoneref16_in_L1 (P : Program) (l0 n1 : Value) (K : Value → Heap → Prop) (i5 : Value) (h_1 : Heap) (Z : Value → Heap → Prop) : Prop :=
  pLen l0 fun t8 =>
  pBin .lss i5 t8 fun t9 =>
  ifV t9
  (pIdx 1 l0 i5 fun t14 =>
  pLoad h_1 t14 fun t15 =>
  pBin .eql t15 n1 fun t17 =>
  ifV t17
  (K (.bool true) h_1)
  (pBin .add i5 (.int .i64 1) fun t11 =>
  Z t11 h_1))
  (K (.bool false) h_1)

def sh_milestoneref16_in (P : Program) (l0 n1 : Value) (h : Heap) (K : Value → Heap → Prop) : Prop :=
  LoopH (σ := Vals [5]) (fun x hh ZZ => sh_milestoneref16_in_L1 P l0 n1 K x.1 hh (fun a0 hz => ZZ (a0, ()) hz)) ((.int .i64 0), ()) h

set_option maxRecDepth 100000 in
theorem lk_milestoneref16_in (l0 n1 : Value) {h : Heap} {K : Value → Heap → Prop} (H : sh_milestoneref16_in Tryz.prog l0 n1 h K) : CallsH Tryz.prog F_milestoneref16_in [l0, n1].toArray h K :=
  callsH_of (ann := (annG (Tryz.f33.body.getD .skip) 0 [(3, [5])]).1) (c := Tryz.f33.body.getD .skip) Tryz.func33 (by kernel_rfl) (by kernel_rfl) (by kernel_rfl) (of_decide_eq_true (by kernel_rfl))
    (Eq.mpr (by kernel_rfl) H)

/-! milestone/milestoneref04.Sat -/

def sh_milestoneref04_Sat (P : Program) (a0 b1 : Value) (h : Heap) (K : Value → Heap → Prop) : Prop :=
  callS P F_milestoneref04_within [a0, (.int .i64 2305843009213693952)] h fun t6 h_1 =>
  callS P F_milestoneref04_within [b1, (.int .i64 2305843009213693952)] h_1 fun t8 h_2 =>
  pBin .add t6 t8 fun t9 =>
  callS P F_milestoneref04_within [t9, (.int .i64 2305843009213693952)] h_2 fun t10 h_3 =>
  K t10 h_3

set_option maxRecDepth 100000 in
theorem lk_milestoneref04_Sat (a0 b1 : Value) {h : Heap} {K : Value → Heap → Prop} (H : sh_milestoneref04_Sat Tryz.prog a0 b1 h K) : CallsH Tryz.prog F_milestoneref04_Sat [a0, b1].toArray h K :=
  callsH_of (ann := (annG (Tryz.f34.body.getD .skip) 0 []).1) (c := Tryz.f34.body.getD .skip) Tryz.func34 (by kernel_rfl) (by kernel_rfl) (by kernel_rfl) (of_decide_eq_true (by kernel_rfl))
    (Eq.mpr (by kernel_rfl) H)

/-! milestone/avoid.bound -/

def sh_avoid_bound_L1 (P : Program) (t10 l0 r1 v2 : Value) (K : Value → Heap → Prop) (best6 t11 : Value) (h_1 : Heap) (Z : Value → Value → Heap → Prop) : Prop :=
  pBin .lss t11 t10 fun t12 =>
  ifV t12
  (pIdx 7 l0 t11 fun t13 =>
  pLoadN 7 h_1 t13 fun t14 =>
  pBox T_avoid_mark (.agg #[(.int .i64 0), (.slice none 0 0), (.slice none 0 0), (.slice none 0 0), (.slice none 0 0), (.slice none 0 0), (.slice none 0 0)]) h_1 fun m8 h_2 =>
  pStore 7 m8 t14 h_2 fun u h_3 =>
  pField 1 m8 fun t16 =>
  pField 0 t16 fun t17 =>
  pLoad h_3 t17 fun t18 =>
  pIdx 1 t18 r1 fun t20 =>
  pLoad h_3 t20 fun t21 =>
  pField 1 m8 fun t22 =>
  pField 0 t22 fun t23 =>
  pLoad h_3 t23 fun t24 =>
  pIdx 1 t24 v2 fun t26 =>
  pLoad h_3 t26 fun t27 =>
  pField 4 m8 fun t29 =>
  pField 0 t29 fun t30 =>
  pLoad h_3 t30 fun t31 =>
  pIdx 1 t31 r1 fun t33 =>
  pLoad h_3 t33 fun t34 =>
  pField 4 m8 fun t35 =>
  pField 0 t35 fun t36 =>
  pLoad h_3 t36 fun t37 =>
  pIdx 1 t37 v2 fun t39 =>
  pLoad h_3 t39 fun t40 =>
  callS P F_dist_Low [t21, t27] h_3 fun t28 h_4 =>
  (pLoad h_4 t30 fun t31_1 =>
  t31_1 = t31) ∧
  (pLoad h_4 t33 fun t34_1 =>
  t34_1 = t34) ∧
  (pLoad h_4 t36 fun t37_1 =>
  t37_1 = t37) ∧
  (pLoad h_4 t39 fun t40_1 =>
  t40_1 = t40) ∧
  (callS P F_dist_Lift [t34, t40] h_4 fun t41 h_5 =>
  pMax best6 t28 fun u_1 =>
  pMax u_1 t41 fun t42 =>
  pBin .add t11 (.int .i64 1) fun t43 =>
  Z t42 t43 h_5))
  (K best6 h_1)

def sh_avoid_bound (P : Program) (l0 r1 v2 : Value) (h : Heap) (K : Value → Heap → Prop) : Prop :=
  pLen l0 fun t10 =>
  LoopH (σ := Vals [6, 11]) (fun x hh ZZ => sh_avoid_bound_L1 P t10 l0 r1 v2 K x.1 x.2.1 hh (fun a0 a1 hz => ZZ (a0, (a1, ())) hz)) ((.int .i64 0), ((.int .i64 0), ())) h

set_option maxRecDepth 100000 in
theorem lk_avoid_bound (l0 r1 v2 : Value) {h : Heap} {K : Value → Heap → Prop} (H : sh_avoid_bound Tryz.prog l0 r1 v2 h K) : CallsH Tryz.prog F_avoid_bound [l0, r1, v2].toArray h K :=
  callsH_of (ann := (annG (Tryz.f35.body.getD .skip) 0 [(3, [6, 11])]).1) (c := Tryz.f35.body.getD .skip) Tryz.func35 (by kernel_rfl) (by kernel_rfl) (by kernel_rfl) (of_decide_eq_true (by kernel_rfl))
    (Eq.mpr (by kernel_rfl) H)

/-! milestone/milestoneref10.To -/

def sh_milestoneref10_To (P : Program) (g0 t1 : Value) (h : Heap) (K : Value → Heap → Prop) : Prop :=
  pBox T_api_Raw g0 h fun g2 h_1 =>
  pBox T_milestoneref10_Tree (.agg #[(.slice none 0 0), (.slice none 0 0), (.slice none 0 0)]) h_1 fun t4 h_2 =>
  pLoadN 4 h_2 g2 fun t5 =>
  callS P F_milestoneref07_Turned [t5] h_2 fun t6 h_3 =>
  callS P F_milestoneref10_From [t6, t1] h_3 fun t8 h_4 =>
  pStore 3 t4 t8 h_4 fun u h_5 =>
  pLoadN 3 h_5 t4 fun res =>
  K res h_5

set_option maxRecDepth 100000 in
theorem lk_milestoneref10_To (g0 t1 : Value) {h : Heap} {K : Value → Heap → Prop} (H : sh_milestoneref10_To Tryz.prog g0 t1 h K) : CallsH Tryz.prog F_milestoneref10_To [g0, t1].toArray h K :=
  callsH_of (ann := (annG (Tryz.f36.body.getD .skip) 0 []).1) (c := Tryz.f36.body.getD .skip) Tryz.func36 (by kernel_rfl) (by kernel_rfl) (by kernel_rfl) (of_decide_eq_true (by kernel_rfl))
    (Eq.mpr (by kernel_rfl) H)

/-! milestone/milestoneref04.Low -/

def sh_milestoneref04_Low (P : Program) (v0 t1 : Value) (h : Heap) (K : Value → Heap → Prop) : Prop :=
  pBin .geq t1 (.int .i64 72057594037927936) fun t6 =>
  ifV t6
  (K (.int .i64 0) h)
  (pBin .geq v0 (.int .i64 72057594037927936) fun t8 =>
  ifV t8
  (K (.int .i64 72057594037927936) h)
  (callS P F_milestoneref04_within [v0, (.int .i64 72057594037927936)] h fun t10 h_1 =>
  callS P F_milestoneref04_within [t1, (.int .i64 72057594037927936)] h_1 fun t12 h_2 =>
  pBin .sub t10 t12 fun t13 =>
  callS P F_milestoneref04_within [t13, (.int .i64 72057594037927936)] h_2 fun t14 h_3 =>
  K t14 h_3))

set_option maxRecDepth 100000 in
theorem lk_milestoneref04_Low (v0 t1 : Value) {h : Heap} {K : Value → Heap → Prop} (H : sh_milestoneref04_Low Tryz.prog v0 t1 h K) : CallsH Tryz.prog F_milestoneref04_Low [v0, t1].toArray h K :=
  callsH_of (ann := (annG (Tryz.f37.body.getD .skip) 0 []).1) (c := Tryz.f37.body.getD .skip) Tryz.func37 (by kernel_rfl) (by kernel_rfl) (by kernel_rfl) (of_decide_eq_true (by kernel_rfl))
    (Eq.mpr (by kernel_rfl) H)

/-! milestone/milestoneref04.Lift -/

def sh_milestoneref04_Lift (P : Program) (v0 t1 : Value) (h : Heap) (K : Value → Heap → Prop) : Prop :=
  callS P F_milestoneref04_Low [t1, v0] h fun t7 h_1 =>
  K t7 h_1

set_option maxRecDepth 100000 in
theorem lk_milestoneref04_Lift (v0 t1 : Value) {h : Heap} {K : Value → Heap → Prop} (H : sh_milestoneref04_Lift Tryz.prog v0 t1 h K) : CallsH Tryz.prog F_milestoneref04_Lift [v0, t1].toArray h K :=
  callsH_of (ann := (annG (Tryz.f38.body.getD .skip) 0 []).1) (c := Tryz.f38.body.getD .skip) Tryz.func38 (by kernel_rfl) (by kernel_rfl) (by kernel_rfl) (of_decide_eq_true (by kernel_rfl))
    (Eq.mpr (by kernel_rfl) H)

/-! milestone/flood.flood -/

def sh_flood_flood_k1 (P : Program) (t8 : Value) (K : Value → Heap → Prop) (h_2 : Heap) : Prop :=
  pBuild [(.slice none 0 0), (.slice none 0 0), (.slice none 0 0)] [] fun t27 =>
  pStore 3 t8 t27 h_2 fun u h_3 =>
  pLoadN 3 h_3 t8 fun res =>
  K res h_3

def sh_flood_flood_B3 (P : Program) (h_28 : Heap) (r9 key11_1 : Value) (L : Loop) (t101 t102 : Value) (h_29 : Heap) (R : Exit → Heap → Prop) : Prop :=
  pBox T_api_Arc (.agg #[(.int .i64 0), (.int .i64 0), (.int .i64 0)]) h_29 fun a14 h_30 =>
  pStore 3 a14 t102 h_30 fun u_6 h_31 =>
  beginR (h_28.size + 1) L h_31 fun h_32 =>
  pLoad h_32 r9 fun t103 =>
  pField 1 a14 fun t104 =>
  pLoad h_32 t104 fun t105 =>
  pLoad h_32 key11_1 fun t107 =>
  pField 2 a14 fun t108 =>
  pLoad h_32 t108 fun t109 =>
  pBin .add t107 t109 fun t110 =>
  callS P F_flood_run_reach [t103, t105, t101, t110] h_32 fun t111 h_33 =>
  R .normal h_33

def sh_flood_flood_L2 (P : Program) (r9 next2 n0 end3 t8 : Value) (K : Value → Heap → Prop) (m : List Nat) (v10 key11_1 is12 : Value) (h_21 : Heap) (Z : List Nat → Value → Value → Value → Heap → Prop) : Prop :=
  ifV is12
  (pLoad h_21 r9 fun t68 =>
  pNil t68 fun t69 =>
  pField 4 t69 fun t70 =>
  pLoad h_21 t70 fun t71 =>
  pLook (.int .i64) (.int .i64 0) false h_21 t71 v10 fun t73 =>
  pBin .add t73 (.int .i64 1) fun t74 =>
  pMapSet (.int .i64) t71 v10 t74 h_21 fun u_3 h_22 =>
  pLoad h_22 r9 fun t75 =>
  pNil t75 fun t76 =>
  pField 1 t76 fun t77 =>
  pField 0 t77 fun t78 =>
  pLoad h_22 t78 fun t79 =>
  pLoad h_22 key11_1 fun t81 =>
  pIdx 1 t79 v10 fun t82 =>
  pStore 1 t82 t81 h_22 fun u_4 h_23 =>
  pLoad h_23 r9 fun t83 =>
  pLoad h_23 r9 fun t84 =>
  pNil t84 fun t85 =>
  pField 1 t85 fun t86 =>
  pField 2 t86 fun t87 =>
  pLoad h_23 t87 fun t88 =>
  pBuildSlice T_int (zerosL [(.int .i64 0)] 1) [(0, 1, v10)] 1 h_23 fun t90 h_24 =>
  pAppend T_int 1 8 [(.int .i64 0)] t88 t90 h_24 fun t91 h_25 =>
  (pLoad h_25 r9 fun t83_1 =>
  t83_1 = t83) ∧
  (pNil t83 fun t92 =>
  pField 1 t92 fun t93 =>
  pField 2 t93 fun t94 =>
  pStore 1 t94 t91 h_25 fun u_5 h_26 =>
  callV P next2 [v10].toArray h_26 fun t98 h_27 =>
  callS P F_flood_arcs [n0, t98, end3] h_27 fun t100 h_28 =>
  rangeH P t100 [101, 102] (h_28.size + 1) (h_28.push (.deferred (some []))) (fun L x hh R => sh_flood_flood_B3 P h_28 r9 key11_1 L x.1 x.2.1 hh R)
  (fun h_34 => pLoad h_34 key11_1 fun t112 =>
  pBox T_int64 (.int .i64 0) h_34 fun key11_2 h_35 =>
  pStore 1 key11_2 t112 h_35 fun u_7 h_36 =>
  pLoad h_36 r9 fun t60 =>
  pNil t60 fun t61 =>
  pField 0 t61 fun t62 =>
  pLoad h_36 t62 fun t63 =>
  callS P F_heap_Heap_Pop [t63] h_36 fun t64 h_37 =>
  pExt t64 0 fun t65 =>
  pExt t64 1 fun t66 =>
  pExt t64 2 fun t67 =>
  pStore 1 key11_2 t66 h_37 fun u_8 h_38 =>
  Z (h_28.size :: m) t65 key11_2 t67 h_38)
  (fun h_39 => takeM (h_28.size :: m) h_39 fun h_40 =>
  pLoadN 3 h_40 t8 fun res_1 =>
  K res_1 h_40)
  []))
  (pLoad h_21 r9 fun t113 =>
  pNil t113 fun t114 =>
  pField 1 t114 fun t115 =>
  pLoadN 3 h_21 t115 fun t116 =>
  pStore 3 t8 t116 h_21 fun u_9 h_41 =>
  takeM m h_41 fun h_42 =>
  pLoadN 3 h_42 t8 fun res_2 =>
  K res_2 h_42)

def sh_flood_flood (P : Program) (n0 s1 next2 end3 : Value) (h : Heap) (K : Value → Heap → Prop) : Prop :=
  pBox T_flood_Tree (.agg #[(.slice none 0 0), (.slice none 0 0), (.slice none 0 0)]) h fun t8 h_1 =>
  pEq false .ptr n0 (.pointer none) fun t16 =>
  ifV t16
  (sh_flood_flood_k1 P t8 K h_1)
  (pBin .lss s1 (.int .i64 0) fun t19 =>
  ifV t19
  (sh_flood_flood_k1 P t8 K h_1)
  (callS P F_net_Net_Nodes [n0] h_1 fun t24 h_4 =>
  pBin .geq s1 t24 fun t25 =>
  ifV t25
  (sh_flood_flood_k1 P t8 K h_4)
  (callS P F_net_Net_Nodes [n0] h_4 fun t29 h_5 =>
  callS P F_heap_New [t29] h_5 fun t30 h_6 =>
  pBuildSlice T_int64 (zerosL [(.int .i64 0)] 1) [(0, 1, (.int .i64 72057594037927936))] 1 h_6 fun t31 h_7 =>
  callS P F_net_Net_Nodes [n0] h_7 fun t33 h_8 =>
  callS P F_slices_Repeat_sl_int64_int64 [t31, t33] h_8 fun t34 h_9 =>
  pBuildSlice T_int (zerosL [(.int .i64 0)] 1) [(0, 1, (.int .i64 (-1)))] 1 h_9 fun t35 h_10 =>
  callS P F_net_Net_Nodes [n0] h_10 fun t37 h_11 =>
  callS P F_slices_Repeat_sl_int_int [t35, t37] h_11 fun t38 h_12 =>
  pBuild [(.slice none 0 0), (.slice none 0 0), (.slice none 0 0)] [(0, 1, t34), (1, 1, t38)] fun t39 =>
  pMakeMap h_12 fun t40 h_13 =>
  pBuild [(.pointer none), (.slice none 0 0), (.slice none 0 0), (.slice none 0 0), (.map none)] [(0, 1, t30), (1, 3, t39), (4, 1, t40)] fun t41 =>
  pBox T_flood_run t41 h_13 fun t42 h_14 =>
  pBox T_p_flood_run (.pointer none) h_14 fun r9 h_15 =>
  pStore 1 r9 t42 h_15 fun u_1 h_16 =>
  pLoad h_16 r9 fun t43 =>
  pNil t43 fun t44 =>
  pField 0 t44 fun t45 =>
  pLoad h_16 t45 fun t46 =>
  callS P F_heap_Heap_Push [t46, s1, (.int .i64 0)] h_16 fun t48 h_17 =>
  pLoad h_17 r9 fun t50 =>
  pNil t50 fun t51 =>
  pField 0 t51 fun t52 =>
  pLoad h_17 t52 fun t53 =>
  callS P F_heap_Heap_Pop [t53] h_17 fun t54 h_18 =>
  pExt t54 0 fun t55 =>
  pExt t54 1 fun t56 =>
  pExt t54 2 fun t57 =>
  pBox T_int64 (.int .i64 0) h_18 fun key11 h_19 =>
  pStore 1 key11 t56 h_19 fun u_2 h_20 =>
  LoopH (σ := List Nat × Vals [10, 11, 12]) (fun x hh ZZ => sh_flood_flood_L2 P r9 next2 n0 end3 t8 K x.1 x.2.1 x.2.2.1 x.2.2.2.1 hh (fun mz a0 a1 a2 hz => ZZ (mz, (a0, (a1, (a2, ())))) hz)) ([], (t55, (key11, (t57, ())))) h_20)))

set_option maxRecDepth 100000 in
theorem lk_flood_flood (n0 s1 next2 end3 : Value) {h : Heap} {K : Value → Heap → Prop} (H : sh_flood_flood Tryz.prog n0 s1 next2 end3 h K) : CallsH Tryz.prog F_flood_flood [n0, s1, next2, end3].toArray h K :=
  callsH_of (ann := (annG (Tryz.f39.body.getD .skip) 0 [(8, [10, 11, 12])]).1) (c := Tryz.f39.body.getD .skip) Tryz.func39 (by kernel_rfl) (by kernel_rfl) (by kernel_rfl) (of_decide_eq_true (by kernel_rfl))
    (Eq.mpr (by kernel_rfl) H)

/-! (*milestone/net.Net).Out -/

def sh_net_Net_Out (P : Program) (n0 v1 : Value) (h : Heap) (K : Value → Heap → Prop) : Prop :=
  pEq false .ptr n0 (.pointer none) fun t8 =>
  ifV t8
  (K (.slice none 0 0) h)
  (pNil n0 fun t11 =>
  pField 4 t11 fun t12 =>
  pLoad h t12 fun t13 =>
  callS P F_net_one_sl_int [t13, v1] h fun t15 h_1 =>
  pExt t15 0 fun t16 =>
  pExt t15 1 fun t17 =>
  callS P F_slices_Clone_sl_int_int [t16] h_1 fun t19 h_2 =>
  K t19 h_2)

set_option maxRecDepth 100000 in
theorem lk_net_Net_Out (n0 v1 : Value) {h : Heap} {K : Value → Heap → Prop} (H : sh_net_Net_Out Tryz.prog n0 v1 h K) : CallsH Tryz.prog F_net_Net_Out [n0, v1].toArray h K :=
  callsH_of (ann := (annG (Tryz.f40.body.getD .skip) 0 []).1) (c := Tryz.f40.body.getD .skip) Tryz.func40 (by kernel_rfl) (by kernel_rfl) (by kernel_rfl) (of_decide_eq_true (by kernel_rfl))
    (Eq.mpr (by kernel_rfl) H)

/-! milestone/flood.From$1 -/

def sh_flood_From_1 (P : Program) (a0 : Value) (h : Heap) (K : Value → Heap → Prop) : Prop :=
  pBox T_api_Arc a0 h fun a1 h_1 =>
  pField 1 a1 fun t3 =>
  pLoad h_1 t3 fun t4 =>
  K t4 h_1

set_option maxRecDepth 100000 in
theorem lk_flood_From_1 (a0 : Value) {h : Heap} {K : Value → Heap → Prop} (H : sh_flood_From_1 Tryz.prog a0 h K) : CallsH Tryz.prog F_flood_From_1 [a0].toArray h K :=
  callsH_of (ann := (annG (Tryz.f41.body.getD .skip) 0 []).1) (c := Tryz.f41.body.getD .skip) Tryz.func41 (by kernel_rfl) (by kernel_rfl) (by kernel_rfl) (of_decide_eq_true (by kernel_rfl))
    (Eq.mpr (by kernel_rfl) H)

/-! (*milestone/draw.Draws).Left -/

def sh_draw_Draws_Left (P : Program) (d0 : Value) (h : Heap) (K : Value → Heap → Prop) : Prop :=
  pEq false .ptr d0 (.pointer none) fun t4 =>
  ifV t4
  (K (.int .i64 0) h)
  (pNil d0 fun t6 =>
  pField 0 t6 fun t7 =>
  pLoad h t7 fun t8 =>
  pLen t8 fun t9 =>
  K t9 h)

set_option maxRecDepth 100000 in
theorem lk_draw_Draws_Left (d0 : Value) {h : Heap} {K : Value → Heap → Prop} (H : sh_draw_Draws_Left Tryz.prog d0 h K) : CallsH Tryz.prog F_draw_Draws_Left [d0].toArray h K :=
  callsH_of (ann := (annG (Tryz.f42.body.getD .skip) 0 []).1) (c := Tryz.f42.body.getD .skip) Tryz.func42 (by kernel_rfl) (by kernel_rfl) (by kernel_rfl) (of_decide_eq_true (by kernel_rfl))
    (Eq.mpr (by kernel_rfl) H)

/-! milestone/draw.first[uint32] -/

def sh_draw_first_uint32 (P : Program) (l0 : Value) (h : Heap) (K : Value → Heap → Prop) : Prop :=
  pIdx 1 l0 (.int .i64 0) fun t5 =>
  pLoad h t5 fun t6 =>
  pLen l0 fun t9 =>
  pLen l0 fun t11 =>
  pSlice 1 l0 (some (.int .i64 1)) (some t9) (some t11) fun t12 =>
  K (.tuple #[t6, t12]) h

set_option maxRecDepth 100000 in
theorem lk_draw_first_uint32 (l0 : Value) {h : Heap} {K : Value → Heap → Prop} (H : sh_draw_first_uint32 Tryz.prog l0 h K) : CallsH Tryz.prog F_draw_first_uint32 [l0].toArray h K :=
  callsH_of (ann := (annG (Tryz.f43.body.getD .skip) 0 []).1) (c := Tryz.f43.body.getD .skip) Tryz.func43 (by kernel_rfl) (by kernel_rfl) (by kernel_rfl) (of_decide_eq_true (by kernel_rfl))
    (Eq.mpr (by kernel_rfl) H)

/-! (*milestone/milestoneref07.Draft).Next -/

def sh_milestoneref07_Draft_Next_k1 (P : Program) (K : Value → Heap → Prop) (h_1 : Heap) : Prop :=
  K (.int .i64 0) h_1

def sh_milestoneref07_Draft_Next (P : Program) (d0 n1 : Value) (h : Heap) (K : Value → Heap → Prop) : Prop :=
  pNil d0 fun t6 =>
  pField 0 t6 fun t7 =>
  pLoad h t7 fun t8 =>
  pLen t8 fun t9 =>
  pBin .eql t9 (.int .i64 0) fun t10 =>
  ifV t10
  (sh_milestoneref07_Draft_Next_k1 P K h)
  (pBin .lss n1 (.int .i64 1) fun t13 =>
  ifV t13
  (sh_milestoneref07_Draft_Next_k1 P K h)
  (pNil d0 fun t16 =>
  pField 1 t16 fun t17 =>
  pLoad h t17 fun t18 =>
  pBin .add t18 (.int .i64 1) fun t19 =>
  pNil d0 fun t20 =>
  pField 1 t20 fun t21 =>
  pStore 1 t21 t19 h fun u h_2 =>
  pNil d0 fun t23 =>
  pField 0 t23 fun t24 =>
  pLoad h_2 t24 fun t25 =>
  pNil d0 fun t27 =>
  pField 1 t27 fun t28 =>
  pLoad h_2 t28 fun t29 =>
  pBin .sub t29 (.int .i64 1) fun t30 =>
  pNil d0 fun t32 =>
  pField 0 t32 fun t33 =>
  pLoad h_2 t33 fun t34 =>
  pLen t34 fun t35 =>
  pBin .rem t30 t35 fun t36 =>
  pIdx 1 t25 t36 fun t37 =>
  pLoad h_2 t37 fun t38 =>
  pNil d0 fun t40 =>
  pField 1 t40 fun t41 =>
  pLoad h_2 t41 fun t42 =>
  pBin .sub t42 (.int .i64 1) fun t43 =>
  pNil d0 fun t45 =>
  pField 0 t45 fun t46 =>
  pLoad h_2 t46 fun t47 =>
  pLen t47 fun t48 =>
  pBin .quo t43 t48 fun t49 =>
  pConv .u8 t49 fun t50 =>
  pBin .add t38 t50 fun t51 =>
  pConv .i64 t51 fun t52 =>
  pBin .rem t52 n1 fun t54 =>
  K t54 h_2))

set_option maxRecDepth 100000 in
theorem lk_milestoneref07_Draft_Next (d0 n1 : Value) {h : Heap} {K : Value → Heap → Prop} (H : sh_milestoneref07_Draft_Next Tryz.prog d0 n1 h K) : CallsH Tryz.prog F_milestoneref07_Draft_Next [d0, n1].toArray h K :=
  callsH_of (ann := (annG (Tryz.f44.body.getD .skip) 0 []).1) (c := Tryz.f44.body.getD .skip) Tryz.func44 (by kernel_rfl) (by kernel_rfl) (by kernel_rfl) (of_decide_eq_true (by kernel_rfl))
    (Eq.mpr (by kernel_rfl) H)

/-! (*milestone/milestoneref07.Draft).Weight -/

def sh_milestoneref07_Draft_Weight (P : Program) (d0 : Value) (h : Heap) (K : Value → Heap → Prop) : Prop :=
  callS P F_milestoneref07_Draft_Next [d0, (.int .i64 12)] h fun t5 h_1 =>
  pBin .lss t5 (.int .i64 3) fun t8 =>
  ifV t8
  (K (.int .i64 0) h_1)
  (pBin .lss t5 (.int .i64 10) fun t11 =>
  ifV t11
  (callS P F_milestoneref07_Draft_Next [d0, (.int .i64 9)] h_1 fun t13 h_2 =>
  pBin .add (.int .i64 1) t13 fun t14 =>
  K t14 h_2)
  (pBin .lss t5 (.int .i64 11) fun t17 =>
  ifV t17
  (callS P F_milestoneref07_Draft_Next [d0, (.int .i64 20)] h_1 fun t19 h_3 =>
  pBin .mul (.int .i64 100) t19 fun t20 =>
  K t20 h_3)
  (callS P F_milestoneref07_Draft_Next [d0, (.int .i64 2)] h_1 fun t22 h_4 =>
  pBin .sub (.int .i64 2147483647) t22 fun t23 =>
  K t23 h_4)))

set_option maxRecDepth 100000 in
theorem lk_milestoneref07_Draft_Weight (d0 : Value) {h : Heap} {K : Value → Heap → Prop} (H : sh_milestoneref07_Draft_Weight Tryz.prog d0 h K) : CallsH Tryz.prog F_milestoneref07_Draft_Weight [d0].toArray h K :=
  callsH_of (ann := (annG (Tryz.f45.body.getD .skip) 0 []).1) (c := Tryz.f45.body.getD .skip) Tryz.func45 (by kernel_rfl) (by kernel_rfl) (by kernel_rfl) (of_decide_eq_true (by kernel_rfl))
    (Eq.mpr (by kernel_rfl) H)

/-! milestone/graph.Check -/

def sh_graph_Check (P : Program) (r0 : Value) (h : Heap) (K : Value → Heap → Prop) : Prop :=
  pBox T_api_Raw r0 h fun r1 h_1 =>
  pBox T_error .nilIface h_1 fun err2 h_2 =>
  pLoadN 4 h_2 r1 fun t4 =>
  callS P F_graph_look [t4] h_2 fun t5 h_3 =>
  pStore 1 err2 .nilIface h_3 fun u h_4 =>
  DeferS P F_graph_Check_1 #[err2] h_4 fun h_5 =>
  pLoad h_5 err2 fun res =>
  K res h_5

set_option maxRecDepth 100000 in
theorem lk_graph_Check (r0 : Value) {h : Heap} {K : Value → Heap → Prop} (H : sh_graph_Check Tryz.prog r0 h K) : CallsH Tryz.prog F_graph_Check [r0].toArray h K :=
  callsH_defer (g := F_graph_Check_1) (A := cL (Tryz.f46.body.getD .skip)) (B := cR (cR (Tryz.f46.body.getD .skip))) (annA := (annG (cL (Tryz.f46.body.getD .skip)) 0 []).1) (annB := (annG (cR (cR (Tryz.f46.body.getD .skip))) 0 []).1) (id := cId (cL (cR (Tryz.f46.body.getD .skip)))) (o1 := cO 0 (cL (cR (Tryz.f46.body.getD .skip)))) (o2 := cO 1 (cL (cR (Tryz.f46.body.getD .skip)))) (s := 3) (caps := #[(.tmp 2)]) (c := { callee := .value (.tmp 3), args := #[], argTypes := #[] })
    Tryz.func46 (by kernel_rfl) (by kernel_rfl) (by kernel_rfl) (of_decide_eq_true (by kernel_rfl)) (by kernel_rfl) (by kernel_rfl) (by kernel_rfl) (by kernel_rfl) rfl rfl (by kernel_rfl) (by kernel_rfl)
    (Eq.mpr (by kernel_rfl) H)

end Go.Proofs.YtoopkllfpmjnfaaGreatDoor

namespace Go.Proofs.YtoopkllfpmjnfaaGreatDoor
open Go Go.Mh
set_option maxHeartbeats 0
set_option linter.unusedVariables false

/-! milestone/net.of -/

def sh_net_of (P : Program) (raw0 : Value) (h : Heap) (K : Value → Heap → Prop) : Prop :=
  pBox T_api_Raw raw0 h fun raw1 h_1 =>
  pLoadN 4 h_1 raw1 fun t5 =>
  pBuild [(.int .i64 0), (.slice none 0 0), (.slice none 0 0), (.slice none 0 0), (.slice none 0 0), (.slice none 0 0)] [(0, 4, t5)] fun t6 =>
  pBox T_net_Net t6 h_1 fun t7 h_2 =>
  callV P (.func (.func F_net_of_1) #[] #[raw1]) [(.func (.func F_net_of_2) #[] #[])].toArray h_2 fun t12 h_3 =>
  callV P (.func (.func F_net_of_1) #[] #[raw1]) [(.func (.func F_net_of_3) #[] #[])].toArray h_3 fun t14 h_4 =>
  pNil t7 fun t15 =>
  pField 4 t15 fun t16 =>
  pStore 1 t16 t12 h_4 fun u h_5 =>
  pNil t7 fun t17 =>
  pField 5 t17 fun t18 =>
  pStore 1 t18 t14 h_5 fun u_1 h_6 =>
  K t7 h_6

set_option maxRecDepth 100000 in
theorem lk_net_of (raw0 : Value) {h : Heap} {K : Value → Heap → Prop} (H : sh_net_of Tryz.prog raw0 h K) : CallsH Tryz.prog F_net_of [raw0].toArray h K :=
  callsH_of (ann := (annG (Tryz.f48.body.getD .skip) 0 []).1) (c := Tryz.f48.body.getD .skip) Tryz.func48 (by kernel_rfl) (by kernel_rfl) (by kernel_rfl) (of_decide_eq_true (by kernel_rfl))
    (Eq.mpr (by kernel_rfl) H)

/-! milestone/net.own -/

def sh_net_own (P : Program) (raw0 : Value) (h : Heap) (K : Value → Heap → Prop) : Prop :=
  pBox T_api_Raw raw0 h fun raw1 h_1 =>
  pBox T_api_Raw (.agg #[(.int .i64 0), (.slice none 0 0), (.slice none 0 0), (.slice none 0 0)]) h_1 fun t2 h_2 =>
  pField 1 raw1 fun t3 =>
  pLoad h_2 t3 fun t4 =>
  pField 2 raw1 fun t6 =>
  pLoad h_2 t6 fun t7 =>
  pField 3 raw1 fun t9 =>
  pLoad h_2 t9 fun t10 =>
  callS P F_slices_Clone_sl_int64_int64 [t4] h_2 fun t5 h_3 =>
  (pLoad h_3 t6 fun t7_1 =>
  t7_1 = t7) ∧
  (pLoad h_3 t9 fun t10_1 =>
  t10_1 = t10) ∧
  (pField 1 raw1 fun t12 =>
  callS P F_slices_Clone_sl_int64_int64 [t7] h_3 fun t8 h_4 =>
  (pLoad h_4 t9 fun t10_2 =>
  t10_2 = t10) ∧
  (callS P F_slices_Clone_sl_api_Arc_api_Arc [t10] h_4 fun t11 h_5 =>
  pStore 1 t12 t5 h_5 fun u h_6 =>
  pField 2 raw1 fun t13 =>
  pStore 1 t13 t8 h_6 fun u_1 h_7 =>
  pField 3 raw1 fun t14 =>
  pStore 1 t14 t11 h_7 fun u_2 h_8 =>
  pLoadN 4 h_8 raw1 fun t15 =>
  pStore 4 t2 t15 h_8 fun u_3 h_9 =>
  pLoadN 4 h_9 t2 fun res =>
  K res h_9))

set_option maxRecDepth 100000 in
theorem lk_net_own (raw0 : Value) {h : Heap} {K : Value → Heap → Prop} (H : sh_net_own Tryz.prog raw0 h K) : CallsH Tryz.prog F_net_own [raw0].toArray h K :=
  callsH_of (ann := (annG (Tryz.f49.body.getD .skip) 0 []).1) (c := Tryz.f49.body.getD .skip) Tryz.func49 (by kernel_rfl) (by kernel_rfl) (by kernel_rfl) (of_decide_eq_true (by kernel_rfl))
    (Eq.mpr (by kernel_rfl) H)

/-! milestone/avoid.best[int64] -/

def sh_avoid_best_int64_k2 (P : Program) (first5 t9 : Value) (R : Exit → Heap → Prop) (h_7 : Heap) : Prop :=
  pStore 1 first5 t9 h_7 fun u_1 h_8 =>
  R .normal h_8

def sh_avoid_best_int64_B1 (P : Program) (h_3 : Heap) (has3 first5 : Value) (L : Loop) (t9 : Value) (h_4 : Heap) (R : Exit → Heap → Prop) : Prop :=
  beginR (h_3.size + 1) L h_4 fun h_5 =>
  pLoad h_5 has3 fun t10 =>
  callV P t10 [t9].toArray h_5 fun t12 h_6 =>
  pBin .gtr t12 (.int .i64 0) fun t14 =>
  ifV t14
  (pLoad h_6 first5 fun t16 =>
  pBin .lss t16 (.int .i64 0) fun t17 =>
  ifV t17
  (sh_avoid_best_int64_k2 P first5 t9 R h_6)
  (pLoad h_6 has3 fun t20 =>
  pLoad h_6 first5 fun t21 =>
  callV P t20 [t21].toArray h_6 fun t22 h_9 =>
  pBin .gtr t12 t22 fun t23 =>
  ifV t23
  (sh_avoid_best_int64_k2 P first5 t9 R h_9)
  (pLoad h_9 has3 fun t27 =>
  pLoad h_9 first5 fun t28 =>
  callV P t27 [t28].toArray h_9 fun t29 h_10 =>
  pBin .eql t12 t29 fun t30 =>
  ifV t30
  (pLoad h_10 first5 fun t33 =>
  pBin .lss t9 t33 fun t34 =>
  ifV t34
  (sh_avoid_best_int64_k2 P first5 t9 R h_10)
  (R .normal h_10))
  (R .normal h_10))))
  (R .normal h_6)

def sh_avoid_best_int64 (P : Program) (l0 has1 : Value) (h : Heap) (K : Value → Heap → Prop) : Prop :=
  pBox T_func_int_int64 has1 h fun has3 h_1 =>
  pBox T_int (.int .i64 0) h_1 fun first5 h_2 =>
  pStore 1 first5 (.int .i64 (-1)) h_2 fun u h_3 =>
  rangeH P l0 [9] (h_3.size + 1) (h_3.push (.deferred (some []))) (fun L x hh R => sh_avoid_best_int64_B1 P h_3 has3 first5 L x.1 hh R)
  (fun h_11 => pLoad h_11 first5 fun t39 =>
  takeM (h_3.size :: []) h_11 fun h_12 =>
  K t39 h_12)
  (fun h_13 => takeM (h_3.size :: []) h_13 fun h_14 =>
  K (.int .i64 0) h_14)
  []

set_option maxRecDepth 100000 in
theorem lk_avoid_best_int64 (l0 has1 : Value) {h : Heap} {K : Value → Heap → Prop} (H : sh_avoid_best_int64 Tryz.prog l0 has1 h K) : CallsH Tryz.prog F_avoid_best_int64 [l0, has1].toArray h K :=
  callsH_of (ann := (annG (Tryz.f50.body.getD .skip) 0 []).1) (c := Tryz.f50.body.getD .skip) Tryz.func50 (by kernel_rfl) (by kernel_rfl) (by kernel_rfl) (of_decide_eq_true (by kernel_rfl))
    (Eq.mpr (by kernel_rfl) H)

/-! slices.Values[[]int,int] -/

def sh_slices_Values_sl_int_int (P : Program) (s0 : Value) (h : Heap) (K : Value → Heap → Prop) : Prop :=
  pBox T_sl_int s0 h fun s1 h_1 =>
  K (.func (.func F_slices_Values_sl_int_int_1) #[] #[s1]) h_1

set_option maxRecDepth 100000 in
theorem lk_slices_Values_sl_int_int (s0 : Value) {h : Heap} {K : Value → Heap → Prop} (H : sh_slices_Values_sl_int_int Tryz.prog s0 h K) : CallsH Tryz.prog F_slices_Values_sl_int_int [s0].toArray h K :=
  callsH_of (ann := (annG (Tryz.f51.body.getD .skip) 0 []).1) (c := Tryz.f51.body.getD .skip) Tryz.func51 (by kernel_rfl) (by kernel_rfl) (by kernel_rfl) (of_decide_eq_true (by kernel_rfl))
    (Eq.mpr (by kernel_rfl) H)

/-! (*milestone/avoid.tree).size -/

def sh_avoid_tree_size (P : Program) (t0 v1 : Value) (h : Heap) (K : Value → Heap → Prop) : Prop :=
  pNil t0 fun t6 =>
  pField 4 t6 fun t7 =>
  pLoad h t7 fun t8 =>
  pIdx 1 t8 v1 fun t10 =>
  pLoad h t10 fun t11 =>
  K t11 h

set_option maxRecDepth 100000 in
theorem lk_avoid_tree_size (t0 v1 : Value) {h : Heap} {K : Value → Heap → Prop} (H : sh_avoid_tree_size Tryz.prog t0 v1 h K) : CallsH Tryz.prog F_avoid_tree_size [t0, v1].toArray h K :=
  callsH_of (ann := (annG (Tryz.f52.body.getD .skip) 0 []).1) (c := Tryz.f52.body.getD .skip) Tryz.func52 (by kernel_rfl) (by kernel_rfl) (by kernel_rfl) (of_decide_eq_true (by kernel_rfl))
    (Eq.mpr (by kernel_rfl) H)

/-! slices.ContainsFunc[[]milestone/avoid.mark,milestone/avoid.mark] -/

def sh_slices_ContainsFunc_sl_avoid_mark_avoid_mark (P : Program) (s0 f1 : Value) (h : Heap) (K : Value → Heap → Prop) : Prop :=
  callS P F_slices_IndexFunc_sl_avoid_mark_avoid_mark [s0, f1] h fun t7 h_1 =>
  pBin .geq t7 (.int .i64 0) fun t8 =>
  K t8 h_1

set_option maxRecDepth 100000 in
theorem lk_slices_ContainsFunc_sl_avoid_mark_avoid_mark (s0 f1 : Value) {h : Heap} {K : Value → Heap → Prop} (H : sh_slices_ContainsFunc_sl_avoid_mark_avoid_mark Tryz.prog s0 f1 h K) : CallsH Tryz.prog F_slices_ContainsFunc_sl_avoid_mark_avoid_mark [s0, f1].toArray h K :=
  callsH_of (ann := (annG (Tryz.f53.body.getD .skip) 0 []).1) (c := Tryz.f53.body.getD .skip) Tryz.func53 (by kernel_rfl) (by kernel_rfl) (by kernel_rfl) (of_decide_eq_true (by kernel_rfl))
    (Eq.mpr (by kernel_rfl) H)

/-! milestone/avoid.next$1 -/

def sh_avoid_next_1 (P : Program) (m0 t1 : Value) (h : Heap) (K : Value → Heap → Prop) : Prop :=
  pBox T_avoid_mark m0 h fun m2 h_1 =>
  pField 0 m2 fun t4 =>
  pLoad h_1 t4 fun t5 =>
  pLoad h_1 t1 fun t6 =>
  pBin .eql t5 t6 fun t7 =>
  K t7 h_1

set_option maxRecDepth 100000 in
theorem lk_avoid_next_1 (m0 t1 : Value) {h : Heap} {K : Value → Heap → Prop} (H : sh_avoid_next_1 Tryz.prog m0 t1 h K) : CallsH Tryz.prog F_avoid_next_1 [m0, t1].toArray h K :=
  callsH_of (ann := (annG (Tryz.f54.body.getD .skip) 0 []).1) (c := Tryz.f54.body.getD .skip) Tryz.func54 (by kernel_rfl) (by kernel_rfl) (by kernel_rfl) (of_decide_eq_true (by kernel_rfl))
    (Eq.mpr (by kernel_rfl) H)

/-! milestone/flood.To -/

def sh_flood_To (P : Program) (n0 t1 : Value) (h : Heap) (K : Value → Heap → Prop) : Prop :=
  pBox T_flood_Tree (.agg #[(.slice none 0 0), (.slice none 0 0), (.slice none 0 0)]) h fun t4 h_1 =>
  callS P F_flood_flood [n0, t1, (.func (.func F_net_Net_In) #[n0] #[]), (.func (.func F_flood_To_1) #[] #[])] h_1 fun t9 h_2 =>
  pStore 3 t4 t9 h_2 fun u h_3 =>
  pLoadN 3 h_3 t4 fun res =>
  K res h_3

set_option maxRecDepth 100000 in
theorem lk_flood_To (n0 t1 : Value) {h : Heap} {K : Value → Heap → Prop} (H : sh_flood_To Tryz.prog n0 t1 h K) : CallsH Tryz.prog F_flood_To [n0, t1].toArray h K :=
  callsH_of (ann := (annG (Tryz.f55.body.getD .skip) 0 []).1) (c := Tryz.f55.body.getD .skip) Tryz.func55 (by kernel_rfl) (by kernel_rfl) (by kernel_rfl) (of_decide_eq_true (by kernel_rfl))
    (Eq.mpr (by kernel_rfl) H)

/-! milestone/avoid.behind -/

def sh_avoid_behind (P : Program) (order0 : Value) (h : Heap) (K : Value → Heap → Prop) : Prop :=
  pBox T_sl_int order0 h fun order1 h_1 =>
  K (.func (.func F_avoid_behind_1) #[] #[order1]) h_1

set_option maxRecDepth 100000 in
theorem lk_avoid_behind (order0 : Value) {h : Heap} {K : Value → Heap → Prop} (H : sh_avoid_behind Tryz.prog order0 h K) : CallsH Tryz.prog F_avoid_behind [order0].toArray h K :=
  callsH_of (ann := (annG (Tryz.f56.body.getD .skip) 0 []).1) (c := Tryz.f56.body.getD .skip) Tryz.func56 (by kernel_rfl) (by kernel_rfl) (by kernel_rfl) (of_decide_eq_true (by kernel_rfl))
    (Eq.mpr (by kernel_rfl) H)

/-! milestone/dist.Sat -/

def sh_dist_Sat (P : Program) (a0 b1 : Value) (h : Heap) (K : Value → Heap → Prop) : Prop :=
  callS P F_dist_between_int64 [(.int .i64 0), (.int .i64 2305843009213693952)] h fun t5 h_1 =>
  pBuildSlice T_int64 (zerosL [(.int .i64 0)] 2) [(0, 1, a0), (1, 1, b1)] 2 h_1 fun t8 h_2 =>
  callS P F_dist_folded [t5, t8] h_2 fun t9 h_3 =>
  K t9 h_3

set_option maxRecDepth 100000 in
theorem lk_dist_Sat (a0 b1 : Value) {h : Heap} {K : Value → Heap → Prop} (H : sh_dist_Sat Tryz.prog a0 b1 h K) : CallsH Tryz.prog F_dist_Sat [a0, b1].toArray h K :=
  callsH_of (ann := (annG (Tryz.f57.body.getD .skip) 0 []).1) (c := Tryz.f57.body.getD .skip) Tryz.func57 (by kernel_rfl) (by kernel_rfl) (by kernel_rfl) (of_decide_eq_true (by kernel_rfl))
    (Eq.mpr (by kernel_rfl) H)

/-! (*milestone/net.Net).Arc -/

def sh_net_Net_Arc (P : Program) (n0 a1 : Value) (h : Heap) (K : Value → Heap → Prop) : Prop :=
  pBox T_api_Arc (.agg #[(.int .i64 0), (.int .i64 0), (.int .i64 0)]) h fun t4 h_1 =>
  pEq false .ptr n0 (.pointer none) fun t7 =>
  ifV t7
  (pBuild [(.int .i64 0), (.int .i64 0), (.int .i64 0)] [] fun t8 =>
  pStore 3 t4 t8 h_1 fun u h_2 =>
  pLoadN 3 h_2 t4 fun res =>
  K (.tuple #[res, (.bool false)]) h_2)
  (pNil n0 fun t10 =>
  pField 0 t10 fun t11 =>
  pField 3 t11 fun t12 =>
  pLoad h_1 t12 fun t13 =>
  callS P F_net_one_api_Arc [t13, a1] h_1 fun t15 h_3 =>
  pExt t15 0 fun t16 =>
  pExt t15 1 fun t17 =>
  pStore 3 t4 t16 h_3 fun u_1 h_4 =>
  pLoadN 3 h_4 t4 fun res_1 =>
  K (.tuple #[res_1, t17]) h_4)

set_option maxRecDepth 100000 in
theorem lk_net_Net_Arc (n0 a1 : Value) {h : Heap} {K : Value → Heap → Prop} (H : sh_net_Net_Arc Tryz.prog n0 a1 h K) : CallsH Tryz.prog F_net_Net_Arc [n0, a1].toArray h K :=
  callsH_of (ann := (annG (Tryz.f58.body.getD .skip) 0 []).1) (c := Tryz.f58.body.getD .skip) Tryz.func58 (by kernel_rfl) (by kernel_rfl) (by kernel_rfl) (of_decide_eq_true (by kernel_rfl))
    (Eq.mpr (by kernel_rfl) H)

/-! milestone/milestoneref08.New -/

def sh_milestoneref08_New (P : Program) (n0 : Value) (h : Heap) (K : Value → Heap → Prop) : Prop :=
  pMax n0 (.int .i64 0) fun t4 =>
  pBuild [(.int .i64 0), (.slice none 0 0)] [(0, 1, t4)] fun t5 =>
  pBox T_milestoneref08_Heap t5 h fun t6 h_1 =>
  K t6 h_1

set_option maxRecDepth 100000 in
theorem lk_milestoneref08_New (n0 : Value) {h : Heap} {K : Value → Heap → Prop} (H : sh_milestoneref08_New Tryz.prog n0 h K) : CallsH Tryz.prog F_milestoneref08_New [n0].toArray h K :=
  callsH_of (ann := (annG (Tryz.f59.body.getD .skip) 0 []).1) (c := Tryz.f59.body.getD .skip) Tryz.func59 (by kernel_rfl) (by kernel_rfl) (by kernel_rfl) (of_decide_eq_true (by kernel_rfl))
    (Eq.mpr (by kernel_rfl) H)

/-! (*milestone/milestoneref08.Heap).Push -/

def sh_milestoneref08_Heap_Push_k1 (P : Program) (K : Value → Heap → Prop) (h_1 : Heap) : Prop :=
  K (.int .i64 2) h_1

def sh_milestoneref08_Heap_Push (P : Program) (h0 id1 key2 : Value) (h : Heap) (K : Value → Heap → Prop) : Prop :=
  pBin .lss id1 (.int .i64 0) fun t8 =>
  ifV t8
  (sh_milestoneref08_Heap_Push_k1 P K h)
  (pNil h0 fun t12 =>
  pField 0 t12 fun t13 =>
  pLoad h t13 fun t14 =>
  pBin .geq id1 t14 fun t15 =>
  ifV t15
  (sh_milestoneref08_Heap_Push_k1 P K h)
  (callS P F_milestoneref08_Heap_at [h0, id1] h fun t20 h_2 =>
  pBin .geq t20 (.int .i64 0) fun t21 =>
  ifV t21
  (sh_milestoneref08_Heap_Push_k1 P K h_2)
  (pNil h0 fun t25 =>
  pField 1 t25 fun t26 =>
  pLoad h_2 t26 fun t27 =>
  pBuild [(.int .i64 0), (.int .i64 0)] [(0, 1, id1), (1, 1, key2)] fun t30 =>
  pBuildSlice T_milestoneref08_Held (zerosL [(.int .i64 0), (.int .i64 0)] 1) [(0, 2, t30)] 1 h_2 fun t31 h_3 =>
  pAppend T_milestoneref08_Held 2 16 [(.int .i64 0), (.int .i64 0)] t27 t31 h_3 fun t32 h_4 =>
  pNil h0 fun t33 =>
  pField 1 t33 fun t34 =>
  pStore 1 t34 t32 h_4 fun u h_5 =>
  K (.int .i64 0) h_5)))

set_option maxRecDepth 100000 in
theorem lk_milestoneref08_Heap_Push (h0 id1 key2 : Value) {h : Heap} {K : Value → Heap → Prop} (H : sh_milestoneref08_Heap_Push Tryz.prog h0 id1 key2 h K) : CallsH Tryz.prog F_milestoneref08_Heap_Push [h0, id1, key2].toArray h K :=
  callsH_of (ann := (annG (Tryz.f60.body.getD .skip) 0 []).1) (c := Tryz.f60.body.getD .skip) Tryz.func60 (by kernel_rfl) (by kernel_rfl) (by kernel_rfl) (of_decide_eq_true (by kernel_rfl))
    (Eq.mpr (by kernel_rfl) H)

/-! (*milestone/milestoneref08.Heap).Pop -/

def sh_milestoneref08_Heap_Pop (P : Program) (h0 : Value) (h : Heap) (K : Value → Heap → Prop) : Prop :=
  callS P F_milestoneref08_Heap_least [h0] h fun t8 h_1 =>
  pBin .lss t8 (.int .i64 0) fun t10 =>
  ifV t10
  (K (.tuple #[(.int .i64 0), (.int .i64 0), (.bool false)]) h_1)
  (pNil h0 fun t12 =>
  pField 1 t12 fun t13 =>
  pLoad h_1 t13 fun t14 =>
  pIdx 2 t14 t8 fun t16 =>
  pLoadN 2 h_1 t16 fun t17 =>
  pBox T_milestoneref08_Held (.agg #[(.int .i64 0), (.int .i64 0)]) h_1 fun x6 h_2 =>
  pStore 2 x6 t17 h_2 fun u h_3 =>
  pNil h0 fun t21 =>
  pField 1 t21 fun t22 =>
  pLoad h_3 t22 fun t23 =>
  pSlice 2 t23 none (some t8) none fun t25 =>
  pNil h0 fun t28 =>
  pField 1 t28 fun t29 =>
  pLoad h_3 t29 fun t30 =>
  pBin .add t8 (.int .i64 1) fun t32 =>
  pSlice 2 t30 (some t32) none none fun t33 =>
  pBuildSlice T_milestoneref08_Held (zerosL [(.int .i64 0), (.int .i64 0)] 0) [] 0 h_3 fun t19 h_4 =>
  pAppend T_milestoneref08_Held 2 16 [(.int .i64 0), (.int .i64 0)] t19 t25 h_4 fun t26 h_5 =>
  (pLoad h_5 t29 fun t30_1 =>
  t30_1 = t30) ∧
  (pAppend T_milestoneref08_Held 2 16 [(.int .i64 0), (.int .i64 0)] t26 t33 h_5 fun t34 h_6 =>
  pNil h0 fun t35 =>
  pField 1 t35 fun t36 =>
  pStore 1 t36 t34 h_6 fun u_1 h_7 =>
  pField 0 x6 fun t37 =>
  pLoad h_7 t37 fun t38 =>
  pField 1 x6 fun t39 =>
  pLoad h_7 t39 fun t40 =>
  K (.tuple #[t38, t40, (.bool true)]) h_7))

set_option maxRecDepth 100000 in
theorem lk_milestoneref08_Heap_Pop (h0 : Value) {h : Heap} {K : Value → Heap → Prop} (H : sh_milestoneref08_Heap_Pop Tryz.prog h0 h K) : CallsH Tryz.prog F_milestoneref08_Heap_Pop [h0].toArray h K :=
  callsH_of (ann := (annG (Tryz.f61.body.getD .skip) 0 []).1) (c := Tryz.f61.body.getD .skip) Tryz.func61 (by kernel_rfl) (by kernel_rfl) (by kernel_rfl) (of_decide_eq_true (by kernel_rfl))
    (Eq.mpr (by kernel_rfl) H)

/-! milestone/milestoneref07.Out -/

def sh_milestoneref07_Out_k2 (P : Program) (a6 : Value) (Z : Value → Value → Heap → Prop) (out5_1 : Value) (h_5 : Heap) : Prop :=
  pBin .add a6 (.int .i64 1) fun t13 =>
  Z out5_1 t13 h_5

def sh_milestoneref07_Out_L1 (P : Program) (g2 v1 : Value) (K : Value → Heap → Prop) (out5 a6 : Value) (h_2 : Heap) (Z : Value → Value → Heap → Prop) : Prop :=
  pField 3 g2 fun t8 =>
  pLoad h_2 t8 fun t9 =>
  pLen t9 fun t10 =>
  pBin .lss a6 t10 fun t11 =>
  ifV t11
  (pField 3 g2 fun t14 =>
  pLoad h_2 t14 fun t15 =>
  pIdx 3 t15 a6 fun t17 =>
  pField 0 t17 fun t18 =>
  pLoad h_2 t18 fun t19 =>
  pBin .eql t19 v1 fun t21 =>
  ifV t21
  (pBuildSlice T_int (zerosL [(.int .i64 0)] 1) [(0, 1, a6)] 1 h_2 fun t24 h_3 =>
  pAppend T_int 1 8 [(.int .i64 0)] out5 t24 h_3 fun t25 h_4 =>
  sh_milestoneref07_Out_k2 P a6 Z t25 h_4)
  (sh_milestoneref07_Out_k2 P a6 Z out5 h_2))
  (K out5 h_2)

def sh_milestoneref07_Out (P : Program) (g0 v1 : Value) (h : Heap) (K : Value → Heap → Prop) : Prop :=
  pBox T_api_Raw g0 h fun g2 h_1 =>
  LoopH (σ := Vals [5, 6]) (fun x hh ZZ => sh_milestoneref07_Out_L1 P g2 v1 K x.1 x.2.1 hh (fun a0 a1 hz => ZZ (a0, (a1, ())) hz)) ((.slice none 0 0), ((.int .i64 0), ())) h_1

set_option maxRecDepth 100000 in
theorem lk_milestoneref07_Out (g0 v1 : Value) {h : Heap} {K : Value → Heap → Prop} (H : sh_milestoneref07_Out Tryz.prog g0 v1 h K) : CallsH Tryz.prog F_milestoneref07_Out [g0, v1].toArray h K :=
  callsH_of (ann := (annG (Tryz.f62.body.getD .skip) 0 [(4, [5, 6])]).1) (c := Tryz.f62.body.getD .skip) Tryz.func62 (by kernel_rfl) (by kernel_rfl) (by kernel_rfl) (of_decide_eq_true (by kernel_rfl))
    (Eq.mpr (by kernel_rfl) H)

/-! (*milestone/milestoneref08.Heap).Key -/

def sh_milestoneref08_Heap_Key (P : Program) (h0 id1 : Value) (h : Heap) (K : Value → Heap → Prop) : Prop :=
  callS P F_milestoneref08_Heap_at [h0, id1] h fun t9 h_1 =>
  pBin .lss t9 (.int .i64 0) fun t11 =>
  ifV t11
  (K (.tuple #[(.int .i64 0), (.bool false)]) h_1)
  (pNil h0 fun t13 =>
  pField 1 t13 fun t14 =>
  pLoad h_1 t14 fun t15 =>
  pIdx 2 t15 t9 fun t17 =>
  pField 1 t17 fun t18 =>
  pLoad h_1 t18 fun t19 =>
  K (.tuple #[t19, (.bool true)]) h_1)

set_option maxRecDepth 100000 in
theorem lk_milestoneref08_Heap_Key (h0 id1 : Value) {h : Heap} {K : Value → Heap → Prop} (H : sh_milestoneref08_Heap_Key Tryz.prog h0 id1 h K) : CallsH Tryz.prog F_milestoneref08_Heap_Key [h0, id1].toArray h K :=
  callsH_of (ann := (annG (Tryz.f63.body.getD .skip) 0 []).1) (c := Tryz.f63.body.getD .skip) Tryz.func63 (by kernel_rfl) (by kernel_rfl) (by kernel_rfl) (of_decide_eq_true (by kernel_rfl))
    (Eq.mpr (by kernel_rfl) H)

/-! (*milestone/milestoneref08.Heap).Lower -/

def sh_milestoneref08_Heap_Lower_k1 (P : Program) (K : Value → Heap → Prop) (h_1 : Heap) : Prop :=
  K (.int .i64 2) h_1

def sh_milestoneref08_Heap_Lower (P : Program) (h0 id1 key2 : Value) (h : Heap) (K : Value → Heap → Prop) : Prop :=
  pBin .lss id1 (.int .i64 0) fun t9 =>
  ifV t9
  (sh_milestoneref08_Heap_Lower_k1 P K h)
  (pNil h0 fun t13 =>
  pField 0 t13 fun t14 =>
  pLoad h t14 fun t15 =>
  pBin .geq id1 t15 fun t16 =>
  ifV t16
  (sh_milestoneref08_Heap_Lower_k1 P K h)
  (callS P F_milestoneref08_Heap_at [h0, id1] h fun t20 h_2 =>
  pBin .lss t20 (.int .i64 0) fun t22 =>
  ifV t22
  (K (.int .i64 20) h_2)
  (pNil h0 fun t24 =>
  pField 1 t24 fun t25 =>
  pLoad h_2 t25 fun t26 =>
  pIdx 2 t26 t20 fun t28 =>
  pField 1 t28 fun t29 =>
  pLoad h_2 t29 fun t30 =>
  pBin .lss t30 key2 fun t32 =>
  ifV t32
  (K (.int .i64 2) h_2)
  (pNil h0 fun t34 =>
  pField 1 t34 fun t35 =>
  pLoad h_2 t35 fun t36 =>
  pIdx 2 t36 t20 fun t39 =>
  pField 1 t39 fun t40 =>
  pStore 1 t40 key2 h_2 fun u h_3 =>
  K (.int .i64 0) h_3))))

set_option maxRecDepth 100000 in
theorem lk_milestoneref08_Heap_Lower (h0 id1 key2 : Value) {h : Heap} {K : Value → Heap → Prop} (H : sh_milestoneref08_Heap_Lower Tryz.prog h0 id1 key2 h K) : CallsH Tryz.prog F_milestoneref08_Heap_Lower [h0, id1, key2].toArray h K :=
  callsH_of (ann := (annG (Tryz.f64.body.getD .skip) 0 []).1) (c := Tryz.f64.body.getD .skip) Tryz.func64 (by kernel_rfl) (by kernel_rfl) (by kernel_rfl) (of_decide_eq_true (by kernel_rfl))
    (Eq.mpr (by kernel_rfl) H)

/-! milestone/milestoneref04.within -/

def sh_milestoneref04_within (P : Program) (a0 greatest1 : Value) (h : Heap) (K : Value → Heap → Prop) : Prop :=
  pBin .lss a0 (.int .i64 0) fun t6 =>
  ifV t6
  (K (.int .i64 0) h)
  (pBin .gtr a0 greatest1 fun t9 =>
  ifV t9
  (K greatest1 h)
  (K a0 h))

set_option maxRecDepth 100000 in
theorem lk_milestoneref04_within (a0 greatest1 : Value) {h : Heap} {K : Value → Heap → Prop} (H : sh_milestoneref04_within Tryz.prog a0 greatest1 h K) : CallsH Tryz.prog F_milestoneref04_within [a0, greatest1].toArray h K :=
  callsH_of (ann := (annG (Tryz.f65.body.getD .skip) 0 []).1) (c := Tryz.f65.body.getD .skip) Tryz.func65 (by kernel_rfl) (by kernel_rfl) (by kernel_rfl) (of_decide_eq_true (by kernel_rfl))
    (Eq.mpr (by kernel_rfl) H)

/-! milestone/dist.Low -/

def sh_dist_Low (P : Program) (v0 t1 : Value) (h : Heap) (K : Value → Heap → Prop) : Prop :=
  callS P F_dist_way [v0] h fun t6 h_1 =>
  callS P F_dist_way [t1] h_1 fun t8 h_2 =>
  callS P F_dist_Finite [t8] h_2 fun t15 h_3 =>
  pUn .not t15 fun t16 =>
  ifV t16
  (K (.int .i64 0) h_3)
  (callS P F_dist_Finite [t6] h_3 fun t19 h_4 =>
  pUn .not t19 fun t20 =>
  ifV t20
  (K (.int .i64 72057594037927936) h_4)
  (pBin .sub t6 t8 fun t11 =>
  callS P F_dist_way [t11] h_4 fun t12 h_5 =>
  K t12 h_5))

set_option maxRecDepth 100000 in
theorem lk_dist_Low (v0 t1 : Value) {h : Heap} {K : Value → Heap → Prop} (H : sh_dist_Low Tryz.prog v0 t1 h K) : CallsH Tryz.prog F_dist_Low [v0, t1].toArray h K :=
  callsH_of (ann := (annG (Tryz.f66.body.getD .skip) 0 []).1) (c := Tryz.f66.body.getD .skip) Tryz.func66 (by kernel_rfl) (by kernel_rfl) (by kernel_rfl) (of_decide_eq_true (by kernel_rfl))
    (Eq.mpr (by kernel_rfl) H)

/-! milestone/dist.Lift -/

def sh_dist_Lift (P : Program) (v0 t1 : Value) (h : Heap) (K : Value → Heap → Prop) : Prop :=
  callS P F_dist_Low [t1, v0] h fun t7 h_1 =>
  K t7 h_1

set_option maxRecDepth 100000 in
theorem lk_dist_Lift (v0 t1 : Value) {h : Heap} {K : Value → Heap → Prop} (H : sh_dist_Lift Tryz.prog v0 t1 h K) : CallsH Tryz.prog F_dist_Lift [v0, t1].toArray h K :=
  callsH_of (ann := (annG (Tryz.f67.body.getD .skip) 0 []).1) (c := Tryz.f67.body.getD .skip) Tryz.func67 (by kernel_rfl) (by kernel_rfl) (by kernel_rfl) (of_decide_eq_true (by kernel_rfl))
    (Eq.mpr (by kernel_rfl) H)

/-! milestone/milestoneref07.Turned -/

def sh_milestoneref07_Turned_L1 (P : Program) (out3 g1 t2 : Value) (K : Value → Heap → Prop) (a4 : Value) (h_6 : Heap) (Z : Value → Heap → Prop) : Prop :=
  pField 3 out3 fun t8 =>
  pLoad h_6 t8 fun t9 =>
  pLen t9 fun t10 =>
  pBin .lss a4 t10 fun t11 =>
  ifV t11
  (pField 3 out3 fun t14 =>
  pLoad h_6 t14 fun t15 =>
  pField 3 g1 fun t17 =>
  pLoad h_6 t17 fun t18 =>
  pIdx 3 t18 a4 fun t20 =>
  pField 1 t20 fun t21 =>
  pLoad h_6 t21 fun t22 =>
  pIdx 3 t15 a4 fun t23 =>
  pField 0 t23 fun t24 =>
  pStore 1 t24 t22 h_6 fun u_1 h_7 =>
  pField 3 out3 fun t25 =>
  pLoad h_7 t25 fun t26 =>
  pField 3 g1 fun t28 =>
  pLoad h_7 t28 fun t29 =>
  pIdx 3 t29 a4 fun t31 =>
  pField 0 t31 fun t32 =>
  pLoad h_7 t32 fun t33 =>
  pIdx 3 t26 a4 fun t34 =>
  pField 1 t34 fun t35 =>
  pStore 1 t35 t33 h_7 fun u_2 h_8 =>
  pBin .add a4 (.int .i64 1) fun t13 =>
  Z t13 h_8)
  (pLoadN 4 h_6 out3 fun t36 =>
  pStore 4 t2 t36 h_6 fun u_3 h_9 =>
  pLoadN 4 h_9 t2 fun res =>
  K res h_9)

def sh_milestoneref07_Turned (P : Program) (g0 : Value) (h : Heap) (K : Value → Heap → Prop) : Prop :=
  pBox T_api_Raw g0 h fun g1 h_1 =>
  pBox T_api_Raw (.agg #[(.int .i64 0), (.slice none 0 0), (.slice none 0 0), (.slice none 0 0)]) h_1 fun t2 h_2 =>
  pLoadN 4 h_2 g1 fun t5 =>
  callS P F_milestoneref07_Copy [t5] h_2 fun t6 h_3 =>
  pBox T_api_Raw (.agg #[(.int .i64 0), (.slice none 0 0), (.slice none 0 0), (.slice none 0 0)]) h_3 fun out3 h_4 =>
  pStore 4 out3 t6 h_4 fun u h_5 =>
  LoopH (σ := Vals [4]) (fun x hh ZZ => sh_milestoneref07_Turned_L1 P out3 g1 t2 K x.1 hh (fun a0 hz => ZZ (a0, ()) hz)) ((.int .i64 0), ()) h_5

set_option maxRecDepth 100000 in
theorem lk_milestoneref07_Turned (g0 : Value) {h : Heap} {K : Value → Heap → Prop} (H : sh_milestoneref07_Turned Tryz.prog g0 h K) : CallsH Tryz.prog F_milestoneref07_Turned [g0].toArray h K :=
  callsH_of (ann := (annG (Tryz.f68.body.getD .skip) 0 [(4, [4])]).1) (c := Tryz.f68.body.getD .skip) Tryz.func68 (by kernel_rfl) (by kernel_rfl) (by kernel_rfl) (of_decide_eq_true (by kernel_rfl))
    (Eq.mpr (by kernel_rfl) H)

/-! milestone/heap.New -/

def sh_heap_New (P : Program) (n0 : Value) (h : Heap) (K : Value → Heap → Prop) : Prop :=
  pMakeMap h fun t3 h_1 =>
  pBuild [(.slice none 0 0), (.map none)] [(1, 1, t3)] fun t4 =>
  pMax n0 (.int .i64 0) fun t6 =>
  pBuild [(.slice none 0 0), (.map none), (.int .i64 0)] [(0, 2, t4), (2, 1, t6)] fun t7 =>
  pBox T_heap_Heap t7 h_1 fun t8 h_2 =>
  K t8 h_2

set_option maxRecDepth 100000 in
theorem lk_heap_New (n0 : Value) {h : Heap} {K : Value → Heap → Prop} (H : sh_heap_New Tryz.prog n0 h K) : CallsH Tryz.prog F_heap_New [n0].toArray h K :=
  callsH_of (ann := (annG (Tryz.f69.body.getD .skip) 0 []).1) (c := Tryz.f69.body.getD .skip) Tryz.func69 (by kernel_rfl) (by kernel_rfl) (by kernel_rfl) (of_decide_eq_true (by kernel_rfl))
    (Eq.mpr (by kernel_rfl) H)

/-! slices.Repeat[[]int64,int64] -/

def sh_slices_Repeat_sl_int64_int64_k1 (P : Program) (h_2 : Heap) : Prop :=
  False

def sh_slices_Repeat_sl_int64_int64_L2 (P : Program) (t30 : Value) (K : Value → Heap → Prop) (n8 : Value) (h_5 : Heap) (Z : Value → Heap → Prop) : Prop :=
  pLen t30 fun t36 =>
  pBin .lss n8 t36 fun t37 =>
  ifV t37
  (pSlice 1 t30 (some n8) none none fun t41 =>
  pSlice 1 t30 none (some n8) none fun t44 =>
  pCopy 1 t41 t44 h_5 fun t45 h_6 =>
  pBin .add n8 t45 fun t46 =>
  Z t46 h_6)
  (K t30 h_5)

def sh_slices_Repeat_sl_int64_int64 (P : Program) (x0 count1 : Value) (h : Heap) (K : Value → Heap → Prop) : Prop :=
  pBin .lss count1 (.int .i64 0) fun t10 =>
  ifV t10
  (False)
  (pLen x0 fun t14 =>
  pConv .u64 t14 fun t15 =>
  pConv .u64 count1 fun t17 =>
  callS P F_math_bits_Mul [t15, t17] h fun t18 h_1 =>
  pExt t18 0 fun t19 =>
  pExt t18 1 fun t20 =>
  pBin .gtr t19 (.int .u64 0) fun t22 =>
  ifV t22
  (sh_slices_Repeat_sl_int64_int64_k1 P h_1)
  (pBin .gtr t20 (.int .u64 9223372036854775807) fun t25 =>
  ifV t25
  (sh_slices_Repeat_sl_int64_int64_k1 P h_1)
  (pConv .i64 t20 fun t29 =>
  pMakeSlice T_int64 8 [(.int .i64 0)] t29 t29 h_1 fun t30 h_3 =>
  pCopy 1 t30 x0 h_3 fun t33 h_4 =>
  LoopH (σ := Vals [8]) (fun x hh ZZ => sh_slices_Repeat_sl_int64_int64_L2 P t30 K x.1 hh (fun a0 hz => ZZ (a0, ()) hz)) (t33, ()) h_4)))

set_option maxRecDepth 100000 in
theorem lk_slices_Repeat_sl_int64_int64 (x0 count1 : Value) {h : Heap} {K : Value → Heap → Prop} (H : sh_slices_Repeat_sl_int64_int64 Tryz.prog x0 count1 h K) : CallsH Tryz.prog F_slices_Repeat_sl_int64_int64 [x0, count1].toArray h K :=
  callsH_of (ann := (annG (Tryz.f70.body.getD .skip) 0 [(9, [8])]).1) (c := Tryz.f70.body.getD .skip) Tryz.func70 (by kernel_rfl) (by kernel_rfl) (by kernel_rfl) (of_decide_eq_true (by kernel_rfl))
    (Eq.mpr (by kernel_rfl) H)

/-! slices.Repeat[[]int,int] -/

def sh_slices_Repeat_sl_int_int_k1 (P : Program) (h_2 : Heap) : Prop :=
  False

def sh_slices_Repeat_sl_int_int_L2 (P : Program) (t30 : Value) (K : Value → Heap → Prop) (n8 : Value) (h_5 : Heap) (Z : Value → Heap → Prop) : Prop :=
  pLen t30 fun t36 =>
  pBin .lss n8 t36 fun t37 =>
  ifV t37
  (pSlice 1 t30 (some n8) none none fun t41 =>
  pSlice 1 t30 none (some n8) none fun t44 =>
  pCopy 1 t41 t44 h_5 fun t45 h_6 =>
  pBin .add n8 t45 fun t46 =>
  Z t46 h_6)
  (K t30 h_5)

def sh_slices_Repeat_sl_int_int (P : Program) (x0 count1 : Value) (h : Heap) (K : Value → Heap → Prop) : Prop :=
  pBin .lss count1 (.int .i64 0) fun t10 =>
  ifV t10
  (False)
  (pLen x0 fun t14 =>
  pConv .u64 t14 fun t15 =>
  pConv .u64 count1 fun t17 =>
  callS P F_math_bits_Mul [t15, t17] h fun t18 h_1 =>
  pExt t18 0 fun t19 =>
  pExt t18 1 fun t20 =>
  pBin .gtr t19 (.int .u64 0) fun t22 =>
  ifV t22
  (sh_slices_Repeat_sl_int_int_k1 P h_1)
  (pBin .gtr t20 (.int .u64 9223372036854775807) fun t25 =>
  ifV t25
  (sh_slices_Repeat_sl_int_int_k1 P h_1)
  (pConv .i64 t20 fun t29 =>
  pMakeSlice T_int 8 [(.int .i64 0)] t29 t29 h_1 fun t30 h_3 =>
  pCopy 1 t30 x0 h_3 fun t33 h_4 =>
  LoopH (σ := Vals [8]) (fun x hh ZZ => sh_slices_Repeat_sl_int_int_L2 P t30 K x.1 hh (fun a0 hz => ZZ (a0, ()) hz)) (t33, ()) h_4)))

set_option maxRecDepth 100000 in
theorem lk_slices_Repeat_sl_int_int (x0 count1 : Value) {h : Heap} {K : Value → Heap → Prop} (H : sh_slices_Repeat_sl_int_int Tryz.prog x0 count1 h K) : CallsH Tryz.prog F_slices_Repeat_sl_int_int [x0, count1].toArray h K :=
  callsH_of (ann := (annG (Tryz.f71.body.getD .skip) 0 [(9, [8])]).1) (c := Tryz.f71.body.getD .skip) Tryz.func71 (by kernel_rfl) (by kernel_rfl) (by kernel_rfl) (of_decide_eq_true (by kernel_rfl))
    (Eq.mpr (by kernel_rfl) H)

/-! (*milestone/heap.Heap).Push -/

def sh_heap_Heap_Push_k1 (P : Program) (K : Value → Heap → Prop) (h_1 : Heap) : Prop :=
  K (.int .i64 2) h_1

def sh_heap_Heap_Push (P : Program) (h0 id1 key2 : Value) (h : Heap) (K : Value → Heap → Prop) : Prop :=
  pEq false .ptr h0 (.pointer none) fun t10 =>
  ifV t10
  (K (.int .i64 1) h)
  (pNil h0 fun t13 =>
  pField 0 t13 fun t14 =>
  pField 1 t14 fun t15 =>
  pLoad h t15 fun t16 =>
  pLook (.int .i64) (.int .i64 0) true h t16 id1 fun t18 =>
  pExt t18 0 fun t19 =>
  pExt t18 1 fun t20 =>
  ifV t20
  (sh_heap_Heap_Push_k1 P K h)
  (pBin .lss id1 (.int .i64 0) fun t24 =>
  ifV t24
  (sh_heap_Heap_Push_k1 P K h)
  (pNil h0 fun t29 =>
  pField 2 t29 fun t30 =>
  pLoad h t30 fun t31 =>
  pBin .geq id1 t31 fun t32 =>
  ifV t32
  (sh_heap_Heap_Push_k1 P K h)
  (pNil h0 fun t35 =>
  pField 0 t35 fun t36 =>
  pField 1 t36 fun t37 =>
  pLoad h t37 fun t38 =>
  pNil h0 fun t41 =>
  pField 0 t41 fun t42 =>
  pField 0 t42 fun t43 =>
  pLoad h t43 fun t44 =>
  pLen t44 fun t45 =>
  pMapSet (.int .i64) t38 id1 t45 h fun u h_2 =>
  pNil h0 fun t48 =>
  pField 0 t48 fun t49 =>
  pField 0 t49 fun t50 =>
  pLoad h_2 t50 fun t51 =>
  pBuild [(.int .i64 0), (.int .i64 0)] [(0, 1, id1), (1, 1, key2)] fun t54 =>
  pBuildSlice T_heap_held (zerosL [(.int .i64 0), (.int .i64 0)] 1) [(0, 2, t54)] 1 h_2 fun t55 h_3 =>
  pAppend T_heap_held 2 16 [(.int .i64 0), (.int .i64 0)] t51 t55 h_3 fun t56 h_4 =>
  pNil h0 fun t57 =>
  pField 0 t57 fun t58 =>
  pField 0 t58 fun t59 =>
  pStore 1 t59 t56 h_4 fun u_1 h_5 =>
  pNil h0 fun t61 =>
  pField 0 t61 fun t62 =>
  pNil h0 fun t64 =>
  pField 0 t64 fun t65 =>
  pField 0 t65 fun t66 =>
  pLoad h_5 t66 fun t67 =>
  pLen t67 fun t68 =>
  pBin .sub t68 (.int .i64 1) fun t69 =>
  callS P F_heap_row_up [t62, t69] h_5 fun t70 h_6 =>
  K (.int .i64 0) h_6))))

set_option maxRecDepth 100000 in
theorem lk_heap_Heap_Push (h0 id1 key2 : Value) {h : Heap} {K : Value → Heap → Prop} (H : sh_heap_Heap_Push Tryz.prog h0 id1 key2 h K) : CallsH Tryz.prog F_heap_Heap_Push [h0, id1, key2].toArray h K :=
  callsH_of (ann := (annG (Tryz.f72.body.getD .skip) 0 []).1) (c := Tryz.f72.body.getD .skip) Tryz.func72 (by kernel_rfl) (by kernel_rfl) (by kernel_rfl) (of_decide_eq_true (by kernel_rfl))
    (Eq.mpr (by kernel_rfl) H)

end Go.Proofs.YtoopkllfpmjnfaaGreatDoor
