/- Texts of the proofs of seat YtjamcgoebnafkaaGreatDoor, joined: Ids, Gen1, Gen2, Gen3, Gen4, Gen5. They have no conditions of their own. -/
import Derived.Test.YtjamcgoebnafkaaGreatDoorMb
import Derived.Test.YtjamcgoebnafkaaGreatDoorChecked
import Derived.KernelRfl
set_option linter.unusedVariables false
set_option linter.unusedSimpArgs false

namespace Go.Proofs.YtjamcgoebnafkaaGreatDoor
abbrev F_gosem_cut_init : Nat := 2
abbrev F_milestonelaw11_PathTells : Nat := 3
abbrev F_milestonelaw11_PathKnown : Nat := 4
abbrev F_milestonelaw11_PathPrefix : Nat := 5
abbrev F_milestonelaw11_PathMeets : Nat := 6
abbrev F_milestonelaw11_PathLeast : Nat := 7
abbrev F_milestonelaw11_Drawn_graph : Nat := 8
abbrev F_milestonelaw11_works : Nat := 9
abbrev F_flood_From : Nat := 10
abbrev F_flood_To : Nat := 11
abbrev F_milestonelaw11_turned : Nat := 12
abbrev F_path_Meet : Nat := 13
abbrev F_milestoneref11_Meet : Nat := 14
abbrev F_path_Ahead : Nat := 15
abbrev F_path_Behind : Nat := 16
abbrev F_milestoneref11_Ahead : Nat := 17
abbrev F_milestoneref11_Follow : Nat := 18
abbrev F_milestoneref07_Ints : Nat := 19
abbrev F_path_Joined : Nat := 20
abbrev F_net_New : Nat := 21
abbrev F_walk_Nodes : Nat := 22
abbrev F_milestoneref10_Least : Nat := 23
abbrev F_walk_Check : Nat := 24
abbrev F_milestoneref07_Turned : Nat := 25
abbrev F_walk_Bare : Nat := 26
abbrev F_milestoneref07_Draft_Raw : Nat := 27
abbrev F_flood_flood : Nat := 28
abbrev F_net_Net_Out : Nat := 29
abbrev F_flood_From_1 : Nat := 30
abbrev F_net_Net_In : Nat := 31
abbrev F_flood_To_1 : Nat := 32
abbrev F_path_reached : Nat := 33
abbrev F_path_all : Nat := 34
abbrev F_path_Ahead_1 : Nat := 35
abbrev F_slices_Reverse_sl_int_int : Nat := 36
abbrev F_path_Behind_1 : Nat := 37
abbrev F_slices_Concat_sl_int_int : Nat := 38
abbrev F_graph_Check : Nat := 39
abbrev F_api_Told : Nat := 40
abbrev F_net_of : Nat := 41
abbrev F_net_own : Nat := 42
abbrev F_walk_node : Nat := 43
abbrev F_walk_steps : Nat := 44
abbrev F_milestoneref07_Copy : Nat := 45
abbrev F_milestoneref07_Draft_Next : Nat := 46
abbrev F_milestoneref07_Draft_Weight : Nat := 47
abbrev F_net_Net_Nodes : Nat := 48
abbrev F_heap_New : Nat := 49
abbrev F_slices_Repeat_sl_int64_int64 : Nat := 50
abbrev F_slices_Repeat_sl_int_int : Nat := 51
abbrev F_heap_Heap_Push : Nat := 52
abbrev F_heap_Heap_Pop : Nat := 53
abbrev F_flood_arcs : Nat := 54
abbrev F_flood_run_reach : Nat := 55
abbrev F_net_one_sl_int : Nat := 56
abbrev F_slices_Clone_sl_int_int : Nat := 57
abbrev F_path_follow : Nat := 58
abbrev F_slices_Grow_sl_int_int : Nat := 59
abbrev F_graph_Check_1 : Nat := 60
abbrev F_graph_look : Nat := 61
abbrev F_errors_As : Nat := 62
abbrev F_net_of_1 : Nat := 63
abbrev F_net_of_2 : Nat := 64
abbrev F_net_of_3 : Nat := 65
abbrev F_slices_Clone_sl_int64_int64 : Nat := 66
abbrev F_slices_Clone_sl_api_Arc_api_Arc : Nat := 67
abbrev F_walk_steps_1 : Nat := 68
abbrev F_net_Net_Arc : Nat := 69
abbrev F_math_bits_Mul : Nat := 70
abbrev F_heap_row_up : Nat := 71
abbrev F_heap_Heap_Len : Nat := 72
abbrev F_heap_row_swap : Nat := 73
abbrev F_heap_row_down : Nat := 74
abbrev F_flood_arcs_1 : Nat := 75
abbrev F_heap_Heap_Key : Nat := 76
abbrev F_heap_Heap_Lower : Nat := 77
abbrev F_path_follow_1 : Nat := 78
abbrev F_graph_look_1 : Nat := 79
abbrev F_graph_one : Nat := 80
abbrev F_graph_look_2 : Nat := 81
abbrev F_graph_shapes : Nat := 82
abbrev F_graph_look_3 : Nat := 83
abbrev F_graph_nodes : Nat := 84
abbrev F_graph_look_4 : Nat := 85
abbrev F_graph_look_5 : Nat := 86
abbrev F_graph_arcs : Nat := 87
abbrev F_errors_as : Nat := 91
abbrev F_net_one_api_Arc : Nat := 92
abbrev F_math_bits_Mul32 : Nat := 93
abbrev F_math_bits_Mul64 : Nat := 94
abbrev F_heap_row_ahead : Nat := 95
abbrev F_heap_row_below : Nat := 96
abbrev F_slices_Values_sl_graph_place_graph_place : Nat := 97
abbrev F_graph_nodes_1 : Nat := 98
abbrev F_graph_arcs_1 : Nat := 99
abbrev F_cmp_Or_int : Nat := 103
abbrev F_cmp_Compare_int64 : Nat := 104
abbrev F_cmp_Compare_int : Nat := 105
abbrev F_heap_row_below_1 : Nat := 106
abbrev F_slices_Values_sl_graph_place_graph_place_1 : Nat := 107
abbrev F_cmp_isNaN_int64 : Nat := 108
abbrev F_cmp_isNaN_int : Nat := 109
abbrev F_api_Fault_Unwrap : Nat := 130
abbrev F_net_trouble_Unwrap : Nat := 131
abbrev F_graph_trouble_Unwrap : Nat := 132
abbrev F_gosem_cut_vars : Nat := 151
abbrev T_ : Nat := 0
abbrev T_func : Nat := 1
abbrev T_int64 : Nat := 2
abbrev T_int : Nat := 3
abbrev T_bool : Nat := 4
abbrev T_uint8 : Nat := 5
abbrev T_abi_BoundsErrorCode : Nat := 6
abbrev T_struct_x_int64_y_int_signed_bool_code_abi_BoundsErrorCode : Nat := 7
abbrev T_runtime_boundsError : Nat := 8
abbrev T_string : Nat := 9
abbrev T_runtime_errorString : Nat := 10
abbrev T_runtime_plainError : Nat := 11
abbrev T_uintptr : Nat := 12
abbrev T_struct_msg_string_addr_uintptr : Nat := 13
abbrev T_runtime_errorAddressString : Nat := 14
abbrev T_p_runtime_TypeAssertionError : Nat := 15
abbrev T_p_runtime_PanicNilError : Nat := 16
abbrev T_p_abi_Type : Nat := 17
abbrev T_struct_typ_p_abi_Type : Nat := 18
abbrev T_maps_unhashableTypeError : Nat := 19
abbrev T_interface : Nat := 20
abbrev T_int32 : Nat := 21
abbrev T_sl_uint8 : Nat := 22
abbrev T_2_uint8 : Nat := 23
abbrev T_struct_B_sl_uint8_Ends_2_uint8 : Nat := 24
abbrev T_milestonelaw11_Drawn : Nat := 25
abbrev T_int16 : Nat := 26
abbrev T_4_int16 : Nat := 27
abbrev T_sl_int64 : Nat := 28
abbrev T_sl_api_Arc : Nat := 29
abbrev T_struct_Nodes_int_X_sl_int64_Y_sl_int64_Arcs_sl_api_Arc : Nat := 30
abbrev T_api_Raw : Nat := 31
abbrev T_p_net_Net : Nat := 32
abbrev T_api_Raw_p_net_Net_int_int : Nat := 33
abbrev T_func_api_Raw_p_net_Net_int_int : Nat := 34
abbrev T_func_bool : Nat := 35
abbrev T_sl_int : Nat := 36
abbrev T_struct_Dist_sl_int64_Arc_sl_int_Order_sl_int : Nat := 37
abbrev T_flood_Tree : Nat := 38
abbrev T_funcnet_Net_int_flood_Tree : Nat := 39
abbrev T_2_flood_Tree : Nat := 40
abbrev T_func_flood_Tree_4_int16_flood_Tree : Nat := 41
abbrev T_3_2_flood_Tree : Nat := 42
abbrev T_int_int64_bool : Nat := 43
abbrev T_func_flood_Tree_flood_Tree_int_int64_bool : Nat := 44
abbrev T_func_sl_int64_sl_int64_int_int64_bool : Nat := 45
abbrev T_sl_int_bool : Nat := 46
abbrev T_funcnet_Net_flood_Tree_int_sl_int_bool : Nat := 47
abbrev T_func_api_Raw_sl_int64_sl_int_int_sl_int_bool : Nat := 48
abbrev T_func_api_Raw_sl_int64_sl_int_int_bool_sl_int_bool : Nat := 49
abbrev T_func_sl_int_sl_int_bool : Nat := 50
abbrev T_funcnet_Net_flood_Tree_flood_Tree_int_sl_int_bool : Nat := 51
abbrev T_func_milestonelaw11_Drawn_4_int16_4_int16_bool : Nat := 52
abbrev T_interface_Error_string : Nat := 53
abbrev T_error : Nat := 54
abbrev T_net_Net_error : Nat := 55
abbrev T_func_api_Raw_net_Net_error : Nat := 56
abbrev T_struct_From_int_To_int_Weight_int64 : Nat := 57
abbrev T_api_Arc : Nat := 58
abbrev T_funcnet_Net_int_sl_int_sl_int_bool : Nat := 59
abbrev T_func_milestonelaw11_Drawn_bool : Nat := 60
abbrev T_func_api_Raw_int_sl_int64 : Nat := 61
abbrev T_int64_bool : Nat := 62
abbrev T_funcnet_Net_int_int_sl_int_int64_bool : Nat := 63
abbrev T_func_api_Raw_api_Raw : Nat := 64
abbrev T_p_milestoneref07_Draft : Nat := 65
abbrev T_struct_B_sl_uint8_At_int : Nat := 66
abbrev T_milestoneref07_Draft : Nat := 67
abbrev T_func_api_Raw : Nat := 68
abbrev T_funcnet_Net_int_func_int_sl_int_func_api_Arc_int_flood_Tree : Nat := 69
abbrev T_func_int_sl_int : Nat := 70
abbrev T_func_api_Arc_int : Nat := 71
abbrev T_uint16 : Nat := 72
abbrev T_func_flood_Tree_int_bool : Nat := 73
abbrev T_funcnet_Net_flood_Tree_int_func_api_Arc_int_int_sl_int_bool : Nat := 74
abbrev T_func_api_Arc_int_int : Nat := 75
abbrev T_func_sl_int : Nat := 76
abbrev T_func_sl_int_sl_int : Nat := 77
abbrev T_func_api_Raw_error : Nat := 78
abbrev T_api_Errno : Nat := 79
abbrev T_struct_Code_api_Errno_Phase_int_Index_int_Field_int : Nat := 80
abbrev T_api_Fault : Nat := 81
abbrev T_func_error_api_Fault : Nat := 82
abbrev T_p_api_Fault : Nat := 83
abbrev T_struct_p_api_Fault : Nat := 84
abbrev T_net_trouble : Nat := 85
abbrev T_func_api_Raw_p_net_Net : Nat := 86
abbrev T_funcnet_Net_int_bool : Nat := 87
abbrev T_func_func_api_Arc_bool_bool : Nat := 88
abbrev T_iter_Seq2_api_Arc_bool : Nat := 89
abbrev T_funcnet_Net_int_sl_int_iter_Seq2_api_Arc_bool : Nat := 90
abbrev T_map_int_int : Nat := 91
abbrev T_int_bool : Nat := 92
abbrev T_func_int_int : Nat := 93
abbrev T_func_int64 : Nat := 94
abbrev T_func_int : Nat := 95
abbrev T_p_flood_run : Nat := 96
abbrev T_p_heap_Heap : Nat := 97
abbrev T_func_int_p_heap_Heap : Nat := 98
abbrev T_func_sl_int64_int_sl_int64 : Nat := 99
abbrev T_func_sl_int_int_sl_int : Nat := 100
abbrev T_struct_p_heap_Heap_flood_Tree_closed_map_int_int : Nat := 101
abbrev T_flood_run : Nat := 102
abbrev T_func_int_int64_api_Errno : Nat := 103
abbrev T_func_int_int64_bool : Nat := 104
abbrev T_func_func_int_api_Arc_bool : Nat := 105
abbrev T_iter_Seq2_int_api_Arc : Nat := 106
abbrev T_funcnet_Net_sl_int_func_api_Arc_int_iter_Seq2_int_api_Arc : Nat := 107
abbrev T_func_int_int_int64 : Nat := 108
abbrev T_func_sl_sl_int_int_sl_int_bool : Nat := 109
abbrev T_sl_sl_int : Nat := 110
abbrev T_struct_raw_api_Raw_out_sl_sl_int_in_sl_sl_int : Nat := 111
abbrev T_net_Net : Nat := 112
abbrev T_func_sl_int_sl_int_v2 : Nat := 113
abbrev T_func_func_int_bool_bool : Nat := 114
abbrev T_iter_Seq2_int_bool : Nat := 115
abbrev T_funcnet_Net_flood_Tree_int_func_api_Arc_int_int_iter_Seq2_int_bool : Nat := 116
abbrev T_graph_trouble : Nat := 117
abbrev T_graph_trouble_bool : Nat := 118
abbrev T_func_api_Raw_v2 : Nat := 119
abbrev T_func_error_interface_bool : Nat := 120
abbrev T_p_p_api_Fault : Nat := 121
abbrev T_p_api_Errno : Nat := 122
abbrev T_func_func_api_Arc_int_sl_sl_int : Nat := 123
abbrev T_func_sl_int64_sl_int64 : Nat := 124
abbrev T_func_sl_api_Arc_sl_api_Arc : Nat := 125
abbrev T_func_api_Arc_bool_bool : Nat := 126
abbrev T_api_Arc_bool : Nat := 127
abbrev T_func_int_api_Arc_bool : Nat := 128
abbrev T_sl_heap_held : Nat := 129
abbrev T_struct_l_sl_heap_held_at_map_int_int : Nat := 130
abbrev T_heap_row : Nat := 131
abbrev T_struct_heap_row_n_int : Nat := 132
abbrev T_heap_Heap : Nat := 133
abbrev T_uint : Nat := 134
abbrev T_uint_uint : Nat := 135
abbrev T_func_uint_uint_uint_uint : Nat := 136
abbrev T_struct_id_int_key_int64 : Nat := 137
abbrev T_heap_held : Nat := 138
abbrev T_func_int_v2 : Nat := 139
abbrev T_func_int_int_v2 : Nat := 140
abbrev T_func_int_api_Arc_bool_v2 : Nat := 141
abbrev T_func_int_int64_bool_v2 : Nat := 142
abbrev T_func_int_bool_bool : Nat := 143
abbrev T_int_int : Nat := 144
abbrev T_func_func_graph_place_bool : Nat := 145
abbrev T_iter_Seq_graph_place : Nat := 146
abbrev T_func_api_Errno_int_int_int_iter_Seq_graph_place : Nat := 147
abbrev T_func_iter_Seq_graph_place : Nat := 148
abbrev T_func_api_Raw_iter_Seq_graph_place : Nat := 149
abbrev T_sl_func_iter_Seq_graph_place : Nat := 150
abbrev T_struct_index_int_field_int_code_api_Errno_n_int64_least_int64_end_int64 : Nat := 151
abbrev T_graph_place : Nat := 152
abbrev T_unsafe_Pointer : Nat := 153
abbrev T_reflectlite_flag : Nat := 154
abbrev T_struct_typ_p_abi_Type_ptr_unsafe_Pointer_reflectlite_flag : Nat := 155
abbrev T_reflectlite_Value : Nat := 156
abbrev T_func_interface_reflectlite_Value : Nat := 157
abbrev T_interface_AssignableTo_reflectlite_Type_bool_Comparable_bool_Elem_reflectlite_Type_Implements_reflectlite_Type_bool_Kind_abi_Kind_Name_string_PkgPath_string_Size_uintptr_String_string_reflectlite_common_p_abi_Type_reflectlite_uncommon_p_abi_UncommonType : Nat := 158
abbrev T_reflectlite_Type : Nat := 159
abbrev T_func_reflectlite_Type : Nat := 160
abbrev T_abi_Kind : Nat := 161
abbrev T_func_abi_Kind : Nat := 162
abbrev T_func_reflectlite_Type_bool : Nat := 163
abbrev T_func_error_interface_reflectlite_Value_reflectlite_Type_bool : Nat := 164
abbrev T_func_sl_api_Arc_int_api_Arc_bool : Nat := 165
abbrev T_uint32 : Nat := 166
abbrev T_uint32_uint32 : Nat := 167
abbrev T_func_uint32_uint32_uint32_uint32 : Nat := 168
abbrev T_uint64 : Nat := 169
abbrev T_uint64_uint64 : Nat := 170
abbrev T_func_uint64_uint64_uint64_uint64 : Nat := 171
abbrev T_p_heap_row : Nat := 172
abbrev T_func_int_int_bool : Nat := 173
abbrev T_func_func_int_bool : Nat := 174
abbrev T_iter_Seq_int : Nat := 175
abbrev T_func_int_iter_Seq_int : Nat := 176
abbrev T_func_sl_graph_place_iter_Seq_graph_place : Nat := 177
abbrev T_sl_graph_place : Nat := 178
abbrev T_func_graph_place_bool : Nat := 179
abbrev T_struct_p_abi_Type : Nat := 180
abbrev T_reflectlite_rtype : Nat := 181
abbrev T_p_reflectlite_ValueError : Nat := 182
abbrev T_func_interface_reflectlite_Type : Nat := 183
abbrev T_func_reflectlite_Value : Nat := 184
abbrev T_func_reflectlite_Value_v2 : Nat := 185
abbrev T_interface_As_interface_bool : Nat := 186
abbrev T_interface_As_interface_bool_bool : Nat := 187
abbrev T_func_interface_bool : Nat := 188
abbrev T_interface_Unwrap_error : Nat := 189
abbrev T_func_error : Nat := 190
abbrev T_interface_Unwrap_sl_error : Nat := 191
abbrev T_sl_error : Nat := 192
abbrev T_func_sl_error : Nat := 193
abbrev T_func_int_int_v3 : Nat := 194
abbrev T_func_int64_int64_int : Nat := 195
abbrev T_func_int_int_int : Nat := 196
abbrev T_func_int_bool : Nat := 197
abbrev T_func_int64_bool : Nat := 198
abbrev T_func_string : Nat := 199
abbrev T_struct_interface_p_abi_Type_concrete_p_abi_Type_asserted_p_abi_Type_missingMethod_string : Nat := 200
abbrev T_runtime_TypeAssertionError : Nat := 201
abbrev T_0_p_runtime_PanicNilError : Nat := 202
abbrev T_struct_0_p_runtime_PanicNilError : Nat := 203
abbrev T_runtime_PanicNilError : Nat := 204
abbrev T_func_p_abi_Type : Nat := 205
abbrev T_abi_TFlag : Nat := 206
abbrev T_func_unsafe_Pointer_unsafe_Pointer_bool : Nat := 207
abbrev T_p_uint8 : Nat := 208
abbrev T_abi_NameOff : Nat := 209
abbrev T_abi_TypeOff : Nat := 210
abbrev T_struct_Size_uintptr_PtrBytes_uintptr_Hash_uint32_TFlag_abi_TFlag_Align_uint8_FieldAlign_uint8_Kind_abi_Kind_Equal_func_unsafe_Pointer_unsafe_Pointer_bool_GCData_p_uint8_Str_abi_NameOff_PtrToThis_abi_TypeOff : Nat := 211
abbrev T_abi_Type : Nat := 212
abbrev T_func_uintptr : Nat := 213
abbrev T_func_p_abi_UncommonType : Nat := 214
abbrev T_struct_Method_string_Kind_abi_Kind : Nat := 215
abbrev T_reflectlite_ValueError : Nat := 216
abbrev T_p_abi_UncommonType : Nat := 217
abbrev T_func_sl_abi_Method : Nat := 218
abbrev T_struct_PkgPath_abi_NameOff_Mcount_uint16_Xcount_uint16_Moff_uint32_uint32 : Nat := 219
abbrev T_abi_UncommonType : Nat := 220
abbrev T_sl_abi_Method : Nat := 221
abbrev T_abi_TextOff : Nat := 222
abbrev T_struct_Name_abi_NameOff_Mtyp_abi_TypeOff_Ifn_abi_TextOff_Tfn_abi_TextOff : Nat := 223
abbrev T_abi_Method : Nat := 224
abbrev T_p_error : Nat := 225
abbrev G_errors_errorType : Nat := 0
end Go.Proofs.YtjamcgoebnafkaaGreatDoor

namespace Go.Proofs.YtjamcgoebnafkaaGreatDoor
open Go Go.Mh
set_option maxHeartbeats 0
set_option linter.unusedVariables false

/-! milestone/milestonelaw11.PathTells -/

def sh_milestonelaw11_PathTells_k1 (P : Program) (K : Value → Heap → Prop) (h_7 : Heap) : Prop :=
  K (.bool false) h_7

def sh_milestonelaw11_PathTells_k3 (P : Program) (K : Value → Heap → Prop) (h_24 : Heap) : Prop :=
  K (.bool false) h_24

def sh_milestonelaw11_PathTells_k5 (P : Program) (K : Value → Heap → Prop) (h_30 : Heap) : Prop :=
  K (.bool false) h_30

def sh_milestonelaw11_PathTells_k6 (P : Program) (K : Value → Heap → Prop) (h_34 : Heap) : Prop :=
  K (.bool false) h_34

def sh_milestonelaw11_PathTells_k8 (P : Program) (v21 : Value) (Z_1 : Value → Heap → Prop) (h_40 : Heap) : Prop :=
  pBin .add v21 (.int .i64 1) fun t110 =>
  Z_1 t110 h_40

def sh_milestonelaw11_PathTells_k7 (P : Program) (K : Value → Heap → Prop) (v21 : Value) (Z_1 : Value → Heap → Prop) (t208 : Value) (h_39 : Heap) : Prop :=
  ifV t208
  (sh_milestonelaw11_PathTells_k6 P K h_39)
  (sh_milestonelaw11_PathTells_k8 P v21 Z_1 h_39)

def sh_milestonelaw11_PathTells_L4 (P : Program) (g7 p14 t36 : Value) (K : Value → Heap → Prop) (t69 : Value) (Z : Value → Heap → Prop) (v21 : Value) (h_25 : Heap) (Z_1 : Value → Heap → Prop) : Prop :=
  pField 0 g7 fun t106 =>
  pLoad h_25 t106 fun t107 =>
  pBin .leq v21 t107 fun t108 =>
  ifV t108
  (pIdxA 3 2 p14 (.int .i64 0) fun t113 =>
  pLoadN 3 h_25 t113 fun t114 =>
  callS P F_path_Ahead [t36, t114, v21] h_25 fun t116 h_26 =>
  pExt t116 0 fun t117 =>
  pExt t116 1 fun t118 =>
  pIdxA 3 2 p14 (.int .i64 1) fun t121 =>
  pLoadN 3 h_26 t121 fun t122 =>
  callS P F_path_Behind [t36, t122, v21] h_26 fun t124 h_27 =>
  pExt t124 0 fun t125 =>
  pExt t124 1 fun t126 =>
  pLoadN 4 h_27 g7 fun t128 =>
  pIdxA 3 2 p14 (.int .i64 0) fun t129 =>
  pField 0 t129 fun t130 =>
  pLoad h_27 t130 fun t131 =>
  pIdxA 3 2 p14 (.int .i64 0) fun t132 =>
  pField 1 t132 fun t133 =>
  pLoad h_27 t133 fun t134 =>
  callS P F_milestoneref11_Ahead [t128, t131, t134, v21] h_27 fun t136 h_28 =>
  pExt t136 0 fun t137 =>
  pExt t136 1 fun t138 =>
  pLoadN 4 h_28 g7 fun t140 =>
  pIdxA 3 2 p14 (.int .i64 1) fun t141 =>
  pField 0 t141 fun t142 =>
  pLoad h_28 t142 fun t143 =>
  pIdxA 3 2 p14 (.int .i64 1) fun t144 =>
  pField 1 t144 fun t145 =>
  pLoad h_28 t145 fun t146 =>
  callS P F_milestoneref11_Follow [t140, t143, t146, v21, (.bool true)] h_28 fun t148 h_29 =>
  pExt t148 0 fun t149 =>
  pExt t148 1 fun t150 =>
  pEq true .bool t118 t138 fun t153 =>
  ifV t153
  (sh_milestonelaw11_PathTells_k5 P K h_29)
  (pEq true .bool t126 t150 fun t157 =>
  ifV t157
  (sh_milestonelaw11_PathTells_k5 P K h_29)
  (callS P F_milestoneref07_Ints [t117, t137] h_29 fun t162 h_31 =>
  pUn .not t162 fun t163 =>
  ifV t163
  (sh_milestonelaw11_PathTells_k5 P K h_31)
  (callS P F_milestoneref07_Ints [t125, t149] h_31 fun t168 h_32 =>
  pUn .not t168 fun t169 =>
  ifV t169
  (sh_milestonelaw11_PathTells_k5 P K h_32)
  (pIdxA 3 2 p14 (.int .i64 0) fun t173 =>
  pLoadN 3 h_32 t173 fun t174 =>
  pIdxA 3 2 p14 (.int .i64 1) fun t175 =>
  pLoadN 3 h_32 t175 fun t176 =>
  callS P F_path_Joined [t36, t174, t176, v21] h_32 fun t178 h_33 =>
  pExt t178 0 fun t179 =>
  pExt t178 1 fun t180 =>
  ifV t118
  (pEq true .bool t180 t126 fun t186 =>
  ifV t186
  (sh_milestonelaw11_PathTells_k6 P K h_33)
  (ifV t180
  (pBuildSlice T_int (zerosL [(.int .i64 0)] 0) [] 0 h_33 fun t191 h_35 =>
  pAppend T_int 1 8 [(.int .i64 0)] t191 t117 h_35 fun t193 h_36 =>
  pAppend T_int 1 8 [(.int .i64 0)] t193 t125 h_36 fun t195 h_37 =>
  callS P F_milestoneref07_Ints [t179, t195] h_37 fun t196 h_38 =>
  pUn .not t196 fun t197 =>
  ifV t197
  (sh_milestonelaw11_PathTells_k6 P K h_38)
  (pUn .not t180 fun t202 =>
  ifV t202
  (pLen t179 fun t205 =>
  pBin .gtr t205 (.int .i64 0) fun t206 =>
  sh_milestonelaw11_PathTells_k7 P K v21 Z_1 t206 h_38)
  (sh_milestonelaw11_PathTells_k8 P v21 Z_1 h_38)))
  (pUn .not t180 fun t202_1 =>
  ifV t202_1
  (pLen t179 fun t205_1 =>
  pBin .gtr t205_1 (.int .i64 0) fun t206_1 =>
  sh_milestonelaw11_PathTells_k7 P K v21 Z_1 t206_1 h_33)
  (sh_milestonelaw11_PathTells_k8 P v21 Z_1 h_33))))
  (pEq true .bool t180 (.bool false) fun t186_1 =>
  ifV t186_1
  (sh_milestonelaw11_PathTells_k6 P K h_33)
  (ifV t180
  (pBuildSlice T_int (zerosL [(.int .i64 0)] 0) [] 0 h_33 fun t191_1 h_41 =>
  pAppend T_int 1 8 [(.int .i64 0)] t191_1 t117 h_41 fun t193_1 h_42 =>
  pAppend T_int 1 8 [(.int .i64 0)] t193_1 t125 h_42 fun t195_1 h_43 =>
  callS P F_milestoneref07_Ints [t179, t195_1] h_43 fun t196_1 h_44 =>
  pUn .not t196_1 fun t197_1 =>
  ifV t197_1
  (sh_milestonelaw11_PathTells_k6 P K h_44)
  (pUn .not t180 fun t202_2 =>
  ifV t202_2
  (pLen t179 fun t205_2 =>
  pBin .gtr t205_2 (.int .i64 0) fun t206_2 =>
  sh_milestonelaw11_PathTells_k7 P K v21 Z_1 t206_2 h_44)
  (sh_milestonelaw11_PathTells_k8 P v21 Z_1 h_44)))
  (pUn .not t180 fun t202_3 =>
  ifV t202_3
  (pLen t179 fun t205_3 =>
  pBin .gtr t205_3 (.int .i64 0) fun t206_3 =>
  sh_milestonelaw11_PathTells_k7 P K v21 Z_1 t206_3 h_33)
  (sh_milestonelaw11_PathTells_k8 P v21 Z_1 h_33)))))))))
  (pBin .add t69 (.int .i64 1) fun t209 =>
  Z t209 h_25)

def sh_milestonelaw11_PathTells_L2 (P : Program) (t68 : Value) (K : Value → Heap → Prop) (g7 t36 t69 : Value) (h_19 : Heap) (Z : Value → Heap → Prop) : Prop :=
  pBin .lss t69 (.int .i64 3) fun t70 =>
  ifV t70
  (pIdxVN 6 3 t68 t69 fun t71 =>
  pBox T_2_flood_Tree (.agg #[(.slice none 0 0), (.slice none 0 0), (.slice none 0 0), (.slice none 0 0), (.slice none 0 0), (.slice none 0 0)]) h_19 fun p14 h_20 =>
  pStore 6 p14 t71 h_20 fun u_3 h_21 =>
  pIdxA 3 2 p14 (.int .i64 0) fun t73 =>
  pLoadN 3 h_21 t73 fun t74 =>
  pIdxA 3 2 p14 (.int .i64 1) fun t75 =>
  pLoadN 3 h_21 t75 fun t76 =>
  callS P F_path_Meet [t74, t76] h_21 fun t77 h_22 =>
  pExt t77 0 fun t78 =>
  pExt t77 1 fun t79 =>
  pExt t77 2 fun t80 =>
  pIdxA 3 2 p14 (.int .i64 0) fun t82 =>
  pField 0 t82 fun t83 =>
  pLoad h_22 t83 fun t84 =>
  pIdxA 3 2 p14 (.int .i64 1) fun t85 =>
  pField 0 t85 fun t86 =>
  pLoad h_22 t86 fun t87 =>
  callS P F_milestoneref11_Meet [t84, t87] h_22 fun t88 h_23 =>
  pExt t88 0 fun t89 =>
  pExt t88 1 fun t90 =>
  pExt t88 2 fun t91 =>
  pBin .neq t78 t89 fun t94 =>
  ifV t94
  (sh_milestonelaw11_PathTells_k3 P K h_23)
  (pBin .neq t79 t90 fun t98 =>
  ifV t98
  (sh_milestonelaw11_PathTells_k3 P K h_23)
  (pEq true .bool t80 t91 fun t103 =>
  ifV t103
  (sh_milestonelaw11_PathTells_k3 P K h_23)
  (LoopH (σ := Vals [21]) (fun x hh ZZ => sh_milestonelaw11_PathTells_L4 P g7 p14 t36 K t69 Z x.1 hh (fun a0 hz => ZZ (a0, ()) hz)) ((.int .i64 (-1)), ()) h_23))))
  (K (.bool true) h_19)

def sh_milestonelaw11_PathTells (P : Program) (d0 x1 y2 : Value) (h : Heap) (K : Value → Heap → Prop) : Prop :=
  pBox T_milestonelaw11_Drawn d0 h fun d3 h_1 =>
  pBox T_4_int16 x1 h_1 fun x4 h_2 =>
  pBox T_4_int16 y2 h_2 fun y5 h_3 =>
  pLoadN 3 h_3 d3 fun t33 =>
  callS P F_milestonelaw11_Drawn_graph [t33] h_3 fun t34 h_4 =>
  pExt t34 0 fun t35 =>
  pExt t34 1 fun t36 =>
  pExt t34 2 fun t37 =>
  pExt t34 3 fun t38 =>
  pBox T_api_Raw (.agg #[(.int .i64 0), (.slice none 0 0), (.slice none 0 0), (.slice none 0 0)]) h_4 fun g7 h_5 =>
  pStore 4 g7 t35 h_5 fun u h_6 =>
  pEq false .ptr t36 (.pointer none) fun t40 =>
  ifV t40
  (sh_milestonelaw11_PathTells_k1 P K h_6)
  (callS P F_milestonelaw11_works [] h_6 fun t42 h_8 =>
  pUn .not t42 fun t43 =>
  ifV t43
  (sh_milestonelaw11_PathTells_k1 P K h_8)
  (callS P F_flood_From [t36, t37] h_8 fun t47 h_9 =>
  callS P F_flood_To [t36, t38] h_9 fun t50 h_10 =>
  pBox T_flood_Tree (.agg #[(.slice none 0 0), (.slice none 0 0), (.slice none 0 0)]) h_10 fun one11 h_11 =>
  pBox T_flood_Tree (.agg #[(.slice none 0 0), (.slice none 0 0), (.slice none 0 0)]) h_11 fun two12 h_12 =>
  pStore 3 one11 t47 h_12 fun u_1 h_13 =>
  pStore 3 two12 t50 h_13 fun u_2 h_14 =>
  pLoadN 3 h_14 one11 fun t51 =>
  pLoadN 3 h_14 two12 fun t52 =>
  pBuild [(.slice none 0 0), (.slice none 0 0), (.slice none 0 0), (.slice none 0 0), (.slice none 0 0), (.slice none 0 0)] [(0, 3, t51), (3, 3, t52)] fun t53 =>
  pLoadN 3 h_14 one11 fun t54 =>
  pLoadN 4 h_14 x4 fun t55 =>
  pLoadN 3 h_14 two12 fun t57 =>
  pLoadN 4 h_14 y5 fun t58 =>
  pLoadN 3 h_14 two12 fun t61 =>
  pLoadN 4 h_14 x4 fun t62 =>
  pLoadN 3 h_14 one11 fun t64 =>
  pLoadN 4 h_14 y5 fun t65 =>
  callS P F_milestonelaw11_turned [t54, t55] h_14 fun t56 h_15 =>
  (pLoadN 3 h_15 one11 fun t51_1 =>
  t51_1 = t51) ∧
  (pLoadN 3 h_15 two12 fun t52_1 =>
  t52_1 = t52) ∧
  (pLoadN 3 h_15 two12 fun t57_1 =>
  t57_1 = t57) ∧
  (pLoadN 4 h_15 y5 fun t58_1 =>
  t58_1 = t58) ∧
  (pLoadN 3 h_15 two12 fun t61_1 =>
  t61_1 = t61) ∧
  (pLoadN 4 h_15 x4 fun t62_1 =>
  t62_1 = t62) ∧
  (pLoadN 3 h_15 one11 fun t64_1 =>
  t64_1 = t64) ∧
  (pLoadN 4 h_15 y5 fun t65_1 =>
  t65_1 = t65) ∧
  (callS P F_milestonelaw11_turned [t57, t58] h_15 fun t59 h_16 =>
  (pLoadN 3 h_16 one11 fun t51_2 =>
  t51_2 = t51) ∧
  (pLoadN 3 h_16 two12 fun t52_2 =>
  t52_2 = t52) ∧
  (pLoadN 3 h_16 two12 fun t61_2 =>
  t61_2 = t61) ∧
  (pLoadN 4 h_16 x4 fun t62_2 =>
  t62_2 = t62) ∧
  (pLoadN 3 h_16 one11 fun t64_2 =>
  t64_2 = t64) ∧
  (pLoadN 4 h_16 y5 fun t65_2 =>
  t65_2 = t65) ∧
  (pBuild [(.slice none 0 0), (.slice none 0 0), (.slice none 0 0), (.slice none 0 0), (.slice none 0 0), (.slice none 0 0)] [(0, 3, t56), (3, 3, t59)] fun t60 =>
  callS P F_milestonelaw11_turned [t61, t62] h_16 fun t63 h_17 =>
  (pLoadN 3 h_17 one11 fun t51_3 =>
  t51_3 = t51) ∧
  (pLoadN 3 h_17 two12 fun t52_3 =>
  t52_3 = t52) ∧
  (pLoadN 3 h_17 one11 fun t64_3 =>
  t64_3 = t64) ∧
  (pLoadN 4 h_17 y5 fun t65_3 =>
  t65_3 = t65) ∧
  (callS P F_milestonelaw11_turned [t64, t65] h_17 fun t66 h_18 =>
  (pLoadN 3 h_18 one11 fun t51_4 =>
  t51_4 = t51) ∧
  (pLoadN 3 h_18 two12 fun t52_4 =>
  t52_4 = t52) ∧
  (pBuild [(.slice none 0 0), (.slice none 0 0), (.slice none 0 0), (.slice none 0 0), (.slice none 0 0), (.slice none 0 0)] [(0, 3, t63), (3, 3, t66)] fun t67 =>
  pBuild [(.slice none 0 0), (.slice none 0 0), (.slice none 0 0), (.slice none 0 0), (.slice none 0 0), (.slice none 0 0), (.slice none 0 0), (.slice none 0 0), (.slice none 0 0), (.slice none 0 0), (.slice none 0 0), (.slice none 0 0), (.slice none 0 0), (.slice none 0 0), (.slice none 0 0), (.slice none 0 0), (.slice none 0 0), (.slice none 0 0)] [(0, 6, t53), (6, 6, t60), (12, 6, t67)] fun t68 =>
  LoopH (σ := Vals [69]) (fun x hh ZZ => sh_milestonelaw11_PathTells_L2 P t68 K g7 t36 x.1 hh (fun a0 hz => ZZ (a0, ()) hz)) ((.int .i64 0), ()) h_18))))))

set_option maxRecDepth 100000 in
theorem lk_milestonelaw11_PathTells (d0 x1 y2 : Value) {h : Heap} {K : Value → Heap → Prop} (H : sh_milestonelaw11_PathTells Tryz.prog d0 x1 y2 h K) : CallsH Tryz.prog F_milestonelaw11_PathTells [d0, x1, y2].toArray h K :=
  callsH_of (ann := (annG (Tryz.f3.body.getD .skip) 0 [(8, [69]), (19, [21])]).1) (c := Tryz.f3.body.getD .skip) Tryz.func3 (by kernel_rfl) (by kernel_rfl) (by kernel_rfl) (of_decide_eq_true (by kernel_rfl))
    (Eq.mpr (by kernel_rfl) H)

/-! milestone/milestonelaw11.PathKnown -/

def sh_milestonelaw11_PathKnown_C1 (P : Program) (K : Value → Heap → Prop) (n1 err2 : Value) (h_22 : Heap) : Prop :=
  pEq true .iface err2 .nilIface fun t38 =>
  ifV t38
  (K (.bool false) h_22)
  (pBuildSlice T_int64 (zerosL [(.int .i64 0)] 2) [(0, 1, (.int .i64 3)), (1, 1, (.int .i64 3))] 2 h_22 fun t39 h_23 =>
  pBuildSlice T_int (zerosL [(.int .i64 0)] 2) [(0, 1, (.int .i64 1)), (1, 1, (.int .i64 0))] 2 h_23 fun t40 h_24 =>
  pBuild [(.slice none 0 0), (.slice none 0 0), (.slice none 0 0)] [(0, 1, t39), (1, 1, t40)] fun t41 =>
  pBox T_flood_Tree (.agg #[(.slice none 0 0), (.slice none 0 0), (.slice none 0 0)]) h_24 fun ring3 h_25 =>
  pStore 3 ring3 t41 h_25 fun u h_26 =>
  pLoadN 3 h_26 ring3 fun t44 =>
  callS P F_path_Ahead [n1, t44, (.int .i64 0)] h_26 fun t45 h_27 =>
  pExt t45 0 fun t46 =>
  pExt t45 1 fun t47 =>
  pLoadN 3 h_27 ring3 fun t50 =>
  callS P F_path_Behind [n1, t50, (.int .i64 1)] h_27 fun t51 h_28 =>
  pExt t51 0 fun t52 =>
  pExt t51 1 fun t53 =>
  pBuildSlice T_int64 (zerosL [(.int .i64 0)] 2) [(0, 1, (.int .i64 0)), (1, 1, (.int .i64 0))] 2 h_28 fun t56 h_29 =>
  pBuildSlice T_int (zerosL [(.int .i64 0)] 2) [(0, 1, (.int .i64 (-1))), (1, 1, (.int .i64 2))] 2 h_29 fun t57 h_30 =>
  pBuild [(.slice none 0 0), (.slice none 0 0), (.slice none 0 0)] [(0, 1, t56), (1, 1, t57)] fun t58 =>
  callS P F_path_Ahead [n1, t58, (.int .i64 1)] h_30 fun t59 h_31 =>
  pExt t59 0 fun t60 =>
  pExt t59 1 fun t61 =>
  pBuildSlice T_int64 (zerosL [(.int .i64 0)] 2) [(0, 1, (.int .i64 0)), (1, 1, (.int .i64 7))] 2 h_31 fun t64 h_32 =>
  pBuildSlice T_int (zerosL [(.int .i64 0)] 2) [(0, 1, (.int .i64 (-1))), (1, 1, (.int .i64 0))] 2 h_32 fun t65 h_33 =>
  pBuild [(.slice none 0 0), (.slice none 0 0), (.slice none 0 0)] [(0, 1, t64), (1, 1, t65)] fun t66 =>
  callS P F_path_Ahead [n1, t66, (.int .i64 1)] h_33 fun t67 h_34 =>
  pExt t67 0 fun t68 =>
  pExt t67 1 fun t69 =>
  pBuildSlice T_int64 (zerosL [(.int .i64 0)] 2) [(0, 1, (.int .i64 0)), (1, 1, (.int .i64 7))] 2 h_34 fun t72 h_35 =>
  pBuild [(.slice none 0 0), (.slice none 0 0), (.slice none 0 0)] [(0, 1, t72)] fun t73 =>
  callS P F_path_Ahead [n1, t73, (.int .i64 1)] h_35 fun t74 h_36 =>
  pExt t74 0 fun t75 =>
  pExt t74 1 fun t76 =>
  pBuildSlice T_int64 (zerosL [(.int .i64 0)] 1) [(0, 1, (.int .i64 0))] 1 h_36 fun t79 h_37 =>
  pBuildSlice T_int (zerosL [(.int .i64 0)] 2) [(0, 1, (.int .i64 (-1))), (1, 1, (.int .i64 0))] 2 h_37 fun t80 h_38 =>
  pBuild [(.slice none 0 0), (.slice none 0 0), (.slice none 0 0)] [(0, 1, t79), (1, 1, t80)] fun t81 =>
  callS P F_path_Ahead [n1, t81, (.int .i64 1)] h_38 fun t82 h_39 =>
  pExt t82 0 fun t83 =>
  pExt t82 1 fun t84 =>
  pBuildSlice T_int64 (zerosL [(.int .i64 0)] 1) [(0, 1, (.int .i64 0))] 1 h_39 fun t86 h_40 =>
  pBuild [(.slice none 0 0), (.slice none 0 0), (.slice none 0 0)] [(0, 1, t86)] fun t87 =>
  callS P F_path_Ahead [(.pointer none), t87, (.int .i64 0)] h_40 fun t88 h_41 =>
  pExt t88 0 fun t89 =>
  pExt t88 1 fun t90 =>
  pBuild [(.slice none 0 0), (.slice none 0 0), (.slice none 0 0)] [] fun t92 =>
  pLoadN 3 h_41 ring3 fun t93 =>
  callS P F_path_Meet [t92, t93] h_41 fun t94 h_42 =>
  pExt t94 0 fun t95 =>
  pExt t94 1 fun t96 =>
  pExt t94 2 fun t97 =>
  pLoadN 3 h_42 ring3 fun t99 =>
  pBuildSlice T_int64 (zerosL [(.int .i64 0)] 3) [(0, 1, (.int .i64 5)), (1, 1, (.int .i64 5)), (2, 1, (.int .i64 0))] 3 h_42 fun t100 h_43 =>
  pBuild [(.slice none 0 0), (.slice none 0 0), (.slice none 0 0)] [(0, 1, t100)] fun t101 =>
  callS P F_path_Meet [t99, t101] h_43 fun t102 h_44 =>
  pExt t102 0 fun t103 =>
  pExt t102 1 fun t104 =>
  pExt t102 2 fun t105 =>
  pLoadN 3 h_44 ring3 fun t107 =>
  pLoadN 3 h_44 ring3 fun t108 =>
  callS P F_path_Joined [(.pointer none), t107, t108, (.int .i64 0)] h_44 fun t109 h_45 =>
  pExt t109 0 fun t110 =>
  pExt t109 1 fun t111 =>
  callS P F_milestonelaw11_works [] h_45 fun t112 h_46 =>
  ifV t112
  (pUn .not t47 fun t115 =>
  ifV t115
  (pUn .not t53 fun t119 =>
  ifV t119
  (pUn .not t61 fun t123 =>
  ifV t123
  (ifV t69
  (pBuildSlice T_int (zerosL [(.int .i64 0)] 1) [(0, 1, (.int .i64 0))] 1 h_46 fun t130 h_47 =>
  callS P F_milestoneref07_Ints [t68, t130] h_47 fun t131 h_48 =>
  ifV t131
  (ifV t76
  (pLen t75 fun t138 =>
  pBin .eql t138 (.int .i64 0) fun t139 =>
  ifV t139
  (pUn .not t84 fun t143 =>
  ifV t143
  (pUn .not t90 fun t147 =>
  ifV t147
  (pBin .eql t95 (.int .i64 (-1)) fun t151 =>
  ifV t151
  (pBin .eql t96 (.int .i64 72057594037927936) fun t155 =>
  ifV t155
  (pUn .not t97 fun t159 =>
  ifV t159
  (pBin .eql t103 (.int .i64 0) fun t163 =>
  ifV t163
  (pBin .eql t104 (.int .i64 8) fun t167 =>
  ifV t167
  (ifV t105
  (pUn .not t111 fun t174 =>
  K t174 h_48)
  (K (.bool false) h_48))
  (K (.bool false) h_48))
  (K (.bool false) h_48))
  (K (.bool false) h_48))
  (K (.bool false) h_48))
  (K (.bool false) h_48))
  (K (.bool false) h_48))
  (K (.bool false) h_48))
  (K (.bool false) h_48))
  (K (.bool false) h_48))
  (K (.bool false) h_48))
  (K (.bool false) h_46))
  (K (.bool false) h_46))
  (K (.bool false) h_46))
  (K (.bool false) h_46))
  (K (.bool false) h_46))

def sh_milestonelaw11_PathKnown (P : Program) (h : Heap) (K : Value → Heap → Prop) : Prop :=
  cutP (σ := Vals [1, 2]) (fun J =>
  pBuild [(.int .i64 0), (.int .i64 0), (.int .i64 0)] [(0, 1, (.int .i64 0)), (1, 1, (.int .i64 1)), (2, 1, (.int .i64 1))] fun t29 =>
  pBuild [(.int .i64 0), (.int .i64 0), (.int .i64 0)] [(0, 1, (.int .i64 1)), (1, 1, (.int .i64 0)), (2, 1, (.int .i64 1))] fun t30 =>
  pBuild [(.int .i64 0), (.int .i64 0), (.int .i64 0)] [(0, 1, (.int .i64 1)), (1, 1, (.int .i64 1))] fun t31 =>
  (pMakeSlice T_int64 8 [(.int .i64 0)] (.int .i64 2) (.int .i64 2) h fun t27 h_1 =>
  (pMakeSlice T_int64 8 [(.int .i64 0)] (.int .i64 2) (.int .i64 2) h_1 fun t28 h_2 =>
  pBuildSlice T_api_Arc (zerosL [(.int .i64 0), (.int .i64 0), (.int .i64 0)] 3) [(0, 3, t29), (3, 3, t30), (6, 3, t31)] 3 h_2 fun t32 h_3 =>
  pBuild [(.int .i64 0), (.slice none 0 0), (.slice none 0 0), (.slice none 0 0)] [(0, 1, (.int .i64 2)), (1, 1, t27), (2, 1, t28), (3, 1, t32)] fun t33 =>
  callS P F_net_New [t33] h_3 fun t34 h_4 =>
  pExt t34 0 fun t35 =>
  pExt t34 1 fun t36 =>
  J (t35, (t36, ())) h_4) ∧
  (pBuildSlice T_api_Arc (zerosL [(.int .i64 0), (.int .i64 0), (.int .i64 0)] 3) [(0, 3, t29), (3, 3, t30), (6, 3, t31)] 3 h_1 fun t32_1 h_5 =>
  pMakeSlice T_int64 8 [(.int .i64 0)] (.int .i64 2) (.int .i64 2) h_5 fun t28_1 h_6 =>
  pBuild [(.int .i64 0), (.slice none 0 0), (.slice none 0 0), (.slice none 0 0)] [(0, 1, (.int .i64 2)), (1, 1, t27), (2, 1, t28_1), (3, 1, t32_1)] fun t33_1 =>
  callS P F_net_New [t33_1] h_6 fun t34_1 h_7 =>
  pExt t34_1 0 fun t35_1 =>
  pExt t34_1 1 fun t36_1 =>
  J (t35_1, (t36_1, ())) h_7)) ∧
  (pMakeSlice T_int64 8 [(.int .i64 0)] (.int .i64 2) (.int .i64 2) h fun t28_2 h_8 =>
  (pMakeSlice T_int64 8 [(.int .i64 0)] (.int .i64 2) (.int .i64 2) h_8 fun t27_1 h_9 =>
  pBuildSlice T_api_Arc (zerosL [(.int .i64 0), (.int .i64 0), (.int .i64 0)] 3) [(0, 3, t29), (3, 3, t30), (6, 3, t31)] 3 h_9 fun t32_2 h_10 =>
  pBuild [(.int .i64 0), (.slice none 0 0), (.slice none 0 0), (.slice none 0 0)] [(0, 1, (.int .i64 2)), (1, 1, t27_1), (2, 1, t28_2), (3, 1, t32_2)] fun t33_2 =>
  callS P F_net_New [t33_2] h_10 fun t34_2 h_11 =>
  pExt t34_2 0 fun t35_2 =>
  pExt t34_2 1 fun t36_2 =>
  J (t35_2, (t36_2, ())) h_11) ∧
  (pBuildSlice T_api_Arc (zerosL [(.int .i64 0), (.int .i64 0), (.int .i64 0)] 3) [(0, 3, t29), (3, 3, t30), (6, 3, t31)] 3 h_8 fun t32_3 h_12 =>
  pMakeSlice T_int64 8 [(.int .i64 0)] (.int .i64 2) (.int .i64 2) h_12 fun t27_2 h_13 =>
  pBuild [(.int .i64 0), (.slice none 0 0), (.slice none 0 0), (.slice none 0 0)] [(0, 1, (.int .i64 2)), (1, 1, t27_2), (2, 1, t28_2), (3, 1, t32_3)] fun t33_3 =>
  callS P F_net_New [t33_3] h_13 fun t34_3 h_14 =>
  pExt t34_3 0 fun t35_3 =>
  pExt t34_3 1 fun t36_3 =>
  J (t35_3, (t36_3, ())) h_14)) ∧
  (pBuildSlice T_api_Arc (zerosL [(.int .i64 0), (.int .i64 0), (.int .i64 0)] 3) [(0, 3, t29), (3, 3, t30), (6, 3, t31)] 3 h fun t32_4 h_15 =>
  (pMakeSlice T_int64 8 [(.int .i64 0)] (.int .i64 2) (.int .i64 2) h_15 fun t27_3 h_16 =>
  pMakeSlice T_int64 8 [(.int .i64 0)] (.int .i64 2) (.int .i64 2) h_16 fun t28_3 h_17 =>
  pBuild [(.int .i64 0), (.slice none 0 0), (.slice none 0 0), (.slice none 0 0)] [(0, 1, (.int .i64 2)), (1, 1, t27_3), (2, 1, t28_3), (3, 1, t32_4)] fun t33_4 =>
  callS P F_net_New [t33_4] h_17 fun t34_4 h_18 =>
  pExt t34_4 0 fun t35_4 =>
  pExt t34_4 1 fun t36_4 =>
  J (t35_4, (t36_4, ())) h_18) ∧
  (pMakeSlice T_int64 8 [(.int .i64 0)] (.int .i64 2) (.int .i64 2) h_15 fun t28_4 h_19 =>
  pMakeSlice T_int64 8 [(.int .i64 0)] (.int .i64 2) (.int .i64 2) h_19 fun t27_4 h_20 =>
  pBuild [(.int .i64 0), (.slice none 0 0), (.slice none 0 0), (.slice none 0 0)] [(0, 1, (.int .i64 2)), (1, 1, t27_4), (2, 1, t28_4), (3, 1, t32_4)] fun t33_5 =>
  callS P F_net_New [t33_5] h_20 fun t34_5 h_21 =>
  pExt t34_5 0 fun t35_5 =>
  pExt t34_5 1 fun t36_5 =>
  J (t35_5, (t36_5, ())) h_21)))
  (fun x hh => sh_milestonelaw11_PathKnown_C1 P K x.1 x.2.1 hh)

set_option maxRecDepth 100000 in
theorem lk_milestonelaw11_PathKnown {h : Heap} {K : Value → Heap → Prop} (H : sh_milestonelaw11_PathKnown Tryz.prog h K) : CallsH Tryz.prog F_milestonelaw11_PathKnown [].toArray h K :=
  callsH_of (ann := (annG (Tryz.f4.body.getD .skip) 0 [(1, [1, 2])]).1) (c := Tryz.f4.body.getD .skip) Tryz.func4 (by kernel_rfl) (by kernel_rfl) (by kernel_rfl) (of_decide_eq_true (by kernel_rfl))
    (Eq.mpr (by kernel_rfl) H)

/-! milestone/milestonelaw11.PathPrefix -/

def sh_milestonelaw11_PathPrefix_k2 (P : Program) (v8 : Value) (Z : Value → Heap → Prop) (h_12 : Heap) : Prop :=
  pBin .add v8 (.int .i64 1) fun t35 =>
  Z t35 h_12

def sh_milestonelaw11_PathPrefix_k3 (P : Program) (K : Value → Heap → Prop) (h_13 : Heap) : Prop :=
  K (.bool false) h_13

def sh_milestonelaw11_PathPrefix_C5 (P : Program) (K : Value → Heap → Prop) (k13 : Value) (Z_1 : Value → Heap → Prop) (t113 : Value) (h_17 : Heap) : Prop :=
  ifV t113
  (K (.bool false) h_17)
  (pBin .add k13 (.int .i64 1) fun t69 =>
  Z_1 t69 h_17)

def sh_milestonelaw11_PathPrefix_L4 (P : Program) (t48 from7 t22 t41 : Value) (K : Value → Heap → Prop) (v8 : Value) (Z : Value → Heap → Prop) (k13 : Value) (h_14 : Heap) (Z_1 : Value → Heap → Prop) : Prop :=
  pLen t48 fun t66 =>
  pBin .lss k13 t66 fun t67 =>
  ifV t67
  (pLoadN 3 h_14 from7 fun t72 =>
  pIdx 1 t48 k13 fun t75 =>
  pLoad h_14 t75 fun t76 =>
  callS P F_path_Ahead [t22, t72, t76] h_14 fun t77 h_15 =>
  pExt t77 0 fun t78 =>
  pExt t77 1 fun t79 =>
  cutP (σ := Vals [113]) (fun J =>
  pUn .not t79 fun t81 =>
  ifV t81
  (J ((.bool true), ()) h_15)
  (pSlice 1 t41 none (some k13) none fun t86 =>
  callS P F_milestoneref07_Ints [t78, t86] h_15 fun t87 h_16 =>
  pUn .not t87 fun t88 =>
  ifV t88
  (J ((.bool true), ()) h_16)
  (pBin .gtr k13 (.int .i64 0) fun t92 =>
  ifV t92
  (pField 0 from7 fun t94 =>
  pLoad h_16 t94 fun t95 =>
  pIdx 1 t48 k13 fun t98 =>
  pLoad h_16 t98 fun t99 =>
  pIdx 1 t95 t99 fun t100 =>
  pLoad h_16 t100 fun t101 =>
  pField 0 from7 fun t102 =>
  pLoad h_16 t102 fun t103 =>
  pBin .sub k13 (.int .i64 1) fun t106 =>
  pIdx 1 t48 t106 fun t107 =>
  pLoad h_16 t107 fun t108 =>
  pIdx 1 t103 t108 fun t109 =>
  pLoad h_16 t109 fun t110 =>
  pBin .lss t101 t110 fun t111 =>
  J (t111, ()) h_16)
  (J ((.bool false), ()) h_16))))
  (fun x hh => sh_milestonelaw11_PathPrefix_C5 P K k13 Z_1 x.1 hh))
  (sh_milestonelaw11_PathPrefix_k2 P v8 Z h_14)

def sh_milestonelaw11_PathPrefix_L1 (P : Program) (g3 from7 t22 t23 : Value) (K : Value → Heap → Prop) (v8 : Value) (h_9 : Heap) (Z : Value → Heap → Prop) : Prop :=
  pField 0 g3 fun t31 =>
  pLoad h_9 t31 fun t32 =>
  pBin .lss v8 t32 fun t33 =>
  ifV t33
  (pLoadN 3 h_9 from7 fun t38 =>
  callS P F_path_Ahead [t22, t38, v8] h_9 fun t40 h_10 =>
  pExt t40 0 fun t41 =>
  pExt t40 1 fun t42 =>
  callS P F_walk_Nodes [t22, t23, t41] h_10 fun t47 h_11 =>
  pExt t47 0 fun t48 =>
  pExt t47 1 fun t49 =>
  pUn .not t42 fun t51 =>
  ifV t51
  (sh_milestonelaw11_PathPrefix_k2 P v8 Z h_11)
  (pUn .not t49 fun t53 =>
  ifV t53
  (sh_milestonelaw11_PathPrefix_k3 P K h_11)
  (pLen t48 fun t57 =>
  pBin .sub t57 (.int .i64 1) fun t58 =>
  pIdx 1 t48 t58 fun t59 =>
  pLoad h_11 t59 fun t60 =>
  pBin .neq t60 v8 fun t62 =>
  ifV t62
  (sh_milestonelaw11_PathPrefix_k3 P K h_11)
  (LoopH (σ := Vals [13]) (fun x hh ZZ => sh_milestonelaw11_PathPrefix_L4 P t48 from7 t22 t41 K v8 Z x.1 hh (fun a0 hz => ZZ (a0, ()) hz)) ((.int .i64 0), ()) h_11))))
  (K (.bool true) h_9)

def sh_milestonelaw11_PathPrefix (P : Program) (d0 : Value) (h : Heap) (K : Value → Heap → Prop) : Prop :=
  pBox T_milestonelaw11_Drawn d0 h fun d1 h_1 =>
  callS P F_milestonelaw11_works [] h_1 fun t16 h_2 =>
  pUn .not t16 fun t17 =>
  ifV t17
  (K (.bool false) h_2)
  (pLoadN 3 h_2 d1 fun t19 =>
  callS P F_milestonelaw11_Drawn_graph [t19] h_2 fun t20 h_3 =>
  pExt t20 0 fun t21 =>
  pExt t20 1 fun t22 =>
  pExt t20 2 fun t23 =>
  pExt t20 3 fun t24 =>
  pBox T_api_Raw (.agg #[(.int .i64 0), (.slice none 0 0), (.slice none 0 0), (.slice none 0 0)]) h_3 fun g3 h_4 =>
  pStore 4 g3 t21 h_4 fun u h_5 =>
  pEq false .ptr t22 (.pointer none) fun t26 =>
  ifV t26
  (K (.bool false) h_5)
  (callS P F_flood_From [t22, t23] h_5 fun t29 h_6 =>
  pBox T_flood_Tree (.agg #[(.slice none 0 0), (.slice none 0 0), (.slice none 0 0)]) h_6 fun from7 h_7 =>
  pStore 3 from7 t29 h_7 fun u_1 h_8 =>
  LoopH (σ := Vals [8]) (fun x hh ZZ => sh_milestonelaw11_PathPrefix_L1 P g3 from7 t22 t23 K x.1 hh (fun a0 hz => ZZ (a0, ()) hz)) ((.int .i64 0), ()) h_8))

set_option maxRecDepth 100000 in
theorem lk_milestonelaw11_PathPrefix (d0 : Value) {h : Heap} {K : Value → Heap → Prop} (H : sh_milestonelaw11_PathPrefix Tryz.prog d0 h K) : CallsH Tryz.prog F_milestonelaw11_PathPrefix [d0].toArray h K :=
  callsH_of (ann := (annG (Tryz.f5.body.getD .skip) 0 [(11, [8]), (23, [13]), (28, [113])]).1) (c := Tryz.f5.body.getD .skip) Tryz.func5 (by kernel_rfl) (by kernel_rfl) (by kernel_rfl) (of_decide_eq_true (by kernel_rfl))
    (Eq.mpr (by kernel_rfl) H)

/-! milestone/milestonelaw11.PathMeets -/

def sh_milestonelaw11_PathMeets_k1 (P : Program) (K : Value → Heap → Prop) (h_14 : Heap) : Prop :=
  K (.bool false) h_14

def sh_milestonelaw11_PathMeets_C4 (P : Program) (K : Value → Heap → Prop) (u13 : Value) (Z : Value → Heap → Prop) (t120 : Value) (h_19 : Heap) : Prop :=
  ifV t120
  (K (.bool false) h_19)
  (pBin .add u13 (.int .i64 1) fun t65 =>
  Z t65 h_19)

def sh_milestonelaw11_PathMeets_L3 (P : Program) (g3 from7 to8 t24 t25 t26 t47 t39 : Value) (K : Value → Heap → Prop) (u13 : Value) (h_16 : Heap) (Z : Value → Heap → Prop) : Prop :=
  pField 0 g3 fun t61 =>
  pLoad h_16 t61 fun t62 =>
  pBin .lss u13 t62 fun t63 =>
  ifV t63
  (pLoadN 3 h_16 from7 fun t68 =>
  pLoadN 3 h_16 to8 fun t69 =>
  callS P F_path_Joined [t24, t68, t69, u13] h_16 fun t71 h_17 =>
  pExt t71 0 fun t72 =>
  pExt t71 1 fun t73 =>
  callS P F_walk_Check [t24, t25, t26, t72] h_17 fun t79 h_18 =>
  pExt t79 0 fun t80 =>
  pExt t79 1 fun t81 =>
  cutP (σ := Vals [120]) (fun J =>
  ifV t73
  (pUn .not t81 fun t85 =>
  ifV t85
  (J ((.bool true), ()) h_18)
  (pBin .lss t80 t47 fun t89 =>
  ifV t89
  (J ((.bool true), ()) h_18)
  (pField 0 from7 fun t93 =>
  pLoad h_18 t93 fun t94 =>
  pIdx 1 t94 u13 fun t96 =>
  pLoad h_18 t96 fun t97 =>
  pField 0 to8 fun t98 =>
  pLoad h_18 t98 fun t99 =>
  pIdx 1 t99 u13 fun t101 =>
  pLoad h_18 t101 fun t102 =>
  pBin .add t97 t102 fun t103 =>
  pBin .neq t80 t103 fun t104 =>
  ifV t104
  (J ((.bool true), ()) h_18)
  (pBin .eql u13 t39 fun t110 =>
  ifV t110
  (pUn .not t73 fun t113 =>
  ifV t113
  (J ((.bool true), ()) h_18)
  (pBin .neq t80 t47 fun t117 =>
  J (t117, ()) h_18))
  (J ((.bool false), ()) h_18)))))
  (pBin .eql u13 t39 fun t110_1 =>
  ifV t110_1
  (pUn .not t73 fun t113_1 =>
  ifV t113_1
  (J ((.bool true), ()) h_18)
  (pBin .neq t80 t47 fun t117_1 =>
  J (t117_1, ()) h_18))
  (J ((.bool false), ()) h_18)))
  (fun x hh => sh_milestonelaw11_PathMeets_C4 P K u13 Z x.1 hh))
  (K (.bool true) h_16)

def sh_milestonelaw11_PathMeets_k2 (P : Program) (g3 from7 to8 t24 t25 t26 t47 t39 : Value) (K : Value → Heap → Prop) (h_15 : Heap) : Prop :=
  LoopH (σ := Vals [13]) (fun x hh ZZ => sh_milestonelaw11_PathMeets_L3 P g3 from7 to8 t24 t25 t26 t47 t39 K x.1 hh (fun a0 hz => ZZ (a0, ()) hz)) ((.int .i64 0), ()) h_15

def sh_milestonelaw11_PathMeets (P : Program) (d0 : Value) (h : Heap) (K : Value → Heap → Prop) : Prop :=
  pBox T_milestonelaw11_Drawn d0 h fun d1 h_1 =>
  callS P F_milestonelaw11_works [] h_1 fun t18 h_2 =>
  pUn .not t18 fun t19 =>
  ifV t19
  (K (.bool false) h_2)
  (pLoadN 3 h_2 d1 fun t21 =>
  callS P F_milestonelaw11_Drawn_graph [t21] h_2 fun t22 h_3 =>
  pExt t22 0 fun t23 =>
  pExt t22 1 fun t24 =>
  pExt t22 2 fun t25 =>
  pExt t22 3 fun t26 =>
  pBox T_api_Raw (.agg #[(.int .i64 0), (.slice none 0 0), (.slice none 0 0), (.slice none 0 0)]) h_3 fun g3 h_4 =>
  pStore 4 g3 t23 h_4 fun u h_5 =>
  pEq false .ptr t24 (.pointer none) fun t28 =>
  ifV t28
  (K (.bool false) h_5)
  (callS P F_flood_From [t24, t25] h_5 fun t31 h_6 =>
  callS P F_flood_To [t24, t26] h_6 fun t34 h_7 =>
  pBox T_flood_Tree (.agg #[(.slice none 0 0), (.slice none 0 0), (.slice none 0 0)]) h_7 fun from7 h_8 =>
  pBox T_flood_Tree (.agg #[(.slice none 0 0), (.slice none 0 0), (.slice none 0 0)]) h_8 fun to8 h_9 =>
  pStore 3 from7 t31 h_9 fun u_1 h_10 =>
  pStore 3 to8 t34 h_10 fun u_2 h_11 =>
  pLoadN 3 h_11 from7 fun t36 =>
  pLoadN 3 h_11 to8 fun t37 =>
  callS P F_path_Meet [t36, t37] h_11 fun t38 h_12 =>
  pExt t38 0 fun t39 =>
  pExt t38 1 fun t40 =>
  pExt t38 2 fun t41 =>
  pLoadN 4 h_12 g3 fun t42 =>
  callS P F_milestoneref10_Least [t42, t25] h_12 fun t44 h_13 =>
  pIdx 1 t44 t26 fun t46 =>
  pLoad h_13 t46 fun t47 =>
  pBin .lss t47 (.int .i64 72057594037927936) fun t50 =>
  pEq true .bool t41 t50 fun t51 =>
  ifV t51
  (sh_milestonelaw11_PathMeets_k1 P K h_13)
  (ifV t41
  (pBin .neq t40 t47 fun t57 =>
  ifV t57
  (sh_milestonelaw11_PathMeets_k1 P K h_13)
  (sh_milestonelaw11_PathMeets_k2 P g3 from7 to8 t24 t25 t26 t47 t39 K h_13))
  (sh_milestonelaw11_PathMeets_k2 P g3 from7 to8 t24 t25 t26 t47 t39 K h_13))))

set_option maxRecDepth 100000 in
theorem lk_milestonelaw11_PathMeets (d0 : Value) {h : Heap} {K : Value → Heap → Prop} (H : sh_milestonelaw11_PathMeets Tryz.prog d0 h K) : CallsH Tryz.prog F_milestonelaw11_PathMeets [d0].toArray h K :=
  callsH_of (ann := (annG (Tryz.f6.body.getD .skip) 0 [(16, [13]), (22, [120])]).1) (c := Tryz.f6.body.getD .skip) Tryz.func6 (by kernel_rfl) (by kernel_rfl) (by kernel_rfl) (of_decide_eq_true (by kernel_rfl))
    (Eq.mpr (by kernel_rfl) H)

/-! milestone/milestonelaw11.PathLeast -/

def sh_milestonelaw11_PathLeast_k2 (P : Program) (K : Value → Heap → Prop) (h_20 : Heap) : Prop :=
  K (.bool false) h_20

def sh_milestonelaw11_PathLeast_k5 (P : Program) (K : Value → Heap → Prop) (h_26 : Heap) : Prop :=
  K (.bool false) h_26

def sh_milestonelaw11_PathLeast_k7 (P : Program) (v11 : Value) (Z : Value → Heap → Prop) (h_29 : Heap) : Prop :=
  pBin .add v11 (.int .i64 1) fun t53 =>
  Z t53 h_29

def sh_milestonelaw11_PathLeast_k6 (P : Program) (K : Value → Heap → Prop) (v11 : Value) (Z : Value → Heap → Prop) (t159 : Value) (h_28 : Heap) : Prop :=
  ifV t159
  (sh_milestonelaw11_PathLeast_k5 P K h_28)
  (sh_milestonelaw11_PathLeast_k7 P v11 Z h_28)

def sh_milestonelaw11_PathLeast_k4 (P : Program) (t30 t31 t59 v11 t66 t60 : Value) (K : Value → Heap → Prop) (t67 : Value) (Z : Value → Heap → Prop) (h_22 : Heap) : Prop :=
  callS P F_walk_Bare [t30, t31, t59] h_22 fun t134 h_23 =>
  pExt t134 0 fun t135 =>
  pExt t134 1 fun t136 =>
  callS P F_walk_Bare [t30, v11, t66] h_23 fun t141 h_24 =>
  pExt t141 0 fun t142 =>
  pExt t141 1 fun t143 =>
  ifV t60
  (callS P F_milestoneref07_Ints [t135, t59] h_24 fun t148 h_25 =>
  pUn .not t148 fun t149 =>
  ifV t149
  (sh_milestonelaw11_PathLeast_k5 P K h_25)
  (ifV t67
  (callS P F_milestoneref07_Ints [t142, t66] h_25 fun t156 h_27 =>
  pUn .not t156 fun t157 =>
  sh_milestonelaw11_PathLeast_k6 P K v11 Z t157 h_27)
  (sh_milestonelaw11_PathLeast_k7 P v11 Z h_25)))
  (ifV t67
  (callS P F_milestoneref07_Ints [t142, t66] h_24 fun t156_1 h_30 =>
  pUn .not t156_1 fun t157_1 =>
  sh_milestonelaw11_PathLeast_k6 P K v11 Z t157_1 h_30)
  (sh_milestonelaw11_PathLeast_k7 P v11 Z h_24))

def sh_milestonelaw11_PathLeast_k3 (P : Program) (K : Value → Heap → Prop) (t30 t31 t59 v11 t66 t60 t67 : Value) (Z : Value → Heap → Prop) (t129 : Value) (h_21 : Heap) : Prop :=
  ifV t129
  (sh_milestonelaw11_PathLeast_k2 P K h_21)
  (sh_milestonelaw11_PathLeast_k4 P t30 t31 t59 v11 t66 t60 K t67 Z h_21)

def sh_milestonelaw11_PathLeast_L1 (P : Program) (g3 from7 t30 to8 t31 t32 t43 : Value) (K : Value → Heap → Prop) (t47 v11 : Value) (h_15 : Heap) (Z : Value → Heap → Prop) : Prop :=
  pField 0 g3 fun t49 =>
  pLoad h_15 t49 fun t50 =>
  pBin .lss v11 t50 fun t51 =>
  ifV t51
  (pLoadN 3 h_15 from7 fun t56 =>
  callS P F_path_Ahead [t30, t56, v11] h_15 fun t58 h_16 =>
  pExt t58 0 fun t59 =>
  pExt t58 1 fun t60 =>
  pLoadN 3 h_16 to8 fun t63 =>
  callS P F_path_Behind [t30, t63, v11] h_16 fun t65 h_17 =>
  pExt t65 0 fun t66 =>
  pExt t65 1 fun t67 =>
  callS P F_walk_Check [t30, t31, v11, t59] h_17 fun t73 h_18 =>
  pExt t73 0 fun t74 =>
  pExt t73 1 fun t75 =>
  callS P F_walk_Check [t30, v11, t32, t66] h_18 fun t81 h_19 =>
  pExt t81 0 fun t82 =>
  pExt t81 1 fun t83 =>
  pIdx 1 t43 v11 fun t87 =>
  pLoad h_19 t87 fun t88 =>
  pBin .lss t88 (.int .i64 72057594037927936) fun t89 =>
  pEq true .bool t60 t89 fun t90 =>
  ifV t90
  (sh_milestonelaw11_PathLeast_k2 P K h_19)
  (pIdx 1 t47 v11 fun t95 =>
  pLoad h_19 t95 fun t96 =>
  pBin .lss t96 (.int .i64 72057594037927936) fun t97 =>
  pEq true .bool t67 t97 fun t98 =>
  ifV t98
  (sh_milestonelaw11_PathLeast_k2 P K h_19)
  (ifV t60
  (pUn .not t75 fun t104 =>
  ifV t104
  (sh_milestonelaw11_PathLeast_k2 P K h_19)
  (pIdx 1 t43 v11 fun t109 =>
  pLoad h_19 t109 fun t110 =>
  pBin .neq t74 t110 fun t111 =>
  ifV t111
  (sh_milestonelaw11_PathLeast_k2 P K h_19)
  (ifV t67
  (pUn .not t83 fun t119 =>
  ifV t119
  (sh_milestonelaw11_PathLeast_k2 P K h_19)
  (pIdx 1 t47 v11 fun t124 =>
  pLoad h_19 t124 fun t125 =>
  pBin .neq t82 t125 fun t126 =>
  sh_milestonelaw11_PathLeast_k3 P K t30 t31 t59 v11 t66 t60 t67 Z t126 h_19))
  (sh_milestonelaw11_PathLeast_k4 P t30 t31 t59 v11 t66 t60 K t67 Z h_19))))
  (ifV t67
  (pUn .not t83 fun t119_1 =>
  ifV t119_1
  (sh_milestonelaw11_PathLeast_k2 P K h_19)
  (pIdx 1 t47 v11 fun t124_1 =>
  pLoad h_19 t124_1 fun t125_1 =>
  pBin .neq t82 t125_1 fun t126_1 =>
  sh_milestonelaw11_PathLeast_k3 P K t30 t31 t59 v11 t66 t60 t67 Z t126_1 h_19))
  (sh_milestonelaw11_PathLeast_k4 P t30 t31 t59 v11 t66 t60 K t67 Z h_19)))))
  (K (.bool true) h_15)

def sh_milestonelaw11_PathLeast (P : Program) (d0 : Value) (h : Heap) (K : Value → Heap → Prop) : Prop :=
  pBox T_milestonelaw11_Drawn d0 h fun d1 h_1 =>
  callS P F_milestonelaw11_works [] h_1 fun t24 h_2 =>
  pUn .not t24 fun t25 =>
  ifV t25
  (K (.bool false) h_2)
  (pLoadN 3 h_2 d1 fun t27 =>
  callS P F_milestonelaw11_Drawn_graph [t27] h_2 fun t28 h_3 =>
  pExt t28 0 fun t29 =>
  pExt t28 1 fun t30 =>
  pExt t28 2 fun t31 =>
  pExt t28 3 fun t32 =>
  pBox T_api_Raw (.agg #[(.int .i64 0), (.slice none 0 0), (.slice none 0 0), (.slice none 0 0)]) h_3 fun g3 h_4 =>
  pStore 4 g3 t29 h_4 fun u h_5 =>
  pEq false .ptr t30 (.pointer none) fun t34 =>
  ifV t34
  (K (.bool false) h_5)
  (callS P F_flood_From [t30, t31] h_5 fun t37 h_6 =>
  callS P F_flood_To [t30, t32] h_6 fun t40 h_7 =>
  pBox T_flood_Tree (.agg #[(.slice none 0 0), (.slice none 0 0), (.slice none 0 0)]) h_7 fun from7 h_8 =>
  pBox T_flood_Tree (.agg #[(.slice none 0 0), (.slice none 0 0), (.slice none 0 0)]) h_8 fun to8 h_9 =>
  pStore 3 from7 t37 h_9 fun u_1 h_10 =>
  pStore 3 to8 t40 h_10 fun u_2 h_11 =>
  pLoadN 4 h_11 g3 fun t41 =>
  pLoadN 4 h_11 g3 fun t44 =>
  callS P F_milestoneref10_Least [t41, t31] h_11 fun t43 h_12 =>
  (pLoadN 4 h_12 g3 fun t44_1 =>
  t44_1 = t44) ∧
  (callS P F_milestoneref07_Turned [t44] h_12 fun t45 h_13 =>
  callS P F_milestoneref10_Least [t45, t32] h_13 fun t47 h_14 =>
  LoopH (σ := Vals [11]) (fun x hh ZZ => sh_milestonelaw11_PathLeast_L1 P g3 from7 t30 to8 t31 t32 t43 K t47 x.1 hh (fun a0 hz => ZZ (a0, ()) hz)) ((.int .i64 0), ()) h_14)))

set_option maxRecDepth 100000 in
theorem lk_milestonelaw11_PathLeast (d0 : Value) {h : Heap} {K : Value → Heap → Prop} (H : sh_milestonelaw11_PathLeast Tryz.prog d0 h K) : CallsH Tryz.prog F_milestonelaw11_PathLeast [d0].toArray h K :=
  callsH_of (ann := (annG (Tryz.f7.body.getD .skip) 0 [(12, [11])]).1) (c := Tryz.f7.body.getD .skip) Tryz.func7 (by kernel_rfl) (by kernel_rfl) (by kernel_rfl) (of_decide_eq_true (by kernel_rfl))
    (Eq.mpr (by kernel_rfl) H)

end Go.Proofs.YtjamcgoebnafkaaGreatDoor

namespace Go.Proofs.YtjamcgoebnafkaaGreatDoor
open Go Go.Mh
set_option maxHeartbeats 0
set_option linter.unusedVariables false

/-! (milestone/milestonelaw11.Drawn).graph -/

def sh_milestonelaw11_Drawn_graph (P : Program) (d0 : Value) (h : Heap) (K : Value → Heap → Prop) : Prop :=
  pBox T_milestonelaw11_Drawn d0 h fun d1 h_1 =>
  pBox T_api_Raw (.agg #[(.int .i64 0), (.slice none 0 0), (.slice none 0 0), (.slice none 0 0)]) h_1 fun t2 h_2 =>
  pField 0 d1 fun t10 =>
  pLoad h_2 t10 fun t11 =>
  pField 0 d1 fun t12 =>
  pLoad h_2 t12 fun t13 =>
  pLen t13 fun t14 =>
  pMin t14 (.int .i64 60) fun t15 =>
  pSlice 1 t11 none (some t15) none fun t16 =>
  pBuild [(.slice none 0 0), (.int .i64 0)] [(0, 1, t16)] fun t17 =>
  pBox T_milestoneref07_Draft t17 h_2 fun t18 h_3 =>
  callS P F_milestoneref07_Draft_Raw [t18] h_3 fun t20 h_4 =>
  pBox T_api_Raw (.agg #[(.int .i64 0), (.slice none 0 0), (.slice none 0 0), (.slice none 0 0)]) h_4 fun g7 h_5 =>
  pStore 4 g7 t20 h_5 fun u h_6 =>
  pLoadN 4 h_6 g7 fun t22 =>
  callS P F_net_New [t22] h_6 fun t23 h_7 =>
  pExt t23 0 fun t24 =>
  pExt t23 1 fun t25 =>
  pLoadN 4 h_7 g7 fun t26 =>
  pField 1 d1 fun t28 =>
  pIdxA 1 2 t28 (.int .i64 0) fun t29 =>
  pLoad h_7 t29 fun t30 =>
  pConv .i64 t30 fun t31 =>
  pField 0 g7 fun t32 =>
  pLoad h_7 t32 fun t33 =>
  pBin .rem t31 t33 fun t34 =>
  pField 1 d1 fun t35 =>
  pIdxA 1 2 t35 (.int .i64 1) fun t36 =>
  pLoad h_7 t36 fun t37 =>
  pConv .i64 t37 fun t38 =>
  pField 0 g7 fun t39 =>
  pLoad h_7 t39 fun t40 =>
  pBin .rem t38 t40 fun t41 =>
  pStore 4 t2 t26 h_7 fun u_1 h_8 =>
  (pLoad h_8 t29 fun t30_1 =>
  t30_1 = t30) ∧
  (pLoad h_8 t32 fun t33_1 =>
  t33_1 = t33) ∧
  (pLoad h_8 t36 fun t37_1 =>
  t37_1 = t37) ∧
  (pLoad h_8 t39 fun t40_1 =>
  t40_1 = t40) ∧
  (pLoadN 4 h_8 t2 fun res =>
  K (.tuple #[res, t24, t34, t41]) h_8)

set_option maxRecDepth 100000 in
theorem lk_milestonelaw11_Drawn_graph (d0 : Value) {h : Heap} {K : Value → Heap → Prop} (H : sh_milestonelaw11_Drawn_graph Tryz.prog d0 h K) : CallsH Tryz.prog F_milestonelaw11_Drawn_graph [d0].toArray h K :=
  callsH_of (ann := (annG (Tryz.f8.body.getD .skip) 0 []).1) (c := Tryz.f8.body.getD .skip) Tryz.func8 (by kernel_rfl) (by kernel_rfl) (by kernel_rfl) (of_decide_eq_true (by kernel_rfl))
    (Eq.mpr (by kernel_rfl) H)

/-! milestone/milestonelaw11.works -/

def sh_milestonelaw11_works_k2 (P : Program) (K : Value → Heap → Prop) (h_23 : Heap) : Prop :=
  K (.bool false) h_23

def sh_milestonelaw11_works_C1 (P : Program) (K : Value → Heap → Prop) (n1 err2 : Value) (h_22 : Heap) : Prop :=
  pEq true .iface err2 .nilIface fun t31 =>
  ifV t31
  (sh_milestonelaw11_works_k2 P K h_22)
  (pEq false .ptr n1 (.pointer none) fun t34 =>
  ifV t34
  (sh_milestonelaw11_works_k2 P K h_22)
  (callS P F_flood_From [n1, (.int .i64 0)] h_22 fun t37 h_24 =>
  callS P F_flood_To [n1, (.int .i64 1)] h_24 fun t39 h_25 =>
  pBox T_flood_Tree (.agg #[(.slice none 0 0), (.slice none 0 0), (.slice none 0 0)]) h_25 fun from3 h_26 =>
  pBox T_flood_Tree (.agg #[(.slice none 0 0), (.slice none 0 0), (.slice none 0 0)]) h_26 fun to4 h_27 =>
  pStore 3 from3 t37 h_27 fun u h_28 =>
  pStore 3 to4 t39 h_28 fun u_1 h_29 =>
  pLoadN 3 h_29 from3 fun t42 =>
  callS P F_path_Ahead [n1, t42, (.int .i64 1)] h_29 fun t43 h_30 =>
  pExt t43 0 fun t44 =>
  pExt t43 1 fun t45 =>
  pLoadN 3 h_30 from3 fun t48 =>
  callS P F_path_Ahead [n1, t48, (.int .i64 0)] h_30 fun t49 h_31 =>
  pExt t49 0 fun t50 =>
  pExt t49 1 fun t51 =>
  pLoadN 3 h_31 from3 fun t54 =>
  callS P F_path_Ahead [n1, t54, (.int .i64 3)] h_31 fun t55 h_32 =>
  pExt t55 0 fun t56 =>
  pExt t55 1 fun t57 =>
  pLoadN 3 h_32 to4 fun t60 =>
  callS P F_path_Behind [n1, t60, (.int .i64 0)] h_32 fun t61 h_33 =>
  pExt t61 0 fun t62 =>
  pExt t61 1 fun t63 =>
  pLoadN 3 h_33 from3 fun t65 =>
  pLoadN 3 h_33 to4 fun t66 =>
  callS P F_path_Meet [t65, t66] h_33 fun t67 h_34 =>
  pExt t67 0 fun t68 =>
  pExt t67 1 fun t69 =>
  pExt t67 2 fun t70 =>
  pLoadN 3 h_34 from3 fun t73 =>
  pLoadN 3 h_34 to4 fun t74 =>
  callS P F_path_Joined [n1, t73, t74, (.int .i64 2)] h_34 fun t75 h_35 =>
  pExt t75 0 fun t76 =>
  pExt t75 1 fun t77 =>
  ifV t45
  (pBuildSlice T_int (zerosL [(.int .i64 0)] 2) [(0, 1, (.int .i64 1)), (1, 1, (.int .i64 2))] 2 h_35 fun t81 h_36 =>
  callS P F_milestoneref07_Ints [t44, t81] h_36 fun t82 h_37 =>
  ifV t82
  (ifV t51
  (pLen t50 fun t89 =>
  pBin .eql t89 (.int .i64 0) fun t90 =>
  ifV t90
  (pUn .not t57 fun t94 =>
  ifV t94
  (ifV t63
  (pBuildSlice T_int (zerosL [(.int .i64 0)] 2) [(0, 1, (.int .i64 1)), (1, 1, (.int .i64 2))] 2 h_37 fun t101 h_38 =>
  callS P F_milestoneref07_Ints [t62, t101] h_38 fun t102 h_39 =>
  ifV t102
  (ifV t70
  (pBin .eql t68 (.int .i64 0) fun t109 =>
  ifV t109
  (pBin .eql t69 (.int .i64 3) fun t113 =>
  ifV t113
  (ifV t77
  (pBuildSlice T_int (zerosL [(.int .i64 0)] 2) [(0, 1, (.int .i64 1)), (1, 1, (.int .i64 2))] 2 h_39 fun t120 h_40 =>
  callS P F_milestoneref07_Ints [t76, t120] h_40 fun t121 h_41 =>
  K t121 h_41)
  (K (.bool false) h_39))
  (K (.bool false) h_39))
  (K (.bool false) h_39))
  (K (.bool false) h_39))
  (K (.bool false) h_39))
  (K (.bool false) h_37))
  (K (.bool false) h_37))
  (K (.bool false) h_37))
  (K (.bool false) h_37))
  (K (.bool false) h_37))
  (K (.bool false) h_35)))

def sh_milestonelaw11_works (P : Program) (h : Heap) (K : Value → Heap → Prop) : Prop :=
  cutP (σ := Vals [1, 2]) (fun J =>
  pBuild [(.int .i64 0), (.int .i64 0), (.int .i64 0)] [(0, 1, (.int .i64 0)), (1, 1, (.int .i64 1)), (2, 1, (.int .i64 4))] fun t21 =>
  pBuild [(.int .i64 0), (.int .i64 0), (.int .i64 0)] [(0, 1, (.int .i64 0)), (1, 1, (.int .i64 2)), (2, 1, (.int .i64 1))] fun t22 =>
  pBuild [(.int .i64 0), (.int .i64 0), (.int .i64 0)] [(0, 1, (.int .i64 2)), (1, 1, (.int .i64 1)), (2, 1, (.int .i64 2))] fun t23 =>
  pBuild [(.int .i64 0), (.int .i64 0), (.int .i64 0)] [(0, 1, (.int .i64 1)), (1, 1, (.int .i64 0))] fun t24 =>
  (pMakeSlice T_int64 8 [(.int .i64 0)] (.int .i64 4) (.int .i64 4) h fun t19 h_1 =>
  (pMakeSlice T_int64 8 [(.int .i64 0)] (.int .i64 4) (.int .i64 4) h_1 fun t20 h_2 =>
  pBuildSlice T_api_Arc (zerosL [(.int .i64 0), (.int .i64 0), (.int .i64 0)] 4) [(0, 3, t21), (3, 3, t22), (6, 3, t23), (9, 3, t24)] 4 h_2 fun t25 h_3 =>
  pBuild [(.int .i64 0), (.slice none 0 0), (.slice none 0 0), (.slice none 0 0)] [(0, 1, (.int .i64 4)), (1, 1, t19), (2, 1, t20), (3, 1, t25)] fun t26 =>
  callS P F_net_New [t26] h_3 fun t27 h_4 =>
  pExt t27 0 fun t28 =>
  pExt t27 1 fun t29 =>
  J (t28, (t29, ())) h_4) ∧
  (pBuildSlice T_api_Arc (zerosL [(.int .i64 0), (.int .i64 0), (.int .i64 0)] 4) [(0, 3, t21), (3, 3, t22), (6, 3, t23), (9, 3, t24)] 4 h_1 fun t25_1 h_5 =>
  pMakeSlice T_int64 8 [(.int .i64 0)] (.int .i64 4) (.int .i64 4) h_5 fun t20_1 h_6 =>
  pBuild [(.int .i64 0), (.slice none 0 0), (.slice none 0 0), (.slice none 0 0)] [(0, 1, (.int .i64 4)), (1, 1, t19), (2, 1, t20_1), (3, 1, t25_1)] fun t26_1 =>
  callS P F_net_New [t26_1] h_6 fun t27_1 h_7 =>
  pExt t27_1 0 fun t28_1 =>
  pExt t27_1 1 fun t29_1 =>
  J (t28_1, (t29_1, ())) h_7)) ∧
  (pMakeSlice T_int64 8 [(.int .i64 0)] (.int .i64 4) (.int .i64 4) h fun t20_2 h_8 =>
  (pMakeSlice T_int64 8 [(.int .i64 0)] (.int .i64 4) (.int .i64 4) h_8 fun t19_1 h_9 =>
  pBuildSlice T_api_Arc (zerosL [(.int .i64 0), (.int .i64 0), (.int .i64 0)] 4) [(0, 3, t21), (3, 3, t22), (6, 3, t23), (9, 3, t24)] 4 h_9 fun t25_2 h_10 =>
  pBuild [(.int .i64 0), (.slice none 0 0), (.slice none 0 0), (.slice none 0 0)] [(0, 1, (.int .i64 4)), (1, 1, t19_1), (2, 1, t20_2), (3, 1, t25_2)] fun t26_2 =>
  callS P F_net_New [t26_2] h_10 fun t27_2 h_11 =>
  pExt t27_2 0 fun t28_2 =>
  pExt t27_2 1 fun t29_2 =>
  J (t28_2, (t29_2, ())) h_11) ∧
  (pBuildSlice T_api_Arc (zerosL [(.int .i64 0), (.int .i64 0), (.int .i64 0)] 4) [(0, 3, t21), (3, 3, t22), (6, 3, t23), (9, 3, t24)] 4 h_8 fun t25_3 h_12 =>
  pMakeSlice T_int64 8 [(.int .i64 0)] (.int .i64 4) (.int .i64 4) h_12 fun t19_2 h_13 =>
  pBuild [(.int .i64 0), (.slice none 0 0), (.slice none 0 0), (.slice none 0 0)] [(0, 1, (.int .i64 4)), (1, 1, t19_2), (2, 1, t20_2), (3, 1, t25_3)] fun t26_3 =>
  callS P F_net_New [t26_3] h_13 fun t27_3 h_14 =>
  pExt t27_3 0 fun t28_3 =>
  pExt t27_3 1 fun t29_3 =>
  J (t28_3, (t29_3, ())) h_14)) ∧
  (pBuildSlice T_api_Arc (zerosL [(.int .i64 0), (.int .i64 0), (.int .i64 0)] 4) [(0, 3, t21), (3, 3, t22), (6, 3, t23), (9, 3, t24)] 4 h fun t25_4 h_15 =>
  (pMakeSlice T_int64 8 [(.int .i64 0)] (.int .i64 4) (.int .i64 4) h_15 fun t19_3 h_16 =>
  pMakeSlice T_int64 8 [(.int .i64 0)] (.int .i64 4) (.int .i64 4) h_16 fun t20_3 h_17 =>
  pBuild [(.int .i64 0), (.slice none 0 0), (.slice none 0 0), (.slice none 0 0)] [(0, 1, (.int .i64 4)), (1, 1, t19_3), (2, 1, t20_3), (3, 1, t25_4)] fun t26_4 =>
  callS P F_net_New [t26_4] h_17 fun t27_4 h_18 =>
  pExt t27_4 0 fun t28_4 =>
  pExt t27_4 1 fun t29_4 =>
  J (t28_4, (t29_4, ())) h_18) ∧
  (pMakeSlice T_int64 8 [(.int .i64 0)] (.int .i64 4) (.int .i64 4) h_15 fun t20_4 h_19 =>
  pMakeSlice T_int64 8 [(.int .i64 0)] (.int .i64 4) (.int .i64 4) h_19 fun t19_4 h_20 =>
  pBuild [(.int .i64 0), (.slice none 0 0), (.slice none 0 0), (.slice none 0 0)] [(0, 1, (.int .i64 4)), (1, 1, t19_4), (2, 1, t20_4), (3, 1, t25_4)] fun t26_5 =>
  callS P F_net_New [t26_5] h_20 fun t27_5 h_21 =>
  pExt t27_5 0 fun t28_5 =>
  pExt t27_5 1 fun t29_5 =>
  J (t28_5, (t29_5, ())) h_21)))
  (fun x hh => sh_milestonelaw11_works_C1 P K x.1 x.2.1 hh)

set_option maxRecDepth 100000 in
theorem lk_milestonelaw11_works {h : Heap} {K : Value → Heap → Prop} (H : sh_milestonelaw11_works Tryz.prog h K) : CallsH Tryz.prog F_milestonelaw11_works [].toArray h K :=
  callsH_of (ann := (annG (Tryz.f9.body.getD .skip) 0 [(1, [1, 2])]).1) (c := Tryz.f9.body.getD .skip) Tryz.func9 (by kernel_rfl) (by kernel_rfl) (by kernel_rfl) (of_decide_eq_true (by kernel_rfl))
    (Eq.mpr (by kernel_rfl) H)

/-! milestone/flood.From -/

def sh_flood_From (P : Program) (n0 s1 : Value) (h : Heap) (K : Value → Heap → Prop) : Prop :=
  pBox T_flood_Tree (.agg #[(.slice none 0 0), (.slice none 0 0), (.slice none 0 0)]) h fun t4 h_1 =>
  callS P F_flood_flood [n0, s1, (.func (.func F_net_Net_Out) #[n0] #[]), (.func (.func F_flood_From_1) #[] #[])] h_1 fun t9 h_2 =>
  pStore 3 t4 t9 h_2 fun u h_3 =>
  pLoadN 3 h_3 t4 fun res =>
  K res h_3

set_option maxRecDepth 100000 in
theorem lk_flood_From (n0 s1 : Value) {h : Heap} {K : Value → Heap → Prop} (H : sh_flood_From Tryz.prog n0 s1 h K) : CallsH Tryz.prog F_flood_From [n0, s1].toArray h K :=
  callsH_of (ann := (annG (Tryz.f10.body.getD .skip) 0 []).1) (c := Tryz.f10.body.getD .skip) Tryz.func10 (by kernel_rfl) (by kernel_rfl) (by kernel_rfl) (of_decide_eq_true (by kernel_rfl))
    (Eq.mpr (by kernel_rfl) H)

/-! milestone/flood.To -/

def sh_flood_To (P : Program) (n0 t1 : Value) (h : Heap) (K : Value → Heap → Prop) : Prop :=
  pBox T_flood_Tree (.agg #[(.slice none 0 0), (.slice none 0 0), (.slice none 0 0)]) h fun t4 h_1 =>
  callS P F_flood_flood [n0, t1, (.func (.func F_net_Net_In) #[n0] #[]), (.func (.func F_flood_To_1) #[] #[])] h_1 fun t9 h_2 =>
  pStore 3 t4 t9 h_2 fun u h_3 =>
  pLoadN 3 h_3 t4 fun res =>
  K res h_3

set_option maxRecDepth 100000 in
theorem lk_flood_To (n0 t1 : Value) {h : Heap} {K : Value → Heap → Prop} (H : sh_flood_To Tryz.prog n0 t1 h K) : CallsH Tryz.prog F_flood_To [n0, t1].toArray h K :=
  callsH_of (ann := (annG (Tryz.f11.body.getD .skip) 0 []).1) (c := Tryz.f11.body.getD .skip) Tryz.func11 (by kernel_rfl) (by kernel_rfl) (by kernel_rfl) (of_decide_eq_true (by kernel_rfl))
    (Eq.mpr (by kernel_rfl) H)

/-! milestone/milestonelaw11.turned -/

def sh_milestonelaw11_turned_k5 (P : Program) (out5_12 t4 : Value) (K : Value → Heap → Prop) (h_79 : Heap) : Prop :=
  pLoadN 3 h_79 out5_12 fun t82 =>
  pStore 3 t4 t82 h_79 fun u_19 h_80 =>
  pLoadN 3 h_80 t4 fun res =>
  K res h_80

def sh_milestonelaw11_turned_k4 (P : Program) (x3 out5_12 t4 : Value) (K : Value → Heap → Prop) (h_77 : Heap) : Prop :=
  pIdxA 1 4 x3 (.int .i64 2) fun t70 =>
  pLoad h_77 t70 fun t71 =>
  pBin .rem t71 (.int .i16 7) fun t72 =>
  pBin .eql t72 (.int .i16 0) fun t73 =>
  ifV t73
  (pField 0 out5_12 fun t74 =>
  pLoad h_77 t74 fun t75 =>
  pField 0 out5_12 fun t76 =>
  pLoad h_77 t76 fun t77 =>
  pLen t77 fun t78 =>
  pBin .quo t78 (.int .i64 2) fun t79 =>
  pSlice 1 t75 none (some t79) none fun t80 =>
  pField 0 out5_12 fun t81 =>
  pStore 1 t81 t80 h_77 fun u_18 h_78 =>
  sh_milestonelaw11_turned_k5 P out5_12 t4 K h_78)
  (sh_milestonelaw11_turned_k5 P out5_12 t4 K h_77)

def sh_milestonelaw11_turned_k3 (P : Program) (x3 out5_12 t4 : Value) (K : Value → Heap → Prop) (h_75 : Heap) : Prop :=
  pIdxA 1 4 x3 (.int .i64 2) fun t58 =>
  pLoad h_75 t58 fun t59 =>
  pBin .rem t59 (.int .i16 5) fun t60 =>
  pBin .eql t60 (.int .i16 0) fun t61 =>
  ifV t61
  (pField 1 out5_12 fun t62 =>
  pLoad h_75 t62 fun t63 =>
  pField 1 out5_12 fun t64 =>
  pLoad h_75 t64 fun t65 =>
  pLen t65 fun t66 =>
  pBin .quo t66 (.int .i64 2) fun t67 =>
  pSlice 1 t63 none (some t67) none fun t68 =>
  pField 1 out5_12 fun t69 =>
  pStore 1 t69 t68 h_75 fun u_17 h_76 =>
  sh_milestonelaw11_turned_k4 P x3 out5_12 t4 K h_76)
  (sh_milestonelaw11_turned_k4 P x3 out5_12 t4 K h_75)

def sh_milestonelaw11_turned_k2 (P : Program) (out5_12 x3 t4 : Value) (K : Value → Heap → Prop) (h_73 : Heap) : Prop :=
  pField 0 out5_12 fun t34 =>
  pLoad h_73 t34 fun t35 =>
  pLen t35 fun t36 =>
  pBin .gtr t36 (.int .i64 0) fun t37 =>
  ifV t37
  (pIdxA 1 4 x3 (.int .i64 2) fun t39 =>
  pLoad h_73 t39 fun t40 =>
  pBin .rem t40 (.int .i16 3) fun t41 =>
  pBin .eql t41 (.int .i16 0) fun t42 =>
  ifV t42
  (pField 0 out5_12 fun t44 =>
  pLoad h_73 t44 fun t45 =>
  pIdxA 1 4 x3 (.int .i64 0) fun t46 =>
  pLoad h_73 t46 fun t47 =>
  pConv .u16 t47 fun t48 =>
  pConv .i64 t48 fun t49 =>
  pField 0 out5_12 fun t50 =>
  pLoad h_73 t50 fun t51 =>
  pLen t51 fun t52 =>
  pBin .rem t49 t52 fun t53 =>
  pIdxA 1 4 x3 (.int .i64 3) fun t54 =>
  pLoad h_73 t54 fun t55 =>
  pConv .i64 t55 fun t56 =>
  pIdx 1 t45 t53 fun t57 =>
  pStore 1 t57 t56 h_73 fun u_16 h_74 =>
  sh_milestonelaw11_turned_k3 P x3 out5_12 t4 K h_74)
  (sh_milestonelaw11_turned_k3 P x3 out5_12 t4 K h_73))
  (sh_milestonelaw11_turned_k3 P x3 out5_12 t4 K h_73)

def sh_milestonelaw11_turned_C1 (P : Program) (x3 t4 : Value) (K : Value → Heap → Prop) (out5_12 : Value) (h_71 : Heap) : Prop :=
  pField 1 out5_12 fun t15 =>
  pLoad h_71 t15 fun t16 =>
  pLen t16 fun t17 =>
  pBin .gtr t17 (.int .i64 0) fun t18 =>
  ifV t18
  (pField 1 out5_12 fun t19 =>
  pLoad h_71 t19 fun t20 =>
  pIdxA 1 4 x3 (.int .i64 0) fun t21 =>
  pLoad h_71 t21 fun t22 =>
  pConv .u16 t22 fun t23 =>
  pConv .i64 t23 fun t24 =>
  pField 1 out5_12 fun t25 =>
  pLoad h_71 t25 fun t26 =>
  pLen t26 fun t27 =>
  pBin .rem t24 t27 fun t28 =>
  pIdxA 1 4 x3 (.int .i64 1) fun t29 =>
  pLoad h_71 t29 fun t30 =>
  pBin .rem t30 (.int .i16 40) fun t31 =>
  pConv .i64 t31 fun t32 =>
  pIdx 1 t20 t28 fun t33 =>
  pStore 1 t33 t32 h_71 fun u_15 h_72 =>
  sh_milestonelaw11_turned_k2 P out5_12 x3 t4 K h_72)
  (sh_milestonelaw11_turned_k2 P out5_12 x3 t4 K h_71)

def sh_milestonelaw11_turned (P : Program) (t0 x1 : Value) (h : Heap) (K : Value → Heap → Prop) : Prop :=
  pBox T_flood_Tree t0 h fun t2 h_1 =>
  pBox T_4_int16 x1 h_1 fun x3 h_2 =>
  pBox T_flood_Tree (.agg #[(.slice none 0 0), (.slice none 0 0), (.slice none 0 0)]) h_2 fun t4 h_3 =>
  cutP (σ := Vals [5]) (fun J =>
  pField 0 t2 fun t7 =>
  pLoad h_3 t7 fun t8 =>
  pField 1 t2 fun t11 =>
  pLoad h_3 t11 fun t12 =>
  (pBuildSlice T_int64 (zerosL [(.int .i64 0)] 0) [] 0 h_3 fun t6 h_4 =>
  (pAppend T_int64 1 8 [(.int .i64 0)] t6 t8 h_4 fun t9 h_5 =>
  (pLoad h_5 t11 fun t12_1 =>
  t12_1 = t12) ∧
  ((pBuildSlice T_int (zerosL [(.int .i64 0)] 0) [] 0 h_5 fun t10 h_6 =>
  (pAppend T_int 1 8 [(.int .i64 0)] t10 t12 h_6 fun t13 h_7 =>
  pBuild [(.slice none 0 0), (.slice none 0 0), (.slice none 0 0)] [(0, 1, t9), (1, 1, t13)] fun t14 =>
  pBox T_flood_Tree (.agg #[(.slice none 0 0), (.slice none 0 0), (.slice none 0 0)]) h_7 fun out5 h_8 =>
  pStore 3 out5 t14 h_8 fun u h_9 =>
  J (out5, ()) h_9) ∧
  (pBox T_flood_Tree (.agg #[(.slice none 0 0), (.slice none 0 0), (.slice none 0 0)]) h_6 fun out5_1 h_10 =>
  pAppend T_int 1 8 [(.int .i64 0)] t10 t12 h_10 fun t13_1 h_11 =>
  pBuild [(.slice none 0 0), (.slice none 0 0), (.slice none 0 0)] [(0, 1, t9), (1, 1, t13_1)] fun t14_1 =>
  pStore 3 out5_1 t14_1 h_11 fun u_1 h_12 =>
  J (out5_1, ()) h_12)) ∧
  (pBox T_flood_Tree (.agg #[(.slice none 0 0), (.slice none 0 0), (.slice none 0 0)]) h_5 fun out5_2 h_13 =>
  pBuildSlice T_int (zerosL [(.int .i64 0)] 0) [] 0 h_13 fun t10_1 h_14 =>
  pAppend T_int 1 8 [(.int .i64 0)] t10_1 t12 h_14 fun t13_2 h_15 =>
  pBuild [(.slice none 0 0), (.slice none 0 0), (.slice none 0 0)] [(0, 1, t9), (1, 1, t13_2)] fun t14_2 =>
  pStore 3 out5_2 t14_2 h_15 fun u_2 h_16 =>
  J (out5_2, ()) h_16))) ∧
  (pBuildSlice T_int (zerosL [(.int .i64 0)] 0) [] 0 h_4 fun t10_2 h_17 =>
  (pAppend T_int64 1 8 [(.int .i64 0)] t6 t8 h_17 fun t9_1 h_18 =>
  (pLoad h_18 t11 fun t12_2 =>
  t12_2 = t12) ∧
  ((pAppend T_int 1 8 [(.int .i64 0)] t10_2 t12 h_18 fun t13_3 h_19 =>
  pBuild [(.slice none 0 0), (.slice none 0 0), (.slice none 0 0)] [(0, 1, t9_1), (1, 1, t13_3)] fun t14_3 =>
  pBox T_flood_Tree (.agg #[(.slice none 0 0), (.slice none 0 0), (.slice none 0 0)]) h_19 fun out5_3 h_20 =>
  pStore 3 out5_3 t14_3 h_20 fun u_3 h_21 =>
  J (out5_3, ()) h_21) ∧
  (pBox T_flood_Tree (.agg #[(.slice none 0 0), (.slice none 0 0), (.slice none 0 0)]) h_18 fun out5_4 h_22 =>
  pAppend T_int 1 8 [(.int .i64 0)] t10_2 t12 h_22 fun t13_4 h_23 =>
  pBuild [(.slice none 0 0), (.slice none 0 0), (.slice none 0 0)] [(0, 1, t9_1), (1, 1, t13_4)] fun t14_4 =>
  pStore 3 out5_4 t14_4 h_23 fun u_4 h_24 =>
  J (out5_4, ()) h_24))) ∧
  (pBox T_flood_Tree (.agg #[(.slice none 0 0), (.slice none 0 0), (.slice none 0 0)]) h_17 fun out5_5 h_25 =>
  pAppend T_int64 1 8 [(.int .i64 0)] t6 t8 h_25 fun t9_2 h_26 =>
  (pLoad h_26 t11 fun t12_3 =>
  t12_3 = t12) ∧
  (pAppend T_int 1 8 [(.int .i64 0)] t10_2 t12 h_26 fun t13_5 h_27 =>
  pBuild [(.slice none 0 0), (.slice none 0 0), (.slice none 0 0)] [(0, 1, t9_2), (1, 1, t13_5)] fun t14_5 =>
  pStore 3 out5_5 t14_5 h_27 fun u_5 h_28 =>
  J (out5_5, ()) h_28))) ∧
  (pBox T_flood_Tree (.agg #[(.slice none 0 0), (.slice none 0 0), (.slice none 0 0)]) h_4 fun out5_6 h_29 =>
  (pAppend T_int64 1 8 [(.int .i64 0)] t6 t8 h_29 fun t9_3 h_30 =>
  (pLoad h_30 t11 fun t12_4 =>
  t12_4 = t12) ∧
  (pBuildSlice T_int (zerosL [(.int .i64 0)] 0) [] 0 h_30 fun t10_3 h_31 =>
  pAppend T_int 1 8 [(.int .i64 0)] t10_3 t12 h_31 fun t13_6 h_32 =>
  pBuild [(.slice none 0 0), (.slice none 0 0), (.slice none 0 0)] [(0, 1, t9_3), (1, 1, t13_6)] fun t14_6 =>
  pStore 3 out5_6 t14_6 h_32 fun u_6 h_33 =>
  J (out5_6, ()) h_33)) ∧
  (pBuildSlice T_int (zerosL [(.int .i64 0)] 0) [] 0 h_29 fun t10_4 h_34 =>
  pAppend T_int64 1 8 [(.int .i64 0)] t6 t8 h_34 fun t9_4 h_35 =>
  (pLoad h_35 t11 fun t12_5 =>
  t12_5 = t12) ∧
  (pAppend T_int 1 8 [(.int .i64 0)] t10_4 t12 h_35 fun t13_7 h_36 =>
  pBuild [(.slice none 0 0), (.slice none 0 0), (.slice none 0 0)] [(0, 1, t9_4), (1, 1, t13_7)] fun t14_7 =>
  pStore 3 out5_6 t14_7 h_36 fun u_7 h_37 =>
  J (out5_6, ()) h_37)))) ∧
  (pBuildSlice T_int (zerosL [(.int .i64 0)] 0) [] 0 h_3 fun t10_5 h_38 =>
  (pBuildSlice T_int64 (zerosL [(.int .i64 0)] 0) [] 0 h_38 fun t6_1 h_39 =>
  (pAppend T_int64 1 8 [(.int .i64 0)] t6_1 t8 h_39 fun t9_5 h_40 =>
  (pLoad h_40 t11 fun t12_6 =>
  t12_6 = t12) ∧
  ((pAppend T_int 1 8 [(.int .i64 0)] t10_5 t12 h_40 fun t13_8 h_41 =>
  pBuild [(.slice none 0 0), (.slice none 0 0), (.slice none 0 0)] [(0, 1, t9_5), (1, 1, t13_8)] fun t14_8 =>
  pBox T_flood_Tree (.agg #[(.slice none 0 0), (.slice none 0 0), (.slice none 0 0)]) h_41 fun out5_7 h_42 =>
  pStore 3 out5_7 t14_8 h_42 fun u_8 h_43 =>
  J (out5_7, ()) h_43) ∧
  (pBox T_flood_Tree (.agg #[(.slice none 0 0), (.slice none 0 0), (.slice none 0 0)]) h_40 fun out5_8 h_44 =>
  pAppend T_int 1 8 [(.int .i64 0)] t10_5 t12 h_44 fun t13_9 h_45 =>
  pBuild [(.slice none 0 0), (.slice none 0 0), (.slice none 0 0)] [(0, 1, t9_5), (1, 1, t13_9)] fun t14_9 =>
  pStore 3 out5_8 t14_9 h_45 fun u_9 h_46 =>
  J (out5_8, ()) h_46))) ∧
  (pBox T_flood_Tree (.agg #[(.slice none 0 0), (.slice none 0 0), (.slice none 0 0)]) h_39 fun out5_9 h_47 =>
  pAppend T_int64 1 8 [(.int .i64 0)] t6_1 t8 h_47 fun t9_6 h_48 =>
  (pLoad h_48 t11 fun t12_7 =>
  t12_7 = t12) ∧
  (pAppend T_int 1 8 [(.int .i64 0)] t10_5 t12 h_48 fun t13_10 h_49 =>
  pBuild [(.slice none 0 0), (.slice none 0 0), (.slice none 0 0)] [(0, 1, t9_6), (1, 1, t13_10)] fun t14_10 =>
  pStore 3 out5_9 t14_10 h_49 fun u_10 h_50 =>
  J (out5_9, ()) h_50))) ∧
  (pBox T_flood_Tree (.agg #[(.slice none 0 0), (.slice none 0 0), (.slice none 0 0)]) h_38 fun out5_10 h_51 =>
  pBuildSlice T_int64 (zerosL [(.int .i64 0)] 0) [] 0 h_51 fun t6_2 h_52 =>
  pAppend T_int64 1 8 [(.int .i64 0)] t6_2 t8 h_52 fun t9_7 h_53 =>
  (pLoad h_53 t11 fun t12_8 =>
  t12_8 = t12) ∧
  (pAppend T_int 1 8 [(.int .i64 0)] t10_5 t12 h_53 fun t13_11 h_54 =>
  pBuild [(.slice none 0 0), (.slice none 0 0), (.slice none 0 0)] [(0, 1, t9_7), (1, 1, t13_11)] fun t14_11 =>
  pStore 3 out5_10 t14_11 h_54 fun u_11 h_55 =>
  J (out5_10, ()) h_55))) ∧
  (pBox T_flood_Tree (.agg #[(.slice none 0 0), (.slice none 0 0), (.slice none 0 0)]) h_3 fun out5_11 h_56 =>
  (pBuildSlice T_int64 (zerosL [(.int .i64 0)] 0) [] 0 h_56 fun t6_3 h_57 =>
  (pAppend T_int64 1 8 [(.int .i64 0)] t6_3 t8 h_57 fun t9_8 h_58 =>
  (pLoad h_58 t11 fun t12_9 =>
  t12_9 = t12) ∧
  (pBuildSlice T_int (zerosL [(.int .i64 0)] 0) [] 0 h_58 fun t10_6 h_59 =>
  pAppend T_int 1 8 [(.int .i64 0)] t10_6 t12 h_59 fun t13_12 h_60 =>
  pBuild [(.slice none 0 0), (.slice none 0 0), (.slice none 0 0)] [(0, 1, t9_8), (1, 1, t13_12)] fun t14_12 =>
  pStore 3 out5_11 t14_12 h_60 fun u_12 h_61 =>
  J (out5_11, ()) h_61)) ∧
  (pBuildSlice T_int (zerosL [(.int .i64 0)] 0) [] 0 h_57 fun t10_7 h_62 =>
  pAppend T_int64 1 8 [(.int .i64 0)] t6_3 t8 h_62 fun t9_9 h_63 =>
  (pLoad h_63 t11 fun t12_10 =>
  t12_10 = t12) ∧
  (pAppend T_int 1 8 [(.int .i64 0)] t10_7 t12 h_63 fun t13_13 h_64 =>
  pBuild [(.slice none 0 0), (.slice none 0 0), (.slice none 0 0)] [(0, 1, t9_9), (1, 1, t13_13)] fun t14_13 =>
  pStore 3 out5_11 t14_13 h_64 fun u_13 h_65 =>
  J (out5_11, ()) h_65))) ∧
  (pBuildSlice T_int (zerosL [(.int .i64 0)] 0) [] 0 h_56 fun t10_8 h_66 =>
  pBuildSlice T_int64 (zerosL [(.int .i64 0)] 0) [] 0 h_66 fun t6_4 h_67 =>
  pAppend T_int64 1 8 [(.int .i64 0)] t6_4 t8 h_67 fun t9_10 h_68 =>
  (pLoad h_68 t11 fun t12_11 =>
  t12_11 = t12) ∧
  (pAppend T_int 1 8 [(.int .i64 0)] t10_8 t12 h_68 fun t13_14 h_69 =>
  pBuild [(.slice none 0 0), (.slice none 0 0), (.slice none 0 0)] [(0, 1, t9_10), (1, 1, t13_14)] fun t14_14 =>
  pStore 3 out5_11 t14_14 h_69 fun u_14 h_70 =>
  J (out5_11, ()) h_70))))
  (fun x hh => sh_milestonelaw11_turned_C1 P x3 t4 K x.1 hh)

set_option maxRecDepth 100000 in
theorem lk_milestonelaw11_turned (t0 x1 : Value) {h : Heap} {K : Value → Heap → Prop} (H : sh_milestonelaw11_turned Tryz.prog t0 x1 h K) : CallsH Tryz.prog F_milestonelaw11_turned [t0, x1].toArray h K :=
  callsH_of (ann := (annG (Tryz.f12.body.getD .skip) 0 [(1, [5])]).1) (c := Tryz.f12.body.getD .skip) Tryz.func12 (by kernel_rfl) (by kernel_rfl) (by kernel_rfl) (of_decide_eq_true (by kernel_rfl))
    (Eq.mpr (by kernel_rfl) H)

/-! milestone/path.Meet -/

def sh_path_Meet_k2 (P : Program) (t16 : Value) (Z : Value → Value → Value → Heap → Prop) (v4_1 dist5_1 : Value) (h_5 : Heap) : Prop :=
  pBin .add t16 (.int .i64 1) fun t49 =>
  Z v4_1 dist5_1 t49 h_5

def sh_path_Meet_k3 (P : Program) (t16 : Value) (Z : Value → Value → Value → Heap → Prop) (t39 : Value) (h_7 : Heap) : Prop :=
  sh_path_Meet_k2 P t16 Z t16 t39 h_7

def sh_path_Meet_L1 (P : Program) (t15 ahead2 behind3 : Value) (K : Value → Heap → Prop) (v4 dist5 t16 : Value) (h_3 : Heap) (Z : Value → Value → Value → Heap → Prop) : Prop :=
  pBin .lss t16 t15 fun t17 =>
  ifV t17
  (pLoadN 3 h_3 ahead2 fun t19 =>
  callS P F_path_reached [t19, t16] h_3 fun t21 h_4 =>
  pUn .not t21 fun t22 =>
  ifV t22
  (sh_path_Meet_k2 P t16 Z v4 dist5 h_4)
  (pLoadN 3 h_4 behind3 fun t24 =>
  callS P F_path_reached [t24, t16] h_4 fun t26 h_6 =>
  pUn .not t26 fun t27 =>
  ifV t27
  (sh_path_Meet_k2 P t16 Z v4 dist5 h_6)
  (pField 0 ahead2 fun t29 =>
  pLoad h_6 t29 fun t30 =>
  pIdx 1 t30 t16 fun t32 =>
  pLoad h_6 t32 fun t33 =>
  pField 0 behind3 fun t34 =>
  pLoad h_6 t34 fun t35 =>
  pIdx 1 t35 t16 fun t37 =>
  pLoad h_6 t37 fun t38 =>
  pBin .add t33 t38 fun t39 =>
  pBin .lss v4 (.int .i64 0) fun t41 =>
  ifV t41
  (sh_path_Meet_k3 P t16 Z t39 h_6)
  (pBin .lss t39 dist5 fun t45 =>
  ifV t45
  (sh_path_Meet_k3 P t16 Z t39 h_6)
  (sh_path_Meet_k2 P t16 Z v4 dist5 h_6)))))
  (pBin .geq v4 (.int .i64 0) fun t53 =>
  K (.tuple #[v4, dist5, t53]) h_3)

def sh_path_Meet (P : Program) (ahead0 behind1 : Value) (h : Heap) (K : Value → Heap → Prop) : Prop :=
  pBox T_flood_Tree ahead0 h fun ahead2 h_1 =>
  pBox T_flood_Tree behind1 h_1 fun behind3 h_2 =>
  pField 0 ahead2 fun t9 =>
  pLoad h_2 t9 fun t10 =>
  pLen t10 fun t11 =>
  pField 0 behind3 fun t12 =>
  pLoad h_2 t12 fun t13 =>
  pLen t13 fun t14 =>
  pMin t11 t14 fun t15 =>
  LoopH (σ := Vals [4, 5, 16]) (fun x hh ZZ => sh_path_Meet_L1 P t15 ahead2 behind3 K x.1 x.2.1 x.2.2.1 hh (fun a0 a1 a2 hz => ZZ (a0, (a1, (a2, ()))) hz)) ((.int .i64 (-1)), ((.int .i64 72057594037927936), ((.int .i64 0), ()))) h_2

set_option maxRecDepth 100000 in
theorem lk_path_Meet (ahead0 behind1 : Value) {h : Heap} {K : Value → Heap → Prop} (H : sh_path_Meet Tryz.prog ahead0 behind1 h K) : CallsH Tryz.prog F_path_Meet [ahead0, behind1].toArray h K :=
  callsH_of (ann := (annG (Tryz.f13.body.getD .skip) 0 [(4, [4, 5, 16])]).1) (c := Tryz.f13.body.getD .skip) Tryz.func13 (by kernel_rfl) (by kernel_rfl) (by kernel_rfl) (of_decide_eq_true (by kernel_rfl))
    (Eq.mpr (by kernel_rfl) H)

/-! milestone/milestoneref11.Meet -/

def sh_milestoneref11_Meet_k2 (P : Program) (v9 : Value) (Z : Value → Value → Value → Heap → Prop) (best7_1 at8_1 : Value) (h_2 : Heap) : Prop :=
  pBin .add v9 (.int .i64 1) fun t21 =>
  Z best7_1 at8_1 t21 h_2

def sh_milestoneref11_Meet_C3 (P : Program) (a0 v9 b1 : Value) (Z : Value → Value → Value → Heap → Prop) (best7 at8 t62 : Value) (h_3 : Heap) : Prop :=
  ifV t62
  (pIdx 1 a0 v9 fun t65 =>
  pLoad h_3 t65 fun t66 =>
  pIdx 1 b1 v9 fun t69 =>
  pLoad h_3 t69 fun t70 =>
  pBin .add t66 t70 fun t71 =>
  sh_milestoneref11_Meet_k2 P v9 Z t71 v9 h_3)
  (sh_milestoneref11_Meet_k2 P v9 Z best7 at8 h_3)

def sh_milestoneref11_Meet_k4 (P : Program) (at8 : Value) (K : Value → Heap → Prop) (best7 : Value) (h_4 : Heap) : Prop :=
  pBin .geq at8 (.int .i64 0) fun t76 =>
  K (.tuple #[at8, best7, t76]) h_4

def sh_milestoneref11_Meet_L1 (P : Program) (a0 b1 : Value) (K : Value → Heap → Prop) (best7 at8 v9 : Value) (h_1 : Heap) (Z : Value → Value → Value → Heap → Prop) : Prop :=
  pLen a0 fun t12 =>
  pBin .lss v9 t12 fun t13 =>
  ifV t13
  (pLen b1 fun t17 =>
  pBin .lss v9 t17 fun t18 =>
  ifV t18
  (pIdx 1 a0 v9 fun t24 =>
  pLoad h_1 t24 fun t25 =>
  pBin .lss t25 (.int .i64 0) fun t26 =>
  ifV t26
  (sh_milestoneref11_Meet_k2 P v9 Z best7 at8 h_1)
  (pIdx 1 b1 v9 fun t30 =>
  pLoad h_1 t30 fun t31 =>
  pBin .lss t31 (.int .i64 0) fun t32 =>
  ifV t32
  (sh_milestoneref11_Meet_k2 P v9 Z best7 at8 h_1)
  (pIdx 1 a0 v9 fun t37 =>
  pLoad h_1 t37 fun t38 =>
  pBin .geq t38 (.int .i64 72057594037927936) fun t39 =>
  ifV t39
  (sh_milestoneref11_Meet_k2 P v9 Z best7 at8 h_1)
  (pIdx 1 b1 v9 fun t44 =>
  pLoad h_1 t44 fun t45 =>
  pBin .geq t45 (.int .i64 72057594037927936) fun t46 =>
  ifV t46
  (sh_milestoneref11_Meet_k2 P v9 Z best7 at8 h_1)
  (cutP (σ := Vals [62]) (fun J =>
  pBin .lss at8 (.int .i64 0) fun t49 =>
  ifV t49
  (J ((.bool true), ()) h_1)
  (pIdx 1 a0 v9 fun t53 =>
  pLoad h_1 t53 fun t54 =>
  pIdx 1 b1 v9 fun t57 =>
  pLoad h_1 t57 fun t58 =>
  pBin .add t54 t58 fun t59 =>
  pBin .lss t59 best7 fun t61 =>
  J (t61, ()) h_1))
  (fun x hh => sh_milestoneref11_Meet_C3 P a0 v9 b1 Z best7 at8 x.1 hh))))))
  (sh_milestoneref11_Meet_k4 P at8 K best7 h_1))
  (sh_milestoneref11_Meet_k4 P at8 K best7 h_1)

def sh_milestoneref11_Meet (P : Program) (a0 b1 : Value) (h : Heap) (K : Value → Heap → Prop) : Prop :=
  LoopH (σ := Vals [7, 8, 9]) (fun x hh ZZ => sh_milestoneref11_Meet_L1 P a0 b1 K x.1 x.2.1 x.2.2.1 hh (fun a0 a1 a2 hz => ZZ (a0, (a1, (a2, ()))) hz)) ((.int .i64 72057594037927936), ((.int .i64 (-1)), ((.int .i64 0), ()))) h

set_option maxRecDepth 100000 in
theorem lk_milestoneref11_Meet (a0 b1 : Value) {h : Heap} {K : Value → Heap → Prop} (H : sh_milestoneref11_Meet Tryz.prog a0 b1 h K) : CallsH Tryz.prog F_milestoneref11_Meet [a0, b1].toArray h K :=
  callsH_of (ann := (annG (Tryz.f14.body.getD .skip) 0 [(4, [7, 8, 9]), (10, [62])]).1) (c := Tryz.f14.body.getD .skip) Tryz.func14 (by kernel_rfl) (by kernel_rfl) (by kernel_rfl) (of_decide_eq_true (by kernel_rfl))
    (Eq.mpr (by kernel_rfl) H)

/-! milestone/path.Ahead -/

def sh_path_Ahead (P : Program) (n0 t1 v2 : Value) (h : Heap) (K : Value → Heap → Prop) : Prop :=
  pBox T_flood_Tree t1 h fun t4 h_1 =>
  pLoadN 3 h_1 t4 fun t12 =>
  callS P F_path_all [n0, t12, v2, (.func (.func F_path_Ahead_1) #[] #[])] h_1 fun t14 h_2 =>
  pExt t14 0 fun t15 =>
  pExt t14 1 fun t16 =>
  callS P F_slices_Reverse_sl_int_int [t15] h_2 fun t18 h_3 =>
  K (.tuple #[t15, t16]) h_3

set_option maxRecDepth 100000 in
theorem lk_path_Ahead (n0 t1 v2 : Value) {h : Heap} {K : Value → Heap → Prop} (H : sh_path_Ahead Tryz.prog n0 t1 v2 h K) : CallsH Tryz.prog F_path_Ahead [n0, t1, v2].toArray h K :=
  callsH_of (ann := (annG (Tryz.f15.body.getD .skip) 0 []).1) (c := Tryz.f15.body.getD .skip) Tryz.func15 (by kernel_rfl) (by kernel_rfl) (by kernel_rfl) (of_decide_eq_true (by kernel_rfl))
    (Eq.mpr (by kernel_rfl) H)

/-! milestone/path.Behind -/

def sh_path_Behind (P : Program) (n0 t1 v2 : Value) (h : Heap) (K : Value → Heap → Prop) : Prop :=
  pBox T_flood_Tree t1 h fun t4 h_1 =>
  pLoadN 3 h_1 t4 fun t9 =>
  callS P F_path_all [n0, t9, v2, (.func (.func F_path_Behind_1) #[] #[])] h_1 fun t11 h_2 =>
  pExt t11 0 fun t12 =>
  pExt t11 1 fun t13 =>
  K (.tuple #[t12, t13]) h_2

set_option maxRecDepth 100000 in
theorem lk_path_Behind (n0 t1 v2 : Value) {h : Heap} {K : Value → Heap → Prop} (H : sh_path_Behind Tryz.prog n0 t1 v2 h K) : CallsH Tryz.prog F_path_Behind [n0, t1, v2].toArray h K :=
  callsH_of (ann := (annG (Tryz.f16.body.getD .skip) 0 []).1) (c := Tryz.f16.body.getD .skip) Tryz.func16 (by kernel_rfl) (by kernel_rfl) (by kernel_rfl) (of_decide_eq_true (by kernel_rfl))
    (Eq.mpr (by kernel_rfl) H)

end Go.Proofs.YtjamcgoebnafkaaGreatDoor

namespace Go.Proofs.YtjamcgoebnafkaaGreatDoor
open Go Go.Mh
set_option maxHeartbeats 0
set_option linter.unusedVariables false

/-! milestone/milestoneref11.Ahead -/

def sh_milestoneref11_Ahead_L1 (P : Program) (t20 : Value) (K : Value → Heap → Prop) (t21 out12 i13 : Value) (h_3 : Heap) (Z : Value → Value → Heap → Prop) : Prop :=
  pBin .geq i13 (.int .i64 0) fun t26 =>
  ifV t26
  (pIdx 1 t20 i13 fun t32 =>
  pLoad h_3 t32 fun t33 =>
  pBuildSlice T_int (zerosL [(.int .i64 0)] 1) [(0, 1, t33)] 1 h_3 fun t34 h_4 =>
  pAppend T_int 1 8 [(.int .i64 0)] out12 t34 h_4 fun t35 h_5 =>
  pBin .sub i13 (.int .i64 1) fun t28 =>
  Z t35 t28 h_5)
  (K (.tuple #[out12, t21]) h_3)

def sh_milestoneref11_Ahead (P : Program) (g0 dist1 arc2 v3 : Value) (h : Heap) (K : Value → Heap → Prop) : Prop :=
  pBox T_api_Raw g0 h fun g4 h_1 =>
  pLoadN 4 h_1 g4 fun t15 =>
  callS P F_milestoneref11_Follow [t15, dist1, arc2, v3, (.bool false)] h_1 fun t19 h_2 =>
  pExt t19 0 fun t20 =>
  pExt t19 1 fun t21 =>
  pLen t20 fun t23 =>
  pBin .sub t23 (.int .i64 1) fun t24 =>
  LoopH (σ := Vals [12, 13]) (fun x hh ZZ => sh_milestoneref11_Ahead_L1 P t20 K t21 x.1 x.2.1 hh (fun a0 a1 hz => ZZ (a0, (a1, ())) hz)) ((.slice none 0 0), (t24, ())) h_2

set_option maxRecDepth 100000 in
theorem lk_milestoneref11_Ahead (g0 dist1 arc2 v3 : Value) {h : Heap} {K : Value → Heap → Prop} (H : sh_milestoneref11_Ahead Tryz.prog g0 dist1 arc2 v3 h K) : CallsH Tryz.prog F_milestoneref11_Ahead [g0, dist1, arc2, v3].toArray h K :=
  callsH_of (ann := (annG (Tryz.f17.body.getD .skip) 0 [(5, [12, 13])]).1) (c := Tryz.f17.body.getD .skip) Tryz.func17 (by kernel_rfl) (by kernel_rfl) (by kernel_rfl) (of_decide_eq_true (by kernel_rfl))
    (Eq.mpr (by kernel_rfl) H)

/-! milestone/milestoneref11.Follow -/

def sh_milestoneref11_Follow_k1 (P : Program) (K : Value → Heap → Prop) (h_2 : Heap) : Prop :=
  K (.tuple #[(.slice none 0 0), (.bool false)]) h_2

def sh_milestoneref11_Follow_k3 (P : Program) (K : Value → Heap → Prop) (h_4 : Heap) : Prop :=
  K (.tuple #[(.slice none 0 0), (.bool false)]) h_4

def sh_milestoneref11_Follow_k4 (P : Program) (v3_1 : Value) (K : Value → Heap → Prop) (t58 out12 : Value) (Z : Value → Value → Heap → Prop) (in14 next15 : Value) (h_5 : Heap) : Prop :=
  pBin .neq in14 v3_1 fun t99 =>
  ifV t99
  (K (.tuple #[(.slice none 0 0), (.bool false)]) h_5)
  (pBuildSlice T_int (zerosL [(.int .i64 0)] 1) [(0, 1, t58)] 1 h_5 fun t102 h_6 =>
  pAppend T_int 1 8 [(.int .i64 0)] out12 t102 h_6 fun t103 h_7 =>
  Z next15 t103 h_7)

def sh_milestoneref11_Follow_k5 (P : Program) (K : Value → Heap → Prop) (out12 : Value) (h_8 : Heap) : Prop :=
  K (.tuple #[out12, (.bool true)]) h_8

def sh_milestoneref11_Follow_L2 (P : Program) (arc2 g5 : Value) (K : Value → Heap → Prop) (turned4 v3_1 out12 : Value) (h_3 : Heap) (Z : Value → Value → Heap → Prop) : Prop :=
  pLen arc2 fun t46 =>
  pBin .lss v3_1 t46 fun t47 =>
  ifV t47
  (pIdx 1 arc2 v3_1 fun t51 =>
  pLoad h_3 t51 fun t52 =>
  pBin .geq t52 (.int .i64 0) fun t53 =>
  ifV t53
  (pIdx 1 arc2 v3_1 fun t57 =>
  pLoad h_3 t57 fun t58 =>
  pField 3 g5 fun t60 =>
  pLoad h_3 t60 fun t61 =>
  pLen t61 fun t62 =>
  pBin .geq t58 t62 fun t63 =>
  ifV t63
  (sh_milestoneref11_Follow_k3 P K h_3)
  (pLen out12 fun t66 =>
  pBin .add t66 (.int .i64 1) fun t67 =>
  pField 0 g5 fun t68 =>
  pLoad h_3 t68 fun t69 =>
  pBin .geq t67 t69 fun t70 =>
  ifV t70
  (sh_milestoneref11_Follow_k3 P K h_3)
  (pField 3 g5 fun t72 =>
  pLoad h_3 t72 fun t73 =>
  pIdx 3 t73 t58 fun t75 =>
  pField 1 t75 fun t76 =>
  pLoad h_3 t76 fun t77 =>
  pField 3 g5 fun t78 =>
  pLoad h_3 t78 fun t79 =>
  pIdx 3 t79 t58 fun t81 =>
  pField 0 t81 fun t82 =>
  pLoad h_3 t82 fun t83 =>
  ifV turned4
  (pField 3 g5 fun t85 =>
  pLoad h_3 t85 fun t86 =>
  pIdx 3 t86 t58 fun t88 =>
  pField 0 t88 fun t89 =>
  pLoad h_3 t89 fun t90 =>
  pField 3 g5 fun t91 =>
  pLoad h_3 t91 fun t92 =>
  pIdx 3 t92 t58 fun t94 =>
  pField 1 t94 fun t95 =>
  pLoad h_3 t95 fun t96 =>
  sh_milestoneref11_Follow_k4 P v3_1 K t58 out12 Z t90 t96 h_3)
  (sh_milestoneref11_Follow_k4 P v3_1 K t58 out12 Z t77 t83 h_3))))
  (sh_milestoneref11_Follow_k5 P K out12 h_3))
  (sh_milestoneref11_Follow_k5 P K out12 h_3)

def sh_milestoneref11_Follow (P : Program) (g0 dist1 arc2 v3 turned4 : Value) (h : Heap) (K : Value → Heap → Prop) : Prop :=
  pBox T_api_Raw g0 h fun g5 h_1 =>
  pBin .lss v3 (.int .i64 0) fun t17 =>
  ifV t17
  (sh_milestoneref11_Follow_k1 P K h_1)
  (pLen dist1 fun t21 =>
  pBin .geq v3 t21 fun t22 =>
  ifV t22
  (sh_milestoneref11_Follow_k1 P K h_1)
  (pField 0 g5 fun t26 =>
  pLoad h_1 t26 fun t27 =>
  pBin .geq v3 t27 fun t28 =>
  ifV t28
  (sh_milestoneref11_Follow_k1 P K h_1)
  (pIdx 1 dist1 v3 fun t33 =>
  pLoad h_1 t33 fun t34 =>
  pBin .lss t34 (.int .i64 0) fun t35 =>
  ifV t35
  (sh_milestoneref11_Follow_k1 P K h_1)
  (pIdx 1 dist1 v3 fun t40 =>
  pLoad h_1 t40 fun t41 =>
  pBin .geq t41 (.int .i64 72057594037927936) fun t42 =>
  ifV t42
  (sh_milestoneref11_Follow_k1 P K h_1)
  (LoopH (σ := Vals [3, 12]) (fun x hh ZZ => sh_milestoneref11_Follow_L2 P arc2 g5 K turned4 x.1 x.2.1 hh (fun a0 a1 hz => ZZ (a0, (a1, ())) hz)) (v3, ((.slice none 0 0), ())) h_1)))))

set_option maxRecDepth 100000 in
theorem lk_milestoneref11_Follow (g0 dist1 arc2 v3 turned4 : Value) {h : Heap} {K : Value → Heap → Prop} (H : sh_milestoneref11_Follow Tryz.prog g0 dist1 arc2 v3 turned4 h K) : CallsH Tryz.prog F_milestoneref11_Follow [g0, dist1, arc2, v3, turned4].toArray h K :=
  callsH_of (ann := (annG (Tryz.f18.body.getD .skip) 0 [(6, [3, 12])]).1) (c := Tryz.f18.body.getD .skip) Tryz.func18 (by kernel_rfl) (by kernel_rfl) (by kernel_rfl) (of_decide_eq_true (by kernel_rfl))
    (Eq.mpr (by kernel_rfl) H)

/-! milestone/milestoneref07.Ints -/

def sh_milestoneref07_Ints_L1 (P : Program) (a0 b1 : Value) (K : Value → Heap → Prop) (i5 : Value) (h_1 : Heap) (Z : Value → Heap → Prop) : Prop :=
  pLen a0 fun t13 =>
  pBin .lss i5 t13 fun t14 =>
  ifV t14
  (pIdx 1 a0 i5 fun t19 =>
  pLoad h_1 t19 fun t20 =>
  pIdx 1 b1 i5 fun t23 =>
  pLoad h_1 t23 fun t24 =>
  pBin .neq t20 t24 fun t25 =>
  ifV t25
  (K (.bool false) h_1)
  (pBin .add i5 (.int .i64 1) fun t16 =>
  Z t16 h_1))
  (K (.bool true) h_1)

def sh_milestoneref07_Ints (P : Program) (a0 b1 : Value) (h : Heap) (K : Value → Heap → Prop) : Prop :=
  pLen a0 fun t7 =>
  pLen b1 fun t9 =>
  pBin .neq t7 t9 fun t10 =>
  ifV t10
  (K (.bool false) h)
  (LoopH (σ := Vals [5]) (fun x hh ZZ => sh_milestoneref07_Ints_L1 P a0 b1 K x.1 hh (fun a0 hz => ZZ (a0, ()) hz)) ((.int .i64 0), ()) h)

set_option maxRecDepth 100000 in
theorem lk_milestoneref07_Ints (a0 b1 : Value) {h : Heap} {K : Value → Heap → Prop} (H : sh_milestoneref07_Ints Tryz.prog a0 b1 h K) : CallsH Tryz.prog F_milestoneref07_Ints [a0, b1].toArray h K :=
  callsH_of (ann := (annG (Tryz.f19.body.getD .skip) 0 [(6, [5])]).1) (c := Tryz.f19.body.getD .skip) Tryz.func19 (by kernel_rfl) (by kernel_rfl) (by kernel_rfl) (of_decide_eq_true (by kernel_rfl))
    (Eq.mpr (by kernel_rfl) H)

/-! milestone/path.Joined -/

def sh_path_Joined_k1 (P : Program) (K : Value → Heap → Prop) (h_5 : Heap) : Prop :=
  K (.tuple #[(.slice none 0 0), (.bool false)]) h_5

def sh_path_Joined (P : Program) (n0 ahead1 behind2 v3 : Value) (h : Heap) (K : Value → Heap → Prop) : Prop :=
  pBox T_flood_Tree ahead1 h fun ahead5 h_1 =>
  pBox T_flood_Tree behind2 h_1 fun behind6 h_2 =>
  pLoadN 3 h_2 ahead5 fun t16 =>
  callS P F_path_Ahead [n0, t16, v3] h_2 fun t18 h_3 =>
  pExt t18 0 fun t19 =>
  pExt t18 1 fun t20 =>
  pLoadN 3 h_3 behind6 fun t23 =>
  callS P F_path_Behind [n0, t23, v3] h_3 fun t25 h_4 =>
  pExt t25 0 fun t26 =>
  pExt t25 1 fun t27 =>
  pUn .not t20 fun t29 =>
  ifV t29
  (sh_path_Joined_k1 P K h_4)
  (pUn .not t27 fun t32 =>
  ifV t32
  (sh_path_Joined_k1 P K h_4)
  (pBuildSlice T_sl_int (zerosL [(.slice none 0 0)] 2) [(0, 1, t19), (1, 1, t26)] 2 h_4 fun t36 h_6 =>
  callS P F_slices_Concat_sl_int_int [t36] h_6 fun t37 h_7 =>
  K (.tuple #[t37, (.bool true)]) h_7))

set_option maxRecDepth 100000 in
theorem lk_path_Joined (n0 ahead1 behind2 v3 : Value) {h : Heap} {K : Value → Heap → Prop} (H : sh_path_Joined Tryz.prog n0 ahead1 behind2 v3 h K) : CallsH Tryz.prog F_path_Joined [n0, ahead1, behind2, v3].toArray h K :=
  callsH_of (ann := (annG (Tryz.f20.body.getD .skip) 0 []).1) (c := Tryz.f20.body.getD .skip) Tryz.func20 (by kernel_rfl) (by kernel_rfl) (by kernel_rfl) (of_decide_eq_true (by kernel_rfl))
    (Eq.mpr (by kernel_rfl) H)

/-! milestone/net.New -/

def sh_net_New (P : Program) (raw0 : Value) (h : Heap) (K : Value → Heap → Prop) : Prop :=
  pBox T_api_Raw raw0 h fun raw1 h_1 =>
  pLoadN 4 h_1 raw1 fun t6 =>
  callS P F_graph_Check [t6] h_1 fun t7 h_2 =>
  pEq true .iface t7 .nilIface fun t9 =>
  ifV t9
  (callS P F_api_Told [t7] h_2 fun t11 h_3 =>
  pBox T_api_Fault (.agg #[(.int .i64 0), (.int .i64 0), (.int .i64 0), (.int .i64 0)]) h_3 fun f5 h_4 =>
  pStore 4 f5 t11 h_4 fun u h_5 =>
  pBuild [(.pointer none)] [(0, 1, f5)] fun t12 =>
  K (.tuple #[(.pointer none), (.iface T_net_trouble t12)]) h_5)
  (pLoadN 4 h_2 raw1 fun t14 =>
  callS P F_net_own [t14] h_2 fun t15 h_6 =>
  callS P F_net_of [t15] h_6 fun t16 h_7 =>
  K (.tuple #[t16, .nilIface]) h_7)

set_option maxRecDepth 100000 in
theorem lk_net_New (raw0 : Value) {h : Heap} {K : Value → Heap → Prop} (H : sh_net_New Tryz.prog raw0 h K) : CallsH Tryz.prog F_net_New [raw0].toArray h K :=
  callsH_of (ann := (annG (Tryz.f21.body.getD .skip) 0 []).1) (c := Tryz.f21.body.getD .skip) Tryz.func21 (by kernel_rfl) (by kernel_rfl) (by kernel_rfl) (of_decide_eq_true (by kernel_rfl))
    (Eq.mpr (by kernel_rfl) H)

/-! milestone/walk.Nodes -/

def sh_walk_Nodes_B1 (P : Program) (h_9 : Heap) (t6 t7 l8 : Value) (L : Loop) (t21 t22 : Value) (h_10 : Heap) (R : Exit → Heap → Prop) : Prop :=
  pBox T_api_Arc (.agg #[(.int .i64 0), (.int .i64 0), (.int .i64 0)]) h_10 fun a9 h_11 =>
  pStore 3 a9 t21 h_11 fun u_3 h_12 =>
  beginR (h_9.size + 1) L h_12 fun h_13 =>
  pUn .not t22 fun t24 =>
  ifV t24
  (pStore 1 t6 (.slice none 0 0) h_13 fun u_4 h_14 =>
  pStore 1 t7 (.bool false) h_14 fun u_5 h_15 =>
  R .ret h_15)
  (pLoad h_13 l8 fun t25 =>
  pField 1 a9 fun t26 =>
  pLoad h_13 t26 fun t27 =>
  pBuildSlice T_int (zerosL [(.int .i64 0)] 1) [(0, 1, t27)] 1 h_13 fun t28 h_16 =>
  pAppend T_int 1 8 [(.int .i64 0)] t25 t28 h_16 fun t29 h_17 =>
  pStore 1 l8 t29 h_17 fun u_6 h_18 =>
  R .normal h_18)

def sh_walk_Nodes (P : Program) (n0 s1 arcs2 : Value) (h : Heap) (K : Value → Heap → Prop) : Prop :=
  pBox T_sl_int (.slice none 0 0) h fun t6 h_1 =>
  pBox T_bool (.bool false) h_1 fun t7 h_2 =>
  callS P F_walk_node [n0, s1] h_2 fun t13 h_3 =>
  pUn .not t13 fun t14 =>
  ifV t14
  (pStore 1 t6 (.slice none 0 0) h_3 fun u h_4 =>
  pStore 1 t7 (.bool false) h_4 fun u_1 h_5 =>
  pLoad h_5 t6 fun res =>
  pLoad h_5 t7 fun res_1 =>
  K (.tuple #[res, res_1]) h_5)
  (pBuildSlice T_int (zerosL [(.int .i64 0)] 1) [(0, 1, s1)] 1 h_3 fun t16 h_6 =>
  pBox T_sl_int (.slice none 0 0) h_6 fun l8 h_7 =>
  pStore 1 l8 t16 h_7 fun u_2 h_8 =>
  callS P F_walk_steps [n0, s1, arcs2] h_8 fun t20 h_9 =>
  rangeH P t20 [21, 22] (h_9.size + 1) (h_9.push (.deferred (some []))) (fun L x hh R => sh_walk_Nodes_B1 P h_9 t6 t7 l8 L x.1 x.2.1 hh R)
  (fun h_19 => pLoad h_19 l8 fun t30 =>
  pStore 1 t6 t30 h_19 fun u_7 h_20 =>
  pStore 1 t7 (.bool true) h_20 fun u_8 h_21 =>
  takeM (h_9.size :: []) h_21 fun h_22 =>
  pLoad h_22 t6 fun res_2 =>
  pLoad h_22 t7 fun res_3 =>
  K (.tuple #[res_2, res_3]) h_22)
  (fun h_23 => takeM (h_9.size :: []) h_23 fun h_24 =>
  pLoad h_24 t6 fun res_4 =>
  pLoad h_24 t7 fun res_5 =>
  K (.tuple #[res_4, res_5]) h_24)
  [])

set_option maxRecDepth 100000 in
theorem lk_walk_Nodes (n0 s1 arcs2 : Value) {h : Heap} {K : Value → Heap → Prop} (H : sh_walk_Nodes Tryz.prog n0 s1 arcs2 h K) : CallsH Tryz.prog F_walk_Nodes [n0, s1, arcs2].toArray h K :=
  callsH_of (ann := (annG (Tryz.f22.body.getD .skip) 0 []).1) (c := Tryz.f22.body.getD .skip) Tryz.func22 (by kernel_rfl) (by kernel_rfl) (by kernel_rfl) (of_decide_eq_true (by kernel_rfl))
    (Eq.mpr (by kernel_rfl) H)

/-! milestone/milestoneref10.Least -/

def sh_milestoneref10_Least_k2 (P : Program) (K : Value → Heap → Prop) (h_5 : Heap) : Prop :=
  K (.slice none 0 0) h_5

def sh_milestoneref10_Least_k6 (P : Program) (i8 : Value) (Z_2 : Value → Value → Heap → Prop) (more7_2 : Value) (h_13 : Heap) : Prop :=
  pBin .add i8 (.int .i64 1) fun t37 =>
  Z_2 more7_2 t37 h_13

def sh_milestoneref10_Least_C5 (P : Program) (a9 l5 i8 : Value) (Z_2 : Value → Value → Heap → Prop) (more7_1 t64 : Value) (h_11 : Heap) : Prop :=
  ifV t64
  (pField 1 a9 fun t66 =>
  pLoad h_11 t66 fun t67 =>
  pField 0 a9 fun t69 =>
  pLoad h_11 t69 fun t70 =>
  pIdx 1 l5 t70 fun t71 =>
  pLoad h_11 t71 fun t72 =>
  pField 2 a9 fun t73 =>
  pLoad h_11 t73 fun t74 =>
  pBin .add t72 t74 fun t75 =>
  pIdx 1 l5 t67 fun t76 =>
  pStore 1 t76 t75 h_11 fun u_2 h_12 =>
  sh_milestoneref10_Least_k6 P i8 Z_2 (.bool true) h_12)
  (sh_milestoneref10_Least_k6 P i8 Z_2 more7_1 h_11)

def sh_milestoneref10_Least_L4 (P : Program) (g2 l5 : Value) (Z_1 : Value → Heap → Prop) (more7_1 i8 : Value) (h_8 : Heap) (Z_2 : Value → Value → Heap → Prop) : Prop :=
  pField 3 g2 fun t32 =>
  pLoad h_8 t32 fun t33 =>
  pLen t33 fun t34 =>
  pBin .lss i8 t34 fun t35 =>
  ifV t35
  (pField 3 g2 fun t38 =>
  pLoad h_8 t38 fun t39 =>
  pIdx 3 t39 i8 fun t41 =>
  pLoadN 3 h_8 t41 fun t42 =>
  pBox T_api_Arc (.agg #[(.int .i64 0), (.int .i64 0), (.int .i64 0)]) h_8 fun a9 h_9 =>
  pStore 3 a9 t42 h_9 fun u_1 h_10 =>
  cutP (σ := Vals [64]) (fun J =>
  pField 0 a9 fun t44 =>
  pLoad h_10 t44 fun t45 =>
  pIdx 1 l5 t45 fun t46 =>
  pLoad h_10 t46 fun t47 =>
  pBin .lss t47 (.int .i64 72057594037927936) fun t48 =>
  ifV t48
  (pField 0 a9 fun t51 =>
  pLoad h_10 t51 fun t52 =>
  pIdx 1 l5 t52 fun t53 =>
  pLoad h_10 t53 fun t54 =>
  pField 2 a9 fun t55 =>
  pLoad h_10 t55 fun t56 =>
  pBin .add t54 t56 fun t57 =>
  pField 1 a9 fun t59 =>
  pLoad h_10 t59 fun t60 =>
  pIdx 1 l5 t60 fun t61 =>
  pLoad h_10 t61 fun t62 =>
  pBin .lss t57 t62 fun t63 =>
  J (t63, ()) h_10)
  (J ((.bool false), ()) h_10))
  (fun x hh => sh_milestoneref10_Least_C5 P a9 l5 i8 Z_2 more7_1 x.1 hh))
  (Z_1 more7_1 h_8)

def sh_milestoneref10_Least_L3 (P : Program) (g2 l5 : Value) (K : Value → Heap → Prop) (more7 : Value) (h_7 : Heap) (Z_1 : Value → Heap → Prop) : Prop :=
  ifV more7
  (LoopH (σ := Vals [7, 8]) (fun x hh ZZ => sh_milestoneref10_Least_L4 P g2 l5 Z_1 x.1 x.2.1 hh (fun a0 a1 hz => ZZ (a0, (a1, ())) hz)) ((.bool false), ((.int .i64 0), ())) h_7)
  (K l5 h_7)

def sh_milestoneref10_Least_L1 (P : Program) (g2 s1 : Value) (K : Value → Heap → Prop) (l5 v6 : Value) (h_2 : Heap) (Z : Value → Value → Heap → Prop) : Prop :=
  pField 0 g2 fun t11 =>
  pLoad h_2 t11 fun t12 =>
  pBin .lss v6 t12 fun t13 =>
  ifV t13
  (pBuildSlice T_int64 (zerosL [(.int .i64 0)] 1) [(0, 1, (.int .i64 72057594037927936))] 1 h_2 fun t17 h_3 =>
  pAppend T_int64 1 8 [(.int .i64 0)] l5 t17 h_3 fun t18 h_4 =>
  pBin .add v6 (.int .i64 1) fun t15 =>
  Z t18 t15 h_4)
  (pBin .lss s1 (.int .i64 0) fun t20 =>
  ifV t20
  (sh_milestoneref10_Least_k2 P K h_2)
  (pField 0 g2 fun t23 =>
  pLoad h_2 t23 fun t24 =>
  pBin .geq s1 t24 fun t25 =>
  ifV t25
  (sh_milestoneref10_Least_k2 P K h_2)
  (pIdx 1 l5 s1 fun t29 =>
  pStore 1 t29 (.int .i64 0) h_2 fun u h_6 =>
  LoopH (σ := Vals [7]) (fun x hh ZZ => sh_milestoneref10_Least_L3 P g2 l5 K x.1 hh (fun a0 hz => ZZ (a0, ()) hz)) ((.bool true), ()) h_6)))

def sh_milestoneref10_Least (P : Program) (g0 s1 : Value) (h : Heap) (K : Value → Heap → Prop) : Prop :=
  pBox T_api_Raw g0 h fun g2 h_1 =>
  LoopH (σ := Vals [5, 6]) (fun x hh ZZ => sh_milestoneref10_Least_L1 P g2 s1 K x.1 x.2.1 hh (fun a0 a1 hz => ZZ (a0, (a1, ())) hz)) ((.slice none 0 0), ((.int .i64 0), ())) h_1

set_option maxRecDepth 100000 in
theorem lk_milestoneref10_Least (g0 s1 : Value) {h : Heap} {K : Value → Heap → Prop} (H : sh_milestoneref10_Least Tryz.prog g0 s1 h K) : CallsH Tryz.prog F_milestoneref10_Least [g0, s1].toArray h K :=
  callsH_of (ann := (annG (Tryz.f23.body.getD .skip) 0 [(4, [5, 6]), (14, [7]), (19, [7, 8]), (24, [64])]).1) (c := Tryz.f23.body.getD .skip) Tryz.func23 (by kernel_rfl) (by kernel_rfl) (by kernel_rfl) (of_decide_eq_true (by kernel_rfl))
    (Eq.mpr (by kernel_rfl) H)

/-! milestone/walk.Check -/

def sh_walk_Check_B1 (P : Program) (h_6 : Heap) (end10 weight8 : Value) (L : Loop) (t22 t23 : Value) (h_7 : Heap) (R : Exit → Heap → Prop) : Prop :=
  pBox T_api_Arc (.agg #[(.int .i64 0), (.int .i64 0), (.int .i64 0)]) h_7 fun a11 h_8 =>
  pStore 3 a11 t22 h_8 fun u_2 h_9 =>
  beginR (h_6.size + 1) L h_9 fun h_10 =>
  pUn .not t23 fun t25 =>
  ifV t25
  (pStore 1 end10 (.int .i64 (-1)) h_10 fun u_3 h_11 =>
  R (.exit 0) h_11)
  (pLoad h_10 weight8 fun t26 =>
  pField 2 a11 fun t27 =>
  pLoad h_10 t27 fun t28 =>
  pBin .add t26 t28 fun t29 =>
  pStore 1 weight8 t29 h_10 fun u_4 h_12 =>
  pField 1 a11 fun t30 =>
  pLoad h_12 t30 fun t31 =>
  pStore 1 end10 t31 h_12 fun u_5 h_13 =>
  R .normal h_13)

def sh_walk_Check_k3 (P : Program) (weight8 : Value) (h_6 : Heap) (K : Value → Heap → Prop) (h_16 : Heap) : Prop :=
  pStore 1 weight8 (.int .i64 0) h_16 fun u_6 h_17 =>
  takeM (h_6.size :: []) h_17 fun h_18 =>
  pLoad h_18 weight8 fun res_1 =>
  K (.tuple #[res_1, (.bool false)]) h_18

def sh_walk_Check_k2 (P : Program) (end10 weight8 : Value) (h_6 : Heap) (K : Value → Heap → Prop) (t2 : Value) (h_15 : Heap) : Prop :=
  pLoad h_15 end10 fun t32 =>
  pBin .lss t32 (.int .i64 0) fun t33 =>
  ifV t33
  (sh_walk_Check_k3 P weight8 h_6 K h_15)
  (pLoad h_15 end10 fun t35 =>
  pBin .neq t35 t2 fun t37 =>
  ifV t37
  (sh_walk_Check_k3 P weight8 h_6 K h_15)
  (pLoad h_15 weight8 fun t39 =>
  pStore 1 weight8 t39 h_15 fun u_7 h_19 =>
  takeM (h_6.size :: []) h_19 fun h_20 =>
  pLoad h_20 weight8 fun res_2 =>
  K (.tuple #[res_2, (.bool true)]) h_20))

def sh_walk_Check (P : Program) (n0 s1 t2 arcs3 : Value) (h : Heap) (K : Value → Heap → Prop) : Prop :=
  pBox T_int64 (.int .i64 0) h fun weight8 h_1 =>
  callS P F_walk_node [n0, s1] h_1 fun t15 h_2 =>
  pUn .not t15 fun t16 =>
  ifV t16
  (pStore 1 weight8 (.int .i64 0) h_2 fun u h_3 =>
  pLoad h_3 weight8 fun res =>
  K (.tuple #[res, (.bool false)]) h_3)
  (pBox T_int (.int .i64 0) h_2 fun end10 h_4 =>
  pStore 1 end10 s1 h_4 fun u_1 h_5 =>
  callS P F_walk_steps [n0, s1, arcs3] h_5 fun t21 h_6 =>
  rangeH P t21 [22, 23] (h_6.size + 1) (h_6.push (.deferred (some []))) (fun L x hh R => sh_walk_Check_B1 P h_6 end10 weight8 L x.1 x.2.1 hh R)
  (fun h_21 => sh_walk_Check_k2 P end10 weight8 h_6 K t2 h_21)
  (fun h_22 => takeM (h_6.size :: []) h_22 fun h_23 =>
  pLoad h_23 weight8 fun res_3 =>
  K (.tuple #[res_3, (.bool false)]) h_23)
  [(0, (fun h_14 => sh_walk_Check_k2 P end10 weight8 h_6 K t2 h_14))])

set_option maxRecDepth 100000 in
theorem lk_walk_Check (n0 s1 t2 arcs3 : Value) {h : Heap} {K : Value → Heap → Prop} (H : sh_walk_Check Tryz.prog n0 s1 t2 arcs3 h K) : CallsH Tryz.prog F_walk_Check [n0, s1, t2, arcs3].toArray h K :=
  callsH_of (ann := (annG (Tryz.f24.body.getD .skip) 0 []).1) (c := Tryz.f24.body.getD .skip) Tryz.func24 (by kernel_rfl) (by kernel_rfl) (by kernel_rfl) (of_decide_eq_true (by kernel_rfl))
    (Eq.mpr (by kernel_rfl) H)

/-! milestone/milestoneref07.Turned -/

def sh_milestoneref07_Turned_L1 (P : Program) (out3 g1 t2 : Value) (K : Value → Heap → Prop) (a4 : Value) (h_6 : Heap) (Z : Value → Heap → Prop) : Prop :=
  pField 3 out3 fun t8 =>
  pLoad h_6 t8 fun t9 =>
  pLen t9 fun t10 =>
  pBin .lss a4 t10 fun t11 =>
  ifV t11
  (pField 3 out3 fun t14 =>
  pLoad h_6 t14 fun t15 =>
  pField 3 g1 fun t17 =>
  pLoad h_6 t17 fun t18 =>
  pIdx 3 t18 a4 fun t20 =>
  pField 1 t20 fun t21 =>
  pLoad h_6 t21 fun t22 =>
  pIdx 3 t15 a4 fun t23 =>
  pField 0 t23 fun t24 =>
  pStore 1 t24 t22 h_6 fun u_1 h_7 =>
  pField 3 out3 fun t25 =>
  pLoad h_7 t25 fun t26 =>
  pField 3 g1 fun t28 =>
  pLoad h_7 t28 fun t29 =>
  pIdx 3 t29 a4 fun t31 =>
  pField 0 t31 fun t32 =>
  pLoad h_7 t32 fun t33 =>
  pIdx 3 t26 a4 fun t34 =>
  pField 1 t34 fun t35 =>
  pStore 1 t35 t33 h_7 fun u_2 h_8 =>
  pBin .add a4 (.int .i64 1) fun t13 =>
  Z t13 h_8)
  (pLoadN 4 h_6 out3 fun t36 =>
  pStore 4 t2 t36 h_6 fun u_3 h_9 =>
  pLoadN 4 h_9 t2 fun res =>
  K res h_9)

def sh_milestoneref07_Turned (P : Program) (g0 : Value) (h : Heap) (K : Value → Heap → Prop) : Prop :=
  pBox T_api_Raw g0 h fun g1 h_1 =>
  pBox T_api_Raw (.agg #[(.int .i64 0), (.slice none 0 0), (.slice none 0 0), (.slice none 0 0)]) h_1 fun t2 h_2 =>
  pLoadN 4 h_2 g1 fun t5 =>
  callS P F_milestoneref07_Copy [t5] h_2 fun t6 h_3 =>
  pBox T_api_Raw (.agg #[(.int .i64 0), (.slice none 0 0), (.slice none 0 0), (.slice none 0 0)]) h_3 fun out3 h_4 =>
  pStore 4 out3 t6 h_4 fun u h_5 =>
  LoopH (σ := Vals [4]) (fun x hh ZZ => sh_milestoneref07_Turned_L1 P out3 g1 t2 K x.1 hh (fun a0 hz => ZZ (a0, ()) hz)) ((.int .i64 0), ()) h_5

set_option maxRecDepth 100000 in
theorem lk_milestoneref07_Turned (g0 : Value) {h : Heap} {K : Value → Heap → Prop} (H : sh_milestoneref07_Turned Tryz.prog g0 h K) : CallsH Tryz.prog F_milestoneref07_Turned [g0].toArray h K :=
  callsH_of (ann := (annG (Tryz.f25.body.getD .skip) 0 [(4, [4])]).1) (c := Tryz.f25.body.getD .skip) Tryz.func25 (by kernel_rfl) (by kernel_rfl) (by kernel_rfl) (of_decide_eq_true (by kernel_rfl))
    (Eq.mpr (by kernel_rfl) H)

/-! milestone/walk.Bare -/

def sh_walk_Bare_k3 (P : Program) (t36 : Value) (Z : Value → Value → Value → Heap → Prop) (out10_2 row11_2 : Value) (h_19 : Heap) : Prop :=
  pBin .add t36 (.int .i64 1) fun t83 =>
  Z out10_2 row11_2 t83 h_19

def sh_walk_Bare_C2 (P : Program) (t36 : Value) (Z : Value → Value → Value → Heap → Prop) (out10_1 row11_1 : Value) (h_18 : Heap) : Prop :=
  sh_walk_Bare_k3 P t36 Z out10_1 row11_1 h_18

def sh_walk_Bare_L4 (P : Program) (t68 t67 t30 t45 row11 out10 t36 : Value) (Z : Value → Value → Value → Heap → Prop) (t69 : Value) (h_20 : Heap) (Z_1 : Value → Heap → Prop) : Prop :=
  pBin .lss t69 t68 fun t70 =>
  ifV t70
  (pIdx 1 t67 t69 fun t71 =>
  pLoad h_20 t71 fun t72 =>
  pDelete (.int .i64) t30 t72 h_20 fun u_2 h_21 =>
  pBin .add t69 (.int .i64 1) fun t75 =>
  Z_1 t75 h_21)
  (pBin .add t45 (.int .i64 1) fun t78 =>
  pSlice 1 row11 none (some t78) none fun t79 =>
  pSlice 1 out10 none (some t45) none fun t82 =>
  sh_walk_Bare_k3 P t36 Z t82 t79 h_20)

def sh_walk_Bare_L1 (P : Program) (t35 t34 t30 arcs2 : Value) (K : Value → Heap → Prop) (out10 row11 t36 : Value) (h_5 : Heap) (Z : Value → Value → Value → Heap → Prop) : Prop :=
  pBin .lss t36 t35 fun t37 =>
  ifV t37
  (pIdx 1 t34 t36 fun t39 =>
  pLoad h_5 t39 fun t40 =>
  pLook (.int .i64) (.int .i64 0) true h_5 t30 t40 fun t44 =>
  pExt t44 0 fun t45 =>
  pExt t44 1 fun t46 =>
  pUn .not t46 fun t48 =>
  ifV t48
  (pLen row11 fun t52 =>
  pMapSet (.int .i64) t30 t40 t52 h_5 fun u_1 h_6 =>
  cutP (σ := Vals [10, 11]) (fun J =>
  pIdx 1 arcs2 t36 fun t60 =>
  pLoad h_6 t60 fun t61 =>
  (pBuildSlice T_int (zerosL [(.int .i64 0)] 1) [(0, 1, t40)] 1 h_6 fun t55 h_7 =>
  (pAppend T_int 1 8 [(.int .i64 0)] row11 t55 h_7 fun t56 h_8 =>
  (pLoad h_8 t60 fun t61_1 =>
  t61_1 = t61) ∧
  (pBuildSlice T_int (zerosL [(.int .i64 0)] 1) [(0, 1, t61)] 1 h_8 fun t62 h_9 =>
  pAppend T_int 1 8 [(.int .i64 0)] out10 t62 h_9 fun t63 h_10 =>
  J (t63, (t56, ())) h_10)) ∧
  (pBuildSlice T_int (zerosL [(.int .i64 0)] 1) [(0, 1, t61)] 1 h_7 fun t62_1 h_11 =>
  pAppend T_int 1 8 [(.int .i64 0)] row11 t55 h_11 fun t56_1 h_12 =>
  pAppend T_int 1 8 [(.int .i64 0)] out10 t62_1 h_12 fun t63_1 h_13 =>
  J (t63_1, (t56_1, ())) h_13)) ∧
  (pBuildSlice T_int (zerosL [(.int .i64 0)] 1) [(0, 1, t61)] 1 h_6 fun t62_2 h_14 =>
  pBuildSlice T_int (zerosL [(.int .i64 0)] 1) [(0, 1, t40)] 1 h_14 fun t55_1 h_15 =>
  pAppend T_int 1 8 [(.int .i64 0)] row11 t55_1 h_15 fun t56_2 h_16 =>
  pAppend T_int 1 8 [(.int .i64 0)] out10 t62_2 h_16 fun t63_2 h_17 =>
  J (t63_2, (t56_2, ())) h_17))
  (fun x hh => sh_walk_Bare_C2 P t36 Z x.1 x.2.1 hh))
  (pBin .add t45 (.int .i64 1) fun t66 =>
  pSlice 1 row11 (some t66) none none fun t67 =>
  pLen t67 fun t68 =>
  LoopH (σ := Vals [69]) (fun x hh ZZ => sh_walk_Bare_L4 P t68 t67 t30 t45 row11 out10 t36 Z x.1 hh (fun a0 hz => ZZ (a0, ()) hz)) ((.int .i64 0), ()) h_5))
  (K (.tuple #[out10, (.bool true)]) h_5)

def sh_walk_Bare (P : Program) (n0 s1 arcs2 : Value) (h : Heap) (K : Value → Heap → Prop) : Prop :=
  callS P F_walk_Nodes [n0, s1, arcs2] h fun t23 h_1 =>
  pExt t23 0 fun t24 =>
  pExt t23 1 fun t25 =>
  pUn .not t25 fun t27 =>
  ifV t27
  (K (.tuple #[(.slice none 0 0), (.bool false)]) h_1)
  (pBuildSlice T_int (zerosL [(.int .i64 0)] 1) [(0, 1, s1)] 1 h_1 fun t29 h_2 =>
  pMakeMap h_2 fun t30 h_3 =>
  pMapSet (.int .i64) t30 s1 (.int .i64 0) h_3 fun u h_4 =>
  pSlice 1 t24 (some (.int .i64 1)) none none fun t34 =>
  pLen t34 fun t35 =>
  LoopH (σ := Vals [10, 11, 36]) (fun x hh ZZ => sh_walk_Bare_L1 P t35 t34 t30 arcs2 K x.1 x.2.1 x.2.2.1 hh (fun a0 a1 a2 hz => ZZ (a0, (a1, (a2, ()))) hz)) ((.slice none 0 0), (t29, ((.int .i64 0), ()))) h_4)

set_option maxRecDepth 100000 in
theorem lk_walk_Bare (n0 s1 arcs2 : Value) {h : Heap} {K : Value → Heap → Prop} (H : sh_walk_Bare Tryz.prog n0 s1 arcs2 h K) : CallsH Tryz.prog F_walk_Bare [n0, s1, arcs2].toArray h K :=
  callsH_of (ann := (annG (Tryz.f26.body.getD .skip) 0 [(10, [10, 11, 36]), (19, [10, 11]), (22, [69])]).1) (c := Tryz.f26.body.getD .skip) Tryz.func26 (by kernel_rfl) (by kernel_rfl) (by kernel_rfl) (of_decide_eq_true (by kernel_rfl))
    (Eq.mpr (by kernel_rfl) H)

/-! (*milestone/milestoneref07.Draft).Raw -/

def sh_milestoneref07_Draft_Raw_k7 (P : Program) (i8 : Value) (Z_2 : Value → Heap → Prop) (h_52 : Heap) : Prop :=
  pBin .add i8 (.int .i64 1) fun t83 =>
  Z_2 t83 h_52

def sh_milestoneref07_Draft_Raw_C6 (P : Program) (g3 d0 i8 : Value) (Z_2 : Value → Heap → Prop) (a9_4 : Value) (h_44 : Heap) : Prop :=
  pField 3 g3 fun t95 =>
  pLoad h_44 t95 fun t96 =>
  pLoadN 3 h_44 a9_4 fun t97 =>
  pBuildSlice T_api_Arc (zerosL [(.int .i64 0), (.int .i64 0), (.int .i64 0)] 1) [(0, 3, t97)] 1 h_44 fun t98 h_45 =>
  pAppend T_api_Arc 3 24 [(.int .i64 0), (.int .i64 0), (.int .i64 0)] t96 t98 h_45 fun t99 h_46 =>
  pField 3 g3 fun t100 =>
  pStore 1 t100 t99 h_46 fun u_10 h_47 =>
  callS P F_milestoneref07_Draft_Next [d0, (.int .i64 4)] h_47 fun t102 h_48 =>
  pBin .eql t102 (.int .i64 0) fun t103 =>
  ifV t103
  (pField 3 g3 fun t104 =>
  pLoad h_48 t104 fun t105 =>
  pField 1 a9_4 fun t106 =>
  pLoad h_48 t106 fun t107 =>
  pField 0 a9_4 fun t108 =>
  pLoad h_48 t108 fun t109 =>
  pField 2 a9_4 fun t110 =>
  pLoad h_48 t110 fun t111 =>
  pBuild [(.int .i64 0), (.int .i64 0), (.int .i64 0)] [(0, 1, t107), (1, 1, t109), (2, 1, t111)] fun t112 =>
  pBuildSlice T_api_Arc (zerosL [(.int .i64 0), (.int .i64 0), (.int .i64 0)] 1) [(0, 3, t112)] 1 h_48 fun t113 h_49 =>
  pAppend T_api_Arc 3 24 [(.int .i64 0), (.int .i64 0), (.int .i64 0)] t105 t113 h_49 fun t114 h_50 =>
  pField 3 g3 fun t115 =>
  pStore 1 t115 t114 h_50 fun u_11 h_51 =>
  sh_milestoneref07_Draft_Raw_k7 P i8 Z_2 h_51)
  (sh_milestoneref07_Draft_Raw_k7 P i8 Z_2 h_48)

def sh_milestoneref07_Draft_Raw_L5 (P : Program) (t52 g3 d0 t2 : Value) (K : Value → Heap → Prop) (i8 : Value) (h_26 : Heap) (Z_2 : Value → Heap → Prop) : Prop :=
  pBin .lss i8 t52 fun t81 =>
  ifV t81
  (cutP (σ := Vals [9]) (fun J =>
  pField 0 g3 fun t85 =>
  pLoad h_26 t85 fun t86 =>
  pField 0 g3 fun t89 =>
  pLoad h_26 t89 fun t90 =>
  (callS P F_milestoneref07_Draft_Next [d0, t86] h_26 fun t87 h_27 =>
  (pLoad h_27 t89 fun t90_1 =>
  t90_1 = t90) ∧
  ((callS P F_milestoneref07_Draft_Next [d0, t90] h_27 fun t91 h_28 =>
  (callS P F_milestoneref07_Draft_Weight [d0] h_28 fun t93 h_29 =>
  pBuild [(.int .i64 0), (.int .i64 0), (.int .i64 0)] [(0, 1, t87), (1, 1, t91), (2, 1, t93)] fun t94 =>
  pBox T_api_Arc (.agg #[(.int .i64 0), (.int .i64 0), (.int .i64 0)]) h_29 fun a9 h_30 =>
  pStore 3 a9 t94 h_30 fun u_6 h_31 =>
  J (a9, ()) h_31) ∧
  (pBox T_api_Arc (.agg #[(.int .i64 0), (.int .i64 0), (.int .i64 0)]) h_28 fun a9_1 h_32 =>
  callS P F_milestoneref07_Draft_Weight [d0] h_32 fun t93_1 h_33 =>
  pBuild [(.int .i64 0), (.int .i64 0), (.int .i64 0)] [(0, 1, t87), (1, 1, t91), (2, 1, t93_1)] fun t94_1 =>
  pStore 3 a9_1 t94_1 h_33 fun u_7 h_34 =>
  J (a9_1, ()) h_34)) ∧
  (pBox T_api_Arc (.agg #[(.int .i64 0), (.int .i64 0), (.int .i64 0)]) h_27 fun a9_2 h_35 =>
  callS P F_milestoneref07_Draft_Next [d0, t90] h_35 fun t91_1 h_36 =>
  callS P F_milestoneref07_Draft_Weight [d0] h_36 fun t93_2 h_37 =>
  pBuild [(.int .i64 0), (.int .i64 0), (.int .i64 0)] [(0, 1, t87), (1, 1, t91_1), (2, 1, t93_2)] fun t94_2 =>
  pStore 3 a9_2 t94_2 h_37 fun u_8 h_38 =>
  J (a9_2, ()) h_38))) ∧
  (pBox T_api_Arc (.agg #[(.int .i64 0), (.int .i64 0), (.int .i64 0)]) h_26 fun a9_3 h_39 =>
  callS P F_milestoneref07_Draft_Next [d0, t86] h_39 fun t87_1 h_40 =>
  (pLoad h_40 t89 fun t90_2 =>
  t90_2 = t90) ∧
  (callS P F_milestoneref07_Draft_Next [d0, t90] h_40 fun t91_2 h_41 =>
  callS P F_milestoneref07_Draft_Weight [d0] h_41 fun t93_3 h_42 =>
  pBuild [(.int .i64 0), (.int .i64 0), (.int .i64 0)] [(0, 1, t87_1), (1, 1, t91_2), (2, 1, t93_3)] fun t94_3 =>
  pStore 3 a9_3 t94_3 h_42 fun u_9 h_43 =>
  J (a9_3, ()) h_43)))
  (fun x hh => sh_milestoneref07_Draft_Raw_C6 P g3 d0 i8 Z_2 x.1 hh))
  (pLoadN 4 h_26 g3 fun t116 =>
  pStore 4 t2 t116 h_26 fun u_12 h_53 =>
  pLoadN 4 h_53 t2 fun res =>
  K res h_53)

def sh_milestoneref07_Draft_Raw_k4 (P : Program) (t52 g3 d0 t2 : Value) (K : Value → Heap → Prop) (h_25 : Heap) : Prop :=
  LoopH (σ := Vals [8]) (fun x hh ZZ => sh_milestoneref07_Draft_Raw_L5 P t52 g3 d0 t2 K x.1 hh (fun a0 hz => ZZ (a0, ()) hz)) ((.int .i64 0), ()) h_25

def sh_milestoneref07_Draft_Raw_L3 (P : Program) (g3 t55 d0 t52 t2 : Value) (K : Value → Heap → Prop) (v7 : Value) (h_20 : Heap) (Z_1 : Value → Heap → Prop) : Prop :=
  pField 0 g3 fun t57 =>
  pLoad h_20 t57 fun t58 =>
  pBin .lss v7 t58 fun t59 =>
  ifV t59
  (ifV t55
  (pField 3 g3 fun t65 =>
  pLoad h_20 t65 fun t66 =>
  pBin .add v7 (.int .i64 1) fun t69 =>
  pField 0 g3 fun t70 =>
  pLoad h_20 t70 fun t71 =>
  pBin .rem t69 t71 fun t72 =>
  callS P F_milestoneref07_Draft_Weight [d0] h_20 fun t74 h_21 =>
  (pLoad h_21 t65 fun t66_1 =>
  t66_1 = t66) ∧
  (pLoad h_21 t70 fun t71_1 =>
  t71_1 = t71) ∧
  (pBuild [(.int .i64 0), (.int .i64 0), (.int .i64 0)] [(0, 1, v7), (1, 1, t72), (2, 1, t74)] fun t75 =>
  pBuildSlice T_api_Arc (zerosL [(.int .i64 0), (.int .i64 0), (.int .i64 0)] 1) [(0, 3, t75)] 1 h_21 fun t76 h_22 =>
  pAppend T_api_Arc 3 24 [(.int .i64 0), (.int .i64 0), (.int .i64 0)] t66 t76 h_22 fun t77 h_23 =>
  pField 3 g3 fun t78 =>
  pStore 1 t78 t77 h_23 fun u_5 h_24 =>
  pBin .add v7 (.int .i64 1) fun t64 =>
  Z_1 t64 h_24))
  (sh_milestoneref07_Draft_Raw_k4 P t52 g3 d0 t2 K h_20))
  (sh_milestoneref07_Draft_Raw_k4 P t52 g3 d0 t2 K h_20)

def sh_milestoneref07_Draft_Raw_k2 (P : Program) (g3 d0 t2 : Value) (K : Value → Heap → Prop) (h_17 : Heap) : Prop :=
  pField 0 g3 fun t48 =>
  pLoad h_17 t48 fun t49 =>
  pBin .mul (.int .i64 3) t49 fun t50 =>
  pBin .add t50 (.int .i64 1) fun t51 =>
  callS P F_milestoneref07_Draft_Next [d0, t51] h_17 fun t52 h_18 =>
  callS P F_milestoneref07_Draft_Next [d0, (.int .i64 3)] h_18 fun t54 h_19 =>
  pBin .gtr t54 (.int .i64 0) fun t55 =>
  LoopH (σ := Vals [7]) (fun x hh ZZ => sh_milestoneref07_Draft_Raw_L3 P g3 t55 d0 t52 t2 K x.1 hh (fun a0 hz => ZZ (a0, ()) hz)) ((.int .i64 0), ()) h_19

def sh_milestoneref07_Draft_Raw_L1 (P : Program) (g3 d0 t2 : Value) (K : Value → Heap → Prop) (v4 : Value) (h_5 : Heap) (Z : Value → Heap → Prop) : Prop :=
  pField 0 g3 fun t15 =>
  pLoad h_5 t15 fun t16 =>
  pBin .lss v4 t16 fun t17 =>
  ifV t17
  (pField 1 g3 fun t20 =>
  pLoad h_5 t20 fun t21 =>
  callS P F_milestoneref07_Draft_Next [d0, (.int .i64 9)] h_5 fun t23 h_6 =>
  (pLoad h_6 t20 fun t21_1 =>
  t21_1 = t21) ∧
  (pBin .sub t23 (.int .i64 3) fun t24 =>
  pBuildSlice T_int64 (zerosL [(.int .i64 0)] 1) [(0, 1, t24)] 1 h_6 fun t25 h_7 =>
  pAppend T_int64 1 8 [(.int .i64 0)] t21 t25 h_7 fun t26 h_8 =>
  pField 1 g3 fun t27 =>
  pStore 1 t27 t26 h_8 fun u_1 h_9 =>
  pField 2 g3 fun t28 =>
  pLoad h_9 t28 fun t29 =>
  callS P F_milestoneref07_Draft_Next [d0, (.int .i64 7)] h_9 fun t31 h_10 =>
  (pLoad h_10 t28 fun t29_1 =>
  t29_1 = t29) ∧
  (pBuildSlice T_int64 (zerosL [(.int .i64 0)] 1) [(0, 1, t31)] 1 h_10 fun t32 h_11 =>
  pAppend T_int64 1 8 [(.int .i64 0)] t29 t32 h_11 fun t33 h_12 =>
  pField 2 g3 fun t34 =>
  pStore 1 t34 t33 h_12 fun u_2 h_13 =>
  pBin .add v4 (.int .i64 1) fun t19 =>
  Z t19 h_13)))
  (callS P F_milestoneref07_Draft_Next [d0, (.int .i64 9)] h_5 fun t36 h_14 =>
  pBin .eql t36 (.int .i64 0) fun t37 =>
  ifV t37
  (pField 1 g3 fun t38 =>
  pLoad h_14 t38 fun t39 =>
  pIdx 1 t39 (.int .i64 0) fun t40 =>
  pStore 1 t40 (.int .i64 (-2147483648)) h_14 fun u_3 h_15 =>
  pField 2 g3 fun t41 =>
  pLoad h_15 t41 fun t42 =>
  pField 0 g3 fun t43 =>
  pLoad h_15 t43 fun t44 =>
  pBin .sub t44 (.int .i64 1) fun t45 =>
  pIdx 1 t42 t45 fun t46 =>
  pStore 1 t46 (.int .i64 2147483647) h_15 fun u_4 h_16 =>
  sh_milestoneref07_Draft_Raw_k2 P g3 d0 t2 K h_16)
  (sh_milestoneref07_Draft_Raw_k2 P g3 d0 t2 K h_14))

def sh_milestoneref07_Draft_Raw (P : Program) (d0 : Value) (h : Heap) (K : Value → Heap → Prop) : Prop :=
  pBox T_api_Raw (.agg #[(.int .i64 0), (.slice none 0 0), (.slice none 0 0), (.slice none 0 0)]) h fun t2 h_1 =>
  callS P F_milestoneref07_Draft_Next [d0, (.int .i64 12)] h_1 fun t11 h_2 =>
  pBin .add (.int .i64 1) t11 fun t12 =>
  pBuild [(.int .i64 0), (.slice none 0 0), (.slice none 0 0), (.slice none 0 0)] [(0, 1, t12)] fun t13 =>
  pBox T_api_Raw (.agg #[(.int .i64 0), (.slice none 0 0), (.slice none 0 0), (.slice none 0 0)]) h_2 fun g3 h_3 =>
  pStore 4 g3 t13 h_3 fun u h_4 =>
  LoopH (σ := Vals [4]) (fun x hh ZZ => sh_milestoneref07_Draft_Raw_L1 P g3 d0 t2 K x.1 hh (fun a0 hz => ZZ (a0, ()) hz)) ((.int .i64 0), ()) h_4

set_option maxRecDepth 100000 in
theorem lk_milestoneref07_Draft_Raw (d0 : Value) {h : Heap} {K : Value → Heap → Prop} (H : sh_milestoneref07_Draft_Raw Tryz.prog d0 h K) : CallsH Tryz.prog F_milestoneref07_Draft_Raw [d0].toArray h K :=
  callsH_of (ann := (annG (Tryz.f27.body.getD .skip) 0 [(4, [4]), (16, [7]), (22, [8]), (26, [9])]).1) (c := Tryz.f27.body.getD .skip) Tryz.func27 (by kernel_rfl) (by kernel_rfl) (by kernel_rfl) (of_decide_eq_true (by kernel_rfl))
    (Eq.mpr (by kernel_rfl) H)

end Go.Proofs.YtjamcgoebnafkaaGreatDoor

namespace Go.Proofs.YtjamcgoebnafkaaGreatDoor
open Go Go.Mh
set_option maxHeartbeats 0
set_option linter.unusedVariables false

/-! milestone/flood.flood -/

def sh_flood_flood_k1 (P : Program) (t8 : Value) (K : Value → Heap → Prop) (h_2 : Heap) : Prop :=
  pBuild [(.slice none 0 0), (.slice none 0 0), (.slice none 0 0)] [] fun t27 =>
  pStore 3 t8 t27 h_2 fun u h_3 =>
  pLoadN 3 h_3 t8 fun res =>
  K res h_3

def sh_flood_flood_B3 (P : Program) (h_28 : Heap) (r9 key11_1 : Value) (L : Loop) (t101 t102 : Value) (h_29 : Heap) (R : Exit → Heap → Prop) : Prop :=
  pBox T_api_Arc (.agg #[(.int .i64 0), (.int .i64 0), (.int .i64 0)]) h_29 fun a14 h_30 =>
  pStore 3 a14 t102 h_30 fun u_6 h_31 =>
  beginR (h_28.size + 1) L h_31 fun h_32 =>
  pLoad h_32 r9 fun t103 =>
  pField 1 a14 fun t104 =>
  pLoad h_32 t104 fun t105 =>
  pLoad h_32 key11_1 fun t107 =>
  pField 2 a14 fun t108 =>
  pLoad h_32 t108 fun t109 =>
  pBin .add t107 t109 fun t110 =>
  callS P F_flood_run_reach [t103, t105, t101, t110] h_32 fun t111 h_33 =>
  R .normal h_33

def sh_flood_flood_L2 (P : Program) (r9 next2 n0 end3 t8 : Value) (K : Value → Heap → Prop) (m : List Nat) (v10 key11_1 is12 : Value) (h_21 : Heap) (Z : List Nat → Value → Value → Value → Heap → Prop) : Prop :=
  ifV is12
  (pLoad h_21 r9 fun t68 =>
  pNil t68 fun t69 =>
  pField 4 t69 fun t70 =>
  pLoad h_21 t70 fun t71 =>
  pLook (.int .i64) (.int .i64 0) false h_21 t71 v10 fun t73 =>
  pBin .add t73 (.int .i64 1) fun t74 =>
  pMapSet (.int .i64) t71 v10 t74 h_21 fun u_3 h_22 =>
  pLoad h_22 r9 fun t75 =>
  pNil t75 fun t76 =>
  pField 1 t76 fun t77 =>
  pField 0 t77 fun t78 =>
  pLoad h_22 t78 fun t79 =>
  pLoad h_22 key11_1 fun t81 =>
  pIdx 1 t79 v10 fun t82 =>
  pStore 1 t82 t81 h_22 fun u_4 h_23 =>
  pLoad h_23 r9 fun t83 =>
  pLoad h_23 r9 fun t84 =>
  pNil t84 fun t85 =>
  pField 1 t85 fun t86 =>
  pField 2 t86 fun t87 =>
  pLoad h_23 t87 fun t88 =>
  pBuildSlice T_int (zerosL [(.int .i64 0)] 1) [(0, 1, v10)] 1 h_23 fun t90 h_24 =>
  pAppend T_int 1 8 [(.int .i64 0)] t88 t90 h_24 fun t91 h_25 =>
  (pLoad h_25 r9 fun t83_1 =>
  t83_1 = t83) ∧
  (pNil t83 fun t92 =>
  pField 1 t92 fun t93 =>
  pField 2 t93 fun t94 =>
  pStore 1 t94 t91 h_25 fun u_5 h_26 =>
  callV P next2 [v10].toArray h_26 fun t98 h_27 =>
  callS P F_flood_arcs [n0, t98, end3] h_27 fun t100 h_28 =>
  rangeH P t100 [101, 102] (h_28.size + 1) (h_28.push (.deferred (some []))) (fun L x hh R => sh_flood_flood_B3 P h_28 r9 key11_1 L x.1 x.2.1 hh R)
  (fun h_34 => pLoad h_34 key11_1 fun t112 =>
  pBox T_int64 (.int .i64 0) h_34 fun key11_2 h_35 =>
  pStore 1 key11_2 t112 h_35 fun u_7 h_36 =>
  pLoad h_36 r9 fun t60 =>
  pNil t60 fun t61 =>
  pField 0 t61 fun t62 =>
  pLoad h_36 t62 fun t63 =>
  callS P F_heap_Heap_Pop [t63] h_36 fun t64 h_37 =>
  pExt t64 0 fun t65 =>
  pExt t64 1 fun t66 =>
  pExt t64 2 fun t67 =>
  pStore 1 key11_2 t66 h_37 fun u_8 h_38 =>
  Z (h_28.size :: m) t65 key11_2 t67 h_38)
  (fun h_39 => takeM (h_28.size :: m) h_39 fun h_40 =>
  pLoadN 3 h_40 t8 fun res_1 =>
  K res_1 h_40)
  []))
  (pLoad h_21 r9 fun t113 =>
  pNil t113 fun t114 =>
  pField 1 t114 fun t115 =>
  pLoadN 3 h_21 t115 fun t116 =>
  pStore 3 t8 t116 h_21 fun u_9 h_41 =>
  takeM m h_41 fun h_42 =>
  pLoadN 3 h_42 t8 fun res_2 =>
  K res_2 h_42)

def sh_flood_flood (P : Program) (n0 s1 next2 end3 : Value) (h : Heap) (K : Value → Heap → Prop) : Prop :=
  pBox T_flood_Tree (.agg #[(.slice none 0 0), (.slice none 0 0), (.slice none 0 0)]) h fun t8 h_1 =>
  pEq false .ptr n0 (.pointer none) fun t16 =>
  ifV t16
  (sh_flood_flood_k1 P t8 K h_1)
  (pBin .lss s1 (.int .i64 0) fun t19 =>
  ifV t19
  (sh_flood_flood_k1 P t8 K h_1)
  (callS P F_net_Net_Nodes [n0] h_1 fun t24 h_4 =>
  pBin .geq s1 t24 fun t25 =>
  ifV t25
  (sh_flood_flood_k1 P t8 K h_4)
  (callS P F_net_Net_Nodes [n0] h_4 fun t29 h_5 =>
  callS P F_heap_New [t29] h_5 fun t30 h_6 =>
  pBuildSlice T_int64 (zerosL [(.int .i64 0)] 1) [(0, 1, (.int .i64 72057594037927936))] 1 h_6 fun t31 h_7 =>
  callS P F_net_Net_Nodes [n0] h_7 fun t33 h_8 =>
  callS P F_slices_Repeat_sl_int64_int64 [t31, t33] h_8 fun t34 h_9 =>
  pBuildSlice T_int (zerosL [(.int .i64 0)] 1) [(0, 1, (.int .i64 (-1)))] 1 h_9 fun t35 h_10 =>
  callS P F_net_Net_Nodes [n0] h_10 fun t37 h_11 =>
  callS P F_slices_Repeat_sl_int_int [t35, t37] h_11 fun t38 h_12 =>
  pBuild [(.slice none 0 0), (.slice none 0 0), (.slice none 0 0)] [(0, 1, t34), (1, 1, t38)] fun t39 =>
  pMakeMap h_12 fun t40 h_13 =>
  pBuild [(.pointer none), (.slice none 0 0), (.slice none 0 0), (.slice none 0 0), (.map none)] [(0, 1, t30), (1, 3, t39), (4, 1, t40)] fun t41 =>
  pBox T_flood_run t41 h_13 fun t42 h_14 =>
  pBox T_p_flood_run (.pointer none) h_14 fun r9 h_15 =>
  pStore 1 r9 t42 h_15 fun u_1 h_16 =>
  pLoad h_16 r9 fun t43 =>
  pNil t43 fun t44 =>
  pField 0 t44 fun t45 =>
  pLoad h_16 t45 fun t46 =>
  callS P F_heap_Heap_Push [t46, s1, (.int .i64 0)] h_16 fun t48 h_17 =>
  pLoad h_17 r9 fun t50 =>
  pNil t50 fun t51 =>
  pField 0 t51 fun t52 =>
  pLoad h_17 t52 fun t53 =>
  callS P F_heap_Heap_Pop [t53] h_17 fun t54 h_18 =>
  pExt t54 0 fun t55 =>
  pExt t54 1 fun t56 =>
  pExt t54 2 fun t57 =>
  pBox T_int64 (.int .i64 0) h_18 fun key11 h_19 =>
  pStore 1 key11 t56 h_19 fun u_2 h_20 =>
  LoopH (σ := List Nat × Vals [10, 11, 12]) (fun x hh ZZ => sh_flood_flood_L2 P r9 next2 n0 end3 t8 K x.1 x.2.1 x.2.2.1 x.2.2.2.1 hh (fun mz a0 a1 a2 hz => ZZ (mz, (a0, (a1, (a2, ())))) hz)) ([], (t55, (key11, (t57, ())))) h_20)))

set_option maxRecDepth 100000 in
theorem lk_flood_flood (n0 s1 next2 end3 : Value) {h : Heap} {K : Value → Heap → Prop} (H : sh_flood_flood Tryz.prog n0 s1 next2 end3 h K) : CallsH Tryz.prog F_flood_flood [n0, s1, next2, end3].toArray h K :=
  callsH_of (ann := (annG (Tryz.f28.body.getD .skip) 0 [(8, [10, 11, 12])]).1) (c := Tryz.f28.body.getD .skip) Tryz.func28 (by kernel_rfl) (by kernel_rfl) (by kernel_rfl) (of_decide_eq_true (by kernel_rfl))
    (Eq.mpr (by kernel_rfl) H)

/-! (*milestone/net.Net).Out -/

def sh_net_Net_Out (P : Program) (n0 v1 : Value) (h : Heap) (K : Value → Heap → Prop) : Prop :=
  pEq false .ptr n0 (.pointer none) fun t8 =>
  ifV t8
  (K (.slice none 0 0) h)
  (pNil n0 fun t11 =>
  pField 4 t11 fun t12 =>
  pLoad h t12 fun t13 =>
  callS P F_net_one_sl_int [t13, v1] h fun t15 h_1 =>
  pExt t15 0 fun t16 =>
  pExt t15 1 fun t17 =>
  callS P F_slices_Clone_sl_int_int [t16] h_1 fun t19 h_2 =>
  K t19 h_2)

set_option maxRecDepth 100000 in
theorem lk_net_Net_Out (n0 v1 : Value) {h : Heap} {K : Value → Heap → Prop} (H : sh_net_Net_Out Tryz.prog n0 v1 h K) : CallsH Tryz.prog F_net_Net_Out [n0, v1].toArray h K :=
  callsH_of (ann := (annG (Tryz.f29.body.getD .skip) 0 []).1) (c := Tryz.f29.body.getD .skip) Tryz.func29 (by kernel_rfl) (by kernel_rfl) (by kernel_rfl) (of_decide_eq_true (by kernel_rfl))
    (Eq.mpr (by kernel_rfl) H)

/-! milestone/flood.From$1 -/

def sh_flood_From_1 (P : Program) (a0 : Value) (h : Heap) (K : Value → Heap → Prop) : Prop :=
  pBox T_api_Arc a0 h fun a1 h_1 =>
  pField 1 a1 fun t3 =>
  pLoad h_1 t3 fun t4 =>
  K t4 h_1

set_option maxRecDepth 100000 in
theorem lk_flood_From_1 (a0 : Value) {h : Heap} {K : Value → Heap → Prop} (H : sh_flood_From_1 Tryz.prog a0 h K) : CallsH Tryz.prog F_flood_From_1 [a0].toArray h K :=
  callsH_of (ann := (annG (Tryz.f30.body.getD .skip) 0 []).1) (c := Tryz.f30.body.getD .skip) Tryz.func30 (by kernel_rfl) (by kernel_rfl) (by kernel_rfl) (of_decide_eq_true (by kernel_rfl))
    (Eq.mpr (by kernel_rfl) H)

/-! (*milestone/net.Net).In -/

def sh_net_Net_In (P : Program) (n0 v1 : Value) (h : Heap) (K : Value → Heap → Prop) : Prop :=
  pEq false .ptr n0 (.pointer none) fun t8 =>
  ifV t8
  (K (.slice none 0 0) h)
  (pNil n0 fun t11 =>
  pField 5 t11 fun t12 =>
  pLoad h t12 fun t13 =>
  callS P F_net_one_sl_int [t13, v1] h fun t15 h_1 =>
  pExt t15 0 fun t16 =>
  pExt t15 1 fun t17 =>
  callS P F_slices_Clone_sl_int_int [t16] h_1 fun t19 h_2 =>
  K t19 h_2)

set_option maxRecDepth 100000 in
theorem lk_net_Net_In (n0 v1 : Value) {h : Heap} {K : Value → Heap → Prop} (H : sh_net_Net_In Tryz.prog n0 v1 h K) : CallsH Tryz.prog F_net_Net_In [n0, v1].toArray h K :=
  callsH_of (ann := (annG (Tryz.f31.body.getD .skip) 0 []).1) (c := Tryz.f31.body.getD .skip) Tryz.func31 (by kernel_rfl) (by kernel_rfl) (by kernel_rfl) (of_decide_eq_true (by kernel_rfl))
    (Eq.mpr (by kernel_rfl) H)

/-! milestone/flood.To$1 -/

def sh_flood_To_1 (P : Program) (a0 : Value) (h : Heap) (K : Value → Heap → Prop) : Prop :=
  pBox T_api_Arc a0 h fun a1 h_1 =>
  pField 0 a1 fun t3 =>
  pLoad h_1 t3 fun t4 =>
  K t4 h_1

set_option maxRecDepth 100000 in
theorem lk_flood_To_1 (a0 : Value) {h : Heap} {K : Value → Heap → Prop} (H : sh_flood_To_1 Tryz.prog a0 h K) : CallsH Tryz.prog F_flood_To_1 [a0].toArray h K :=
  callsH_of (ann := (annG (Tryz.f32.body.getD .skip) 0 []).1) (c := Tryz.f32.body.getD .skip) Tryz.func32 (by kernel_rfl) (by kernel_rfl) (by kernel_rfl) (of_decide_eq_true (by kernel_rfl))
    (Eq.mpr (by kernel_rfl) H)

/-! milestone/path.reached -/

def sh_path_reached (P : Program) (t0 v1 : Value) (h : Heap) (K : Value → Heap → Prop) : Prop :=
  pBox T_flood_Tree t0 h fun t2 h_1 =>
  pBin .geq v1 (.int .i64 0) fun t6 =>
  ifV t6
  (pField 0 t2 fun t9 =>
  pLoad h_1 t9 fun t10 =>
  pLen t10 fun t11 =>
  pBin .lss v1 t11 fun t12 =>
  ifV t12
  (pField 0 t2 fun t15 =>
  pLoad h_1 t15 fun t16 =>
  pIdx 1 t16 v1 fun t18 =>
  pLoad h_1 t18 fun t19 =>
  pBin .geq t19 (.int .i64 0) fun t20 =>
  ifV t20
  (pField 0 t2 fun t23 =>
  pLoad h_1 t23 fun t24 =>
  pIdx 1 t24 v1 fun t26 =>
  pLoad h_1 t26 fun t27 =>
  pBin .lss t27 (.int .i64 72057594037927936) fun t28 =>
  K t28 h_1)
  (K (.bool false) h_1))
  (K (.bool false) h_1))
  (K (.bool false) h_1)

set_option maxRecDepth 100000 in
theorem lk_path_reached (t0 v1 : Value) {h : Heap} {K : Value → Heap → Prop} (H : sh_path_reached Tryz.prog t0 v1 h K) : CallsH Tryz.prog F_path_reached [t0, v1].toArray h K :=
  callsH_of (ann := (annG (Tryz.f33.body.getD .skip) 0 []).1) (c := Tryz.f33.body.getD .skip) Tryz.func33 (by kernel_rfl) (by kernel_rfl) (by kernel_rfl) (of_decide_eq_true (by kernel_rfl))
    (Eq.mpr (by kernel_rfl) H)

/-! milestone/path.all -/

def sh_path_all_k1 (P : Program) (t8 t9 : Value) (K : Value → Heap → Prop) (h_5 : Heap) : Prop :=
  pStore 1 t8 (.slice none 0 0) h_5 fun u h_6 =>
  pStore 1 t9 (.bool false) h_6 fun u_1 h_7 =>
  pLoad h_7 t8 fun res =>
  pLoad h_7 t9 fun res_1 =>
  K (.tuple #[res, res_1]) h_7

def sh_path_all_k3 (P : Program) (t8 t9 : Value) (R : Exit → Heap → Prop) (h_18 : Heap) : Prop :=
  pStore 1 t8 (.slice none 0 0) h_18 fun u_4 h_19 =>
  pStore 1 t9 (.bool false) h_19 fun u_5 h_20 =>
  R .ret h_20

def sh_path_all_B2 (P : Program) (h_15 : Heap) (t8 t9 many11 room10 : Value) (L : Loop) (t32 t33 : Value) (h_16 : Heap) (R : Exit → Heap → Prop) : Prop :=
  beginR (h_15.size + 1) L h_16 fun h_17 =>
  pUn .not t33 fun t35 =>
  ifV t35
  (sh_path_all_k3 P t8 t9 R h_17)
  (pLoad h_17 many11 fun t37 =>
  pBin .add t37 (.int .i64 1) fun t38 =>
  pLoad h_17 room10 fun t39 =>
  pLen t39 fun t40 =>
  pBin .geq t38 t40 fun t41 =>
  ifV t41
  (sh_path_all_k3 P t8 t9 R h_17)
  (pLoad h_17 room10 fun t43 =>
  pLoad h_17 many11 fun t44 =>
  pIdx 1 t43 t44 fun t46 =>
  pStore 1 t46 t32 h_17 fun u_6 h_21 =>
  pLoad h_21 many11 fun t47 =>
  pBin .add t47 (.int .i64 1) fun t48 =>
  pStore 1 many11 t48 h_21 fun u_7 h_22 =>
  R .normal h_22))

def sh_path_all (P : Program) (n0 t1 v2 ends3 : Value) (h : Heap) (K : Value → Heap → Prop) : Prop :=
  pBox T_flood_Tree t1 h fun t5 h_1 =>
  pBox T_sl_int (.slice none 0 0) h_1 fun t8 h_2 =>
  pBox T_bool (.bool false) h_2 fun t9 h_3 =>
  pLoadN 3 h_3 t5 fun t14 =>
  callS P F_path_reached [t14, v2] h_3 fun t16 h_4 =>
  pUn .not t16 fun t17 =>
  ifV t17
  (sh_path_all_k1 P t8 t9 K h_4)
  (callS P F_net_Net_Nodes [n0] h_4 fun t21 h_8 =>
  pBin .geq v2 t21 fun t22 =>
  ifV t22
  (sh_path_all_k1 P t8 t9 K h_8)
  (callS P F_net_Net_Nodes [n0] h_8 fun t25 h_9 =>
  pMakeSlice T_int 8 [(.int .i64 0)] t25 t25 h_9 fun t26 h_10 =>
  pBox T_sl_int (.slice none 0 0) h_10 fun room10 h_11 =>
  pStore 1 room10 t26 h_11 fun u_2 h_12 =>
  pBox T_int (.int .i64 0) h_12 fun many11 h_13 =>
  pStore 1 many11 (.int .i64 0) h_13 fun u_3 h_14 =>
  pLoadN 3 h_14 t5 fun t28 =>
  callS P F_path_follow [n0, t28, v2, ends3] h_14 fun t31 h_15 =>
  rangeH P t31 [32, 33] (h_15.size + 1) (h_15.push (.deferred (some []))) (fun L x hh R => sh_path_all_B2 P h_15 t8 t9 many11 room10 L x.1 x.2.1 hh R)
  (fun h_23 => pLoad h_23 room10 fun t49 =>
  pLoad h_23 many11 fun t50 =>
  pLoad h_23 many11 fun t51 =>
  pSlice 1 t49 none (some t50) (some t51) fun t52 =>
  pStore 1 t8 t52 h_23 fun u_8 h_24 =>
  pStore 1 t9 (.bool true) h_24 fun u_9 h_25 =>
  takeM (h_15.size :: []) h_25 fun h_26 =>
  pLoad h_26 t8 fun res_2 =>
  pLoad h_26 t9 fun res_3 =>
  K (.tuple #[res_2, res_3]) h_26)
  (fun h_27 => takeM (h_15.size :: []) h_27 fun h_28 =>
  pLoad h_28 t8 fun res_4 =>
  pLoad h_28 t9 fun res_5 =>
  K (.tuple #[res_4, res_5]) h_28)
  []))

set_option maxRecDepth 100000 in
theorem lk_path_all (n0 t1 v2 ends3 : Value) {h : Heap} {K : Value → Heap → Prop} (H : sh_path_all Tryz.prog n0 t1 v2 ends3 h K) : CallsH Tryz.prog F_path_all [n0, t1, v2, ends3].toArray h K :=
  callsH_of (ann := (annG (Tryz.f34.body.getD .skip) 0 []).1) (c := Tryz.f34.body.getD .skip) Tryz.func34 (by kernel_rfl) (by kernel_rfl) (by kernel_rfl) (of_decide_eq_true (by kernel_rfl))
    (Eq.mpr (by kernel_rfl) H)

/-! milestone/path.Ahead$1 -/

def sh_path_Ahead_1 (P : Program) (a0 : Value) (h : Heap) (K : Value → Heap → Prop) : Prop :=
  pBox T_api_Arc a0 h fun a1 h_1 =>
  pField 1 a1 fun t4 =>
  pLoad h_1 t4 fun t5 =>
  pField 0 a1 fun t6 =>
  pLoad h_1 t6 fun t7 =>
  K (.tuple #[t5, t7]) h_1

set_option maxRecDepth 100000 in
theorem lk_path_Ahead_1 (a0 : Value) {h : Heap} {K : Value → Heap → Prop} (H : sh_path_Ahead_1 Tryz.prog a0 h K) : CallsH Tryz.prog F_path_Ahead_1 [a0].toArray h K :=
  callsH_of (ann := (annG (Tryz.f35.body.getD .skip) 0 []).1) (c := Tryz.f35.body.getD .skip) Tryz.func35 (by kernel_rfl) (by kernel_rfl) (by kernel_rfl) (of_decide_eq_true (by kernel_rfl))
    (Eq.mpr (by kernel_rfl) H)

/-! slices.Reverse[[]int,int] -/

def sh_slices_Reverse_sl_int_int_L1 (P : Program) (s0 : Value) (K : Value → Heap → Prop) (i2 j3 : Value) (h_1 : Heap) (Z : Value → Value → Heap → Prop) : Prop :=
  pBin .lss i2 j3 fun t9 =>
  ifV t9
  (pIdx 1 s0 j3 fun t20 =>
  pLoad h_1 t20 fun t21 =>
  pIdx 1 s0 i2 fun t24 =>
  pLoad h_1 t24 fun t25 =>
  pIdx 1 s0 i2 fun t26 =>
  pStore 1 t26 t21 h_1 fun u h_2 =>
  pIdx 1 s0 j3 fun t27 =>
  pStore 1 t27 t25 h_2 fun u_1 h_3 =>
  pBin .add i2 (.int .i64 1) fun t11 =>
  pBin .sub j3 (.int .i64 1) fun t13 =>
  Z t11 t13 h_3)
  (K (.tuple #[]) h_1)

def sh_slices_Reverse_sl_int_int (P : Program) (s0 : Value) (h : Heap) (K : Value → Heap → Prop) : Prop :=
  pLen s0 fun t5 =>
  pBin .sub t5 (.int .i64 1) fun t6 =>
  LoopH (σ := Vals [2, 3]) (fun x hh ZZ => sh_slices_Reverse_sl_int_int_L1 P s0 K x.1 x.2.1 hh (fun a0 a1 hz => ZZ (a0, (a1, ())) hz)) ((.int .i64 0), (t6, ())) h

set_option maxRecDepth 100000 in
theorem lk_slices_Reverse_sl_int_int (s0 : Value) {h : Heap} {K : Value → Heap → Prop} (H : sh_slices_Reverse_sl_int_int Tryz.prog s0 h K) : CallsH Tryz.prog F_slices_Reverse_sl_int_int [s0].toArray h K :=
  callsH_of (ann := (annG (Tryz.f36.body.getD .skip) 0 [(1, [2, 3])]).1) (c := Tryz.f36.body.getD .skip) Tryz.func36 (by kernel_rfl) (by kernel_rfl) (by kernel_rfl) (of_decide_eq_true (by kernel_rfl))
    (Eq.mpr (by kernel_rfl) H)

/-! milestone/path.Behind$1 -/

def sh_path_Behind_1 (P : Program) (a0 : Value) (h : Heap) (K : Value → Heap → Prop) : Prop :=
  pBox T_api_Arc a0 h fun a1 h_1 =>
  pField 0 a1 fun t4 =>
  pLoad h_1 t4 fun t5 =>
  pField 1 a1 fun t6 =>
  pLoad h_1 t6 fun t7 =>
  K (.tuple #[t5, t7]) h_1

set_option maxRecDepth 100000 in
theorem lk_path_Behind_1 (a0 : Value) {h : Heap} {K : Value → Heap → Prop} (H : sh_path_Behind_1 Tryz.prog a0 h K) : CallsH Tryz.prog F_path_Behind_1 [a0].toArray h K :=
  callsH_of (ann := (annG (Tryz.f37.body.getD .skip) 0 []).1) (c := Tryz.f37.body.getD .skip) Tryz.func37 (by kernel_rfl) (by kernel_rfl) (by kernel_rfl) (of_decide_eq_true (by kernel_rfl))
    (Eq.mpr (by kernel_rfl) H)

/-! slices.Concat[[]int,int] -/

def sh_slices_Concat_sl_int_int_L2 (P : Program) (t26 slices0 : Value) (K : Value → Heap → Prop) (newslice6 t27 : Value) (h_3 : Heap) (Z_1 : Value → Value → Heap → Prop) : Prop :=
  pBin .lss t27 t26 fun t28 =>
  ifV t28
  (pIdx 1 slices0 t27 fun t29 =>
  pLoad h_3 t29 fun t30 =>
  pAppend T_int 1 8 [(.int .i64 0)] newslice6 t30 h_3 fun t33 h_4 =>
  pBin .add t27 (.int .i64 1) fun t34 =>
  Z_1 t33 t34 h_4)
  (K newslice6 h_3)

def sh_slices_Concat_sl_int_int_L1 (P : Program) (t10 slices0 : Value) (K : Value → Heap → Prop) (size3 t11 : Value) (h_1 : Heap) (Z : Value → Value → Heap → Prop) : Prop :=
  pBin .lss t11 t10 fun t12 =>
  ifV t12
  (pIdx 1 slices0 t11 fun t13 =>
  pLoad h_1 t13 fun t14 =>
  pLen t14 fun t17 =>
  pBin .add size3 t17 fun t18 =>
  pBin .lss t18 (.int .i64 0) fun t20 =>
  ifV t20
  (False)
  (pBin .add t11 (.int .i64 1) fun t22 =>
  Z t18 t22 h_1))
  (callS P F_slices_Grow_sl_int_int [(.slice none 0 0), size3] h_1 fun t24 h_2 =>
  pLen slices0 fun t26 =>
  LoopH (σ := Vals [6, 27]) (fun x hh ZZ => sh_slices_Concat_sl_int_int_L2 P t26 slices0 K x.1 x.2.1 hh (fun a0 a1 hz => ZZ (a0, (a1, ())) hz)) (t24, ((.int .i64 0), ())) h_2)

def sh_slices_Concat_sl_int_int (P : Program) (slices0 : Value) (h : Heap) (K : Value → Heap → Prop) : Prop :=
  pLen slices0 fun t10 =>
  LoopH (σ := Vals [3, 11]) (fun x hh ZZ => sh_slices_Concat_sl_int_int_L1 P t10 slices0 K x.1 x.2.1 hh (fun a0 a1 hz => ZZ (a0, (a1, ())) hz)) ((.int .i64 0), ((.int .i64 0), ())) h

set_option maxRecDepth 100000 in
theorem lk_slices_Concat_sl_int_int (slices0 : Value) {h : Heap} {K : Value → Heap → Prop} (H : sh_slices_Concat_sl_int_int Tryz.prog slices0 h K) : CallsH Tryz.prog F_slices_Concat_sl_int_int [slices0].toArray h K :=
  callsH_of (ann := (annG (Tryz.f38.body.getD .skip) 0 [(4, [3, 11]), (14, [6, 27])]).1) (c := Tryz.f38.body.getD .skip) Tryz.func38 (by kernel_rfl) (by kernel_rfl) (by kernel_rfl) (of_decide_eq_true (by kernel_rfl))
    (Eq.mpr (by kernel_rfl) H)

/-! milestone/graph.Check -/

def sh_graph_Check (P : Program) (r0 : Value) (h : Heap) (K : Value → Heap → Prop) : Prop :=
  pBox T_api_Raw r0 h fun r1 h_1 =>
  pBox T_error .nilIface h_1 fun err2 h_2 =>
  pLoadN 4 h_2 r1 fun t4 =>
  callS P F_graph_look [t4] h_2 fun t5 h_3 =>
  pStore 1 err2 .nilIface h_3 fun u h_4 =>
  DeferS P F_graph_Check_1 #[err2] h_4 fun h_5 =>
  pLoad h_5 err2 fun res =>
  K res h_5

set_option maxRecDepth 100000 in
theorem lk_graph_Check (r0 : Value) {h : Heap} {K : Value → Heap → Prop} (H : sh_graph_Check Tryz.prog r0 h K) : CallsH Tryz.prog F_graph_Check [r0].toArray h K :=
  callsH_defer (g := F_graph_Check_1) (A := cL (Tryz.f39.body.getD .skip)) (B := cR (cR (Tryz.f39.body.getD .skip))) (annA := (annG (cL (Tryz.f39.body.getD .skip)) 0 []).1) (annB := (annG (cR (cR (Tryz.f39.body.getD .skip))) 0 []).1) (id := cId (cL (cR (Tryz.f39.body.getD .skip)))) (o1 := cO 0 (cL (cR (Tryz.f39.body.getD .skip)))) (o2 := cO 1 (cL (cR (Tryz.f39.body.getD .skip)))) (s := 3) (caps := #[(.tmp 2)]) (c := { callee := .value (.tmp 3), args := #[], argTypes := #[] })
    Tryz.func39 (by kernel_rfl) (by kernel_rfl) (by kernel_rfl) (of_decide_eq_true (by kernel_rfl)) (by kernel_rfl) (by kernel_rfl) (by kernel_rfl) (by kernel_rfl) rfl rfl (by kernel_rfl) (by kernel_rfl)
    (Eq.mpr (by kernel_rfl) H)

/-! milestone/net.of -/

def sh_net_of (P : Program) (raw0 : Value) (h : Heap) (K : Value → Heap → Prop) : Prop :=
  pBox T_api_Raw raw0 h fun raw1 h_1 =>
  pLoadN 4 h_1 raw1 fun t5 =>
  pBuild [(.int .i64 0), (.slice none 0 0), (.slice none 0 0), (.slice none 0 0), (.slice none 0 0), (.slice none 0 0)] [(0, 4, t5)] fun t6 =>
  pBox T_net_Net t6 h_1 fun t7 h_2 =>
  callV P (.func (.func F_net_of_1) #[] #[raw1]) [(.func (.func F_net_of_2) #[] #[])].toArray h_2 fun t12 h_3 =>
  callV P (.func (.func F_net_of_1) #[] #[raw1]) [(.func (.func F_net_of_3) #[] #[])].toArray h_3 fun t14 h_4 =>
  pNil t7 fun t15 =>
  pField 4 t15 fun t16 =>
  pStore 1 t16 t12 h_4 fun u h_5 =>
  pNil t7 fun t17 =>
  pField 5 t17 fun t18 =>
  pStore 1 t18 t14 h_5 fun u_1 h_6 =>
  K t7 h_6

set_option maxRecDepth 100000 in
theorem lk_net_of (raw0 : Value) {h : Heap} {K : Value → Heap → Prop} (H : sh_net_of Tryz.prog raw0 h K) : CallsH Tryz.prog F_net_of [raw0].toArray h K :=
  callsH_of (ann := (annG (Tryz.f41.body.getD .skip) 0 []).1) (c := Tryz.f41.body.getD .skip) Tryz.func41 (by kernel_rfl) (by kernel_rfl) (by kernel_rfl) (of_decide_eq_true (by kernel_rfl))
    (Eq.mpr (by kernel_rfl) H)

/-! milestone/net.own -/

def sh_net_own (P : Program) (raw0 : Value) (h : Heap) (K : Value → Heap → Prop) : Prop :=
  pBox T_api_Raw raw0 h fun raw1 h_1 =>
  pBox T_api_Raw (.agg #[(.int .i64 0), (.slice none 0 0), (.slice none 0 0), (.slice none 0 0)]) h_1 fun t2 h_2 =>
  pField 1 raw1 fun t3 =>
  pLoad h_2 t3 fun t4 =>
  pField 2 raw1 fun t6 =>
  pLoad h_2 t6 fun t7 =>
  pField 3 raw1 fun t9 =>
  pLoad h_2 t9 fun t10 =>
  callS P F_slices_Clone_sl_int64_int64 [t4] h_2 fun t5 h_3 =>
  (pLoad h_3 t6 fun t7_1 =>
  t7_1 = t7) ∧
  (pLoad h_3 t9 fun t10_1 =>
  t10_1 = t10) ∧
  (pField 1 raw1 fun t12 =>
  callS P F_slices_Clone_sl_int64_int64 [t7] h_3 fun t8 h_4 =>
  (pLoad h_4 t9 fun t10_2 =>
  t10_2 = t10) ∧
  (callS P F_slices_Clone_sl_api_Arc_api_Arc [t10] h_4 fun t11 h_5 =>
  pStore 1 t12 t5 h_5 fun u h_6 =>
  pField 2 raw1 fun t13 =>
  pStore 1 t13 t8 h_6 fun u_1 h_7 =>
  pField 3 raw1 fun t14 =>
  pStore 1 t14 t11 h_7 fun u_2 h_8 =>
  pLoadN 4 h_8 raw1 fun t15 =>
  pStore 4 t2 t15 h_8 fun u_3 h_9 =>
  pLoadN 4 h_9 t2 fun res =>
  K res h_9))

set_option maxRecDepth 100000 in
theorem lk_net_own (raw0 : Value) {h : Heap} {K : Value → Heap → Prop} (H : sh_net_own Tryz.prog raw0 h K) : CallsH Tryz.prog F_net_own [raw0].toArray h K :=
  callsH_of (ann := (annG (Tryz.f42.body.getD .skip) 0 []).1) (c := Tryz.f42.body.getD .skip) Tryz.func42 (by kernel_rfl) (by kernel_rfl) (by kernel_rfl) (of_decide_eq_true (by kernel_rfl))
    (Eq.mpr (by kernel_rfl) H)

/-! milestone/walk.node -/

def sh_walk_node (P : Program) (n0 v1 : Value) (h : Heap) (K : Value → Heap → Prop) : Prop :=
  pBin .geq v1 (.int .i64 0) fun t6 =>
  ifV t6
  (callS P F_net_Net_Nodes [n0] h fun t10 h_1 =>
  pBin .lss v1 t10 fun t11 =>
  K t11 h_1)
  (K (.bool false) h)

set_option maxRecDepth 100000 in
theorem lk_walk_node (n0 v1 : Value) {h : Heap} {K : Value → Heap → Prop} (H : sh_walk_node Tryz.prog n0 v1 h K) : CallsH Tryz.prog F_walk_node [n0, v1].toArray h K :=
  callsH_of (ann := (annG (Tryz.f43.body.getD .skip) 0 []).1) (c := Tryz.f43.body.getD .skip) Tryz.func43 (by kernel_rfl) (by kernel_rfl) (by kernel_rfl) (of_decide_eq_true (by kernel_rfl))
    (Eq.mpr (by kernel_rfl) H)

/-! milestone/walk.steps -/

def sh_walk_steps (P : Program) (n0 s1 arcs2 : Value) (h : Heap) (K : Value → Heap → Prop) : Prop :=
  pBox T_p_net_Net n0 h fun n3 h_1 =>
  pBox T_int s1 h_1 fun s4 h_2 =>
  pBox T_sl_int arcs2 h_2 fun arcs5 h_3 =>
  K (.func (.func F_walk_steps_1) #[] #[arcs5, n3, s4]) h_3

set_option maxRecDepth 100000 in
theorem lk_walk_steps (n0 s1 arcs2 : Value) {h : Heap} {K : Value → Heap → Prop} (H : sh_walk_steps Tryz.prog n0 s1 arcs2 h K) : CallsH Tryz.prog F_walk_steps [n0, s1, arcs2].toArray h K :=
  callsH_of (ann := (annG (Tryz.f44.body.getD .skip) 0 []).1) (c := Tryz.f44.body.getD .skip) Tryz.func44 (by kernel_rfl) (by kernel_rfl) (by kernel_rfl) (of_decide_eq_true (by kernel_rfl))
    (Eq.mpr (by kernel_rfl) H)

/-! milestone/milestoneref07.Copy -/

def sh_milestoneref07_Copy_C1 (P : Program) (t2 : Value) (K : Value → Heap → Prop) (h_85 : Heap) : Prop :=
  pLoadN 4 h_85 t2 fun res =>
  K res h_85

def sh_milestoneref07_Copy (P : Program) (g0 : Value) (h : Heap) (K : Value → Heap → Prop) : Prop :=
  pBox T_api_Raw g0 h fun g1 h_1 =>
  pBox T_api_Raw (.agg #[(.int .i64 0), (.slice none 0 0), (.slice none 0 0), (.slice none 0 0)]) h_1 fun t2 h_2 =>
  cutP (σ := Vals []) (fun J =>
  pField 0 g1 fun t3 =>
  pLoad h_2 t3 fun t4 =>
  pField 1 g1 fun t6 =>
  pLoad h_2 t6 fun t7 =>
  pField 2 g1 fun t10 =>
  pLoad h_2 t10 fun t11 =>
  pField 3 g1 fun t14 =>
  pLoad h_2 t14 fun t15 =>
  (pBuildSlice T_int64 (zerosL [(.int .i64 0)] 0) [] 0 h_2 fun t5 h_3 =>
  (pAppend T_int64 1 8 [(.int .i64 0)] t5 t7 h_3 fun t8 h_4 =>
  (pLoad h_4 t3 fun t4_1 =>
  t4_1 = t4) ∧
  (pLoad h_4 t10 fun t11_1 =>
  t11_1 = t11) ∧
  (pLoad h_4 t14 fun t15_1 =>
  t15_1 = t15) ∧
  ((pBuildSlice T_int64 (zerosL [(.int .i64 0)] 0) [] 0 h_4 fun t9 h_5 =>
  (pAppend T_int64 1 8 [(.int .i64 0)] t9 t11 h_5 fun t12 h_6 =>
  (pLoad h_6 t3 fun t4_2 =>
  t4_2 = t4) ∧
  (pLoad h_6 t14 fun t15_2 =>
  t15_2 = t15) ∧
  (pBuildSlice T_api_Arc (zerosL [(.int .i64 0), (.int .i64 0), (.int .i64 0)] 0) [] 0 h_6 fun t13 h_7 =>
  pAppend T_api_Arc 3 24 [(.int .i64 0), (.int .i64 0), (.int .i64 0)] t13 t15 h_7 fun t16 h_8 =>
  (pLoad h_8 t3 fun t4_3 =>
  t4_3 = t4) ∧
  (pBuild [(.int .i64 0), (.slice none 0 0), (.slice none 0 0), (.slice none 0 0)] [(0, 1, t4), (1, 1, t8), (2, 1, t12), (3, 1, t16)] fun t17 =>
  pStore 4 t2 t17 h_8 fun u h_9 =>
  J () h_9))) ∧
  (pBuildSlice T_api_Arc (zerosL [(.int .i64 0), (.int .i64 0), (.int .i64 0)] 0) [] 0 h_5 fun t13_1 h_10 =>
  pAppend T_int64 1 8 [(.int .i64 0)] t9 t11 h_10 fun t12_1 h_11 =>
  (pLoad h_11 t3 fun t4_4 =>
  t4_4 = t4) ∧
  (pLoad h_11 t14 fun t15_3 =>
  t15_3 = t15) ∧
  (pAppend T_api_Arc 3 24 [(.int .i64 0), (.int .i64 0), (.int .i64 0)] t13_1 t15 h_11 fun t16_1 h_12 =>
  (pLoad h_12 t3 fun t4_5 =>
  t4_5 = t4) ∧
  (pBuild [(.int .i64 0), (.slice none 0 0), (.slice none 0 0), (.slice none 0 0)] [(0, 1, t4), (1, 1, t8), (2, 1, t12_1), (3, 1, t16_1)] fun t17_1 =>
  pStore 4 t2 t17_1 h_12 fun u_1 h_13 =>
  J () h_13)))) ∧
  (pBuildSlice T_api_Arc (zerosL [(.int .i64 0), (.int .i64 0), (.int .i64 0)] 0) [] 0 h_4 fun t13_2 h_14 =>
  pBuildSlice T_int64 (zerosL [(.int .i64 0)] 0) [] 0 h_14 fun t9_1 h_15 =>
  pAppend T_int64 1 8 [(.int .i64 0)] t9_1 t11 h_15 fun t12_2 h_16 =>
  (pLoad h_16 t3 fun t4_6 =>
  t4_6 = t4) ∧
  (pLoad h_16 t14 fun t15_4 =>
  t15_4 = t15) ∧
  (pAppend T_api_Arc 3 24 [(.int .i64 0), (.int .i64 0), (.int .i64 0)] t13_2 t15 h_16 fun t16_2 h_17 =>
  (pLoad h_17 t3 fun t4_7 =>
  t4_7 = t4) ∧
  (pBuild [(.int .i64 0), (.slice none 0 0), (.slice none 0 0), (.slice none 0 0)] [(0, 1, t4), (1, 1, t8), (2, 1, t12_2), (3, 1, t16_2)] fun t17_2 =>
  pStore 4 t2 t17_2 h_17 fun u_2 h_18 =>
  J () h_18))))) ∧
  (pBuildSlice T_int64 (zerosL [(.int .i64 0)] 0) [] 0 h_3 fun t9_2 h_19 =>
  (pAppend T_int64 1 8 [(.int .i64 0)] t5 t7 h_19 fun t8_1 h_20 =>
  (pLoad h_20 t3 fun t4_8 =>
  t4_8 = t4) ∧
  (pLoad h_20 t10 fun t11_2 =>
  t11_2 = t11) ∧
  (pLoad h_20 t14 fun t15_5 =>
  t15_5 = t15) ∧
  ((pAppend T_int64 1 8 [(.int .i64 0)] t9_2 t11 h_20 fun t12_3 h_21 =>
  (pLoad h_21 t3 fun t4_9 =>
  t4_9 = t4) ∧
  (pLoad h_21 t14 fun t15_6 =>
  t15_6 = t15) ∧
  (pBuildSlice T_api_Arc (zerosL [(.int .i64 0), (.int .i64 0), (.int .i64 0)] 0) [] 0 h_21 fun t13_3 h_22 =>
  pAppend T_api_Arc 3 24 [(.int .i64 0), (.int .i64 0), (.int .i64 0)] t13_3 t15 h_22 fun t16_3 h_23 =>
  (pLoad h_23 t3 fun t4_10 =>
  t4_10 = t4) ∧
  (pBuild [(.int .i64 0), (.slice none 0 0), (.slice none 0 0), (.slice none 0 0)] [(0, 1, t4), (1, 1, t8_1), (2, 1, t12_3), (3, 1, t16_3)] fun t17_3 =>
  pStore 4 t2 t17_3 h_23 fun u_3 h_24 =>
  J () h_24))) ∧
  (pBuildSlice T_api_Arc (zerosL [(.int .i64 0), (.int .i64 0), (.int .i64 0)] 0) [] 0 h_20 fun t13_4 h_25 =>
  pAppend T_int64 1 8 [(.int .i64 0)] t9_2 t11 h_25 fun t12_4 h_26 =>
  (pLoad h_26 t3 fun t4_11 =>
  t4_11 = t4) ∧
  (pLoad h_26 t14 fun t15_7 =>
  t15_7 = t15) ∧
  (pAppend T_api_Arc 3 24 [(.int .i64 0), (.int .i64 0), (.int .i64 0)] t13_4 t15 h_26 fun t16_4 h_27 =>
  (pLoad h_27 t3 fun t4_12 =>
  t4_12 = t4) ∧
  (pBuild [(.int .i64 0), (.slice none 0 0), (.slice none 0 0), (.slice none 0 0)] [(0, 1, t4), (1, 1, t8_1), (2, 1, t12_4), (3, 1, t16_4)] fun t17_4 =>
  pStore 4 t2 t17_4 h_27 fun u_4 h_28 =>
  J () h_28))))) ∧
  (pBuildSlice T_api_Arc (zerosL [(.int .i64 0), (.int .i64 0), (.int .i64 0)] 0) [] 0 h_19 fun t13_5 h_29 =>
  pAppend T_int64 1 8 [(.int .i64 0)] t5 t7 h_29 fun t8_2 h_30 =>
  (pLoad h_30 t3 fun t4_13 =>
  t4_13 = t4) ∧
  (pLoad h_30 t10 fun t11_3 =>
  t11_3 = t11) ∧
  (pLoad h_30 t14 fun t15_8 =>
  t15_8 = t15) ∧
  (pAppend T_int64 1 8 [(.int .i64 0)] t9_2 t11 h_30 fun t12_5 h_31 =>
  (pLoad h_31 t3 fun t4_14 =>
  t4_14 = t4) ∧
  (pLoad h_31 t14 fun t15_9 =>
  t15_9 = t15) ∧
  (pAppend T_api_Arc 3 24 [(.int .i64 0), (.int .i64 0), (.int .i64 0)] t13_5 t15 h_31 fun t16_5 h_32 =>
  (pLoad h_32 t3 fun t4_15 =>
  t4_15 = t4) ∧
  (pBuild [(.int .i64 0), (.slice none 0 0), (.slice none 0 0), (.slice none 0 0)] [(0, 1, t4), (1, 1, t8_2), (2, 1, t12_5), (3, 1, t16_5)] fun t17_5 =>
  pStore 4 t2 t17_5 h_32 fun u_5 h_33 =>
  J () h_33))))) ∧
  (pBuildSlice T_api_Arc (zerosL [(.int .i64 0), (.int .i64 0), (.int .i64 0)] 0) [] 0 h_3 fun t13_6 h_34 =>
  (pAppend T_int64 1 8 [(.int .i64 0)] t5 t7 h_34 fun t8_3 h_35 =>
  (pLoad h_35 t3 fun t4_16 =>
  t4_16 = t4) ∧
  (pLoad h_35 t10 fun t11_4 =>
  t11_4 = t11) ∧
  (pLoad h_35 t14 fun t15_10 =>
  t15_10 = t15) ∧
  (pBuildSlice T_int64 (zerosL [(.int .i64 0)] 0) [] 0 h_35 fun t9_3 h_36 =>
  pAppend T_int64 1 8 [(.int .i64 0)] t9_3 t11 h_36 fun t12_6 h_37 =>
  (pLoad h_37 t3 fun t4_17 =>
  t4_17 = t4) ∧
  (pLoad h_37 t14 fun t15_11 =>
  t15_11 = t15) ∧
  (pAppend T_api_Arc 3 24 [(.int .i64 0), (.int .i64 0), (.int .i64 0)] t13_6 t15 h_37 fun t16_6 h_38 =>
  (pLoad h_38 t3 fun t4_18 =>
  t4_18 = t4) ∧
  (pBuild [(.int .i64 0), (.slice none 0 0), (.slice none 0 0), (.slice none 0 0)] [(0, 1, t4), (1, 1, t8_3), (2, 1, t12_6), (3, 1, t16_6)] fun t17_6 =>
  pStore 4 t2 t17_6 h_38 fun u_6 h_39 =>
  J () h_39)))) ∧
  (pBuildSlice T_int64 (zerosL [(.int .i64 0)] 0) [] 0 h_34 fun t9_4 h_40 =>
  pAppend T_int64 1 8 [(.int .i64 0)] t5 t7 h_40 fun t8_4 h_41 =>
  (pLoad h_41 t3 fun t4_19 =>
  t4_19 = t4) ∧
  (pLoad h_41 t10 fun t11_5 =>
  t11_5 = t11) ∧
  (pLoad h_41 t14 fun t15_12 =>
  t15_12 = t15) ∧
  (pAppend T_int64 1 8 [(.int .i64 0)] t9_4 t11 h_41 fun t12_7 h_42 =>
  (pLoad h_42 t3 fun t4_20 =>
  t4_20 = t4) ∧
  (pLoad h_42 t14 fun t15_13 =>
  t15_13 = t15) ∧
  (pAppend T_api_Arc 3 24 [(.int .i64 0), (.int .i64 0), (.int .i64 0)] t13_6 t15 h_42 fun t16_7 h_43 =>
  (pLoad h_43 t3 fun t4_21 =>
  t4_21 = t4) ∧
  (pBuild [(.int .i64 0), (.slice none 0 0), (.slice none 0 0), (.slice none 0 0)] [(0, 1, t4), (1, 1, t8_4), (2, 1, t12_7), (3, 1, t16_7)] fun t17_7 =>
  pStore 4 t2 t17_7 h_43 fun u_7 h_44 =>
  J () h_44)))))) ∧
  (pBuildSlice T_int64 (zerosL [(.int .i64 0)] 0) [] 0 h_2 fun t9_5 h_45 =>
  (pBuildSlice T_int64 (zerosL [(.int .i64 0)] 0) [] 0 h_45 fun t5_1 h_46 =>
  (pAppend T_int64 1 8 [(.int .i64 0)] t5_1 t7 h_46 fun t8_5 h_47 =>
  (pLoad h_47 t3 fun t4_22 =>
  t4_22 = t4) ∧
  (pLoad h_47 t10 fun t11_6 =>
  t11_6 = t11) ∧
  (pLoad h_47 t14 fun t15_14 =>
  t15_14 = t15) ∧
  ((pAppend T_int64 1 8 [(.int .i64 0)] t9_5 t11 h_47 fun t12_8 h_48 =>
  (pLoad h_48 t3 fun t4_23 =>
  t4_23 = t4) ∧
  (pLoad h_48 t14 fun t15_15 =>
  t15_15 = t15) ∧
  (pBuildSlice T_api_Arc (zerosL [(.int .i64 0), (.int .i64 0), (.int .i64 0)] 0) [] 0 h_48 fun t13_7 h_49 =>
  pAppend T_api_Arc 3 24 [(.int .i64 0), (.int .i64 0), (.int .i64 0)] t13_7 t15 h_49 fun t16_8 h_50 =>
  (pLoad h_50 t3 fun t4_24 =>
  t4_24 = t4) ∧
  (pBuild [(.int .i64 0), (.slice none 0 0), (.slice none 0 0), (.slice none 0 0)] [(0, 1, t4), (1, 1, t8_5), (2, 1, t12_8), (3, 1, t16_8)] fun t17_8 =>
  pStore 4 t2 t17_8 h_50 fun u_8 h_51 =>
  J () h_51))) ∧
  (pBuildSlice T_api_Arc (zerosL [(.int .i64 0), (.int .i64 0), (.int .i64 0)] 0) [] 0 h_47 fun t13_8 h_52 =>
  pAppend T_int64 1 8 [(.int .i64 0)] t9_5 t11 h_52 fun t12_9 h_53 =>
  (pLoad h_53 t3 fun t4_25 =>
  t4_25 = t4) ∧
  (pLoad h_53 t14 fun t15_16 =>
  t15_16 = t15) ∧
  (pAppend T_api_Arc 3 24 [(.int .i64 0), (.int .i64 0), (.int .i64 0)] t13_8 t15 h_53 fun t16_9 h_54 =>
  (pLoad h_54 t3 fun t4_26 =>
  t4_26 = t4) ∧
  (pBuild [(.int .i64 0), (.slice none 0 0), (.slice none 0 0), (.slice none 0 0)] [(0, 1, t4), (1, 1, t8_5), (2, 1, t12_9), (3, 1, t16_9)] fun t17_9 =>
  pStore 4 t2 t17_9 h_54 fun u_9 h_55 =>
  J () h_55))))) ∧
  (pBuildSlice T_api_Arc (zerosL [(.int .i64 0), (.int .i64 0), (.int .i64 0)] 0) [] 0 h_46 fun t13_9 h_56 =>
  pAppend T_int64 1 8 [(.int .i64 0)] t5_1 t7 h_56 fun t8_6 h_57 =>
  (pLoad h_57 t3 fun t4_27 =>
  t4_27 = t4) ∧
  (pLoad h_57 t10 fun t11_7 =>
  t11_7 = t11) ∧
  (pLoad h_57 t14 fun t15_17 =>
  t15_17 = t15) ∧
  (pAppend T_int64 1 8 [(.int .i64 0)] t9_5 t11 h_57 fun t12_10 h_58 =>
  (pLoad h_58 t3 fun t4_28 =>
  t4_28 = t4) ∧
  (pLoad h_58 t14 fun t15_18 =>
  t15_18 = t15) ∧
  (pAppend T_api_Arc 3 24 [(.int .i64 0), (.int .i64 0), (.int .i64 0)] t13_9 t15 h_58 fun t16_10 h_59 =>
  (pLoad h_59 t3 fun t4_29 =>
  t4_29 = t4) ∧
  (pBuild [(.int .i64 0), (.slice none 0 0), (.slice none 0 0), (.slice none 0 0)] [(0, 1, t4), (1, 1, t8_6), (2, 1, t12_10), (3, 1, t16_10)] fun t17_10 =>
  pStore 4 t2 t17_10 h_59 fun u_10 h_60 =>
  J () h_60))))) ∧
  (pBuildSlice T_api_Arc (zerosL [(.int .i64 0), (.int .i64 0), (.int .i64 0)] 0) [] 0 h_45 fun t13_10 h_61 =>
  pBuildSlice T_int64 (zerosL [(.int .i64 0)] 0) [] 0 h_61 fun t5_2 h_62 =>
  pAppend T_int64 1 8 [(.int .i64 0)] t5_2 t7 h_62 fun t8_7 h_63 =>
  (pLoad h_63 t3 fun t4_30 =>
  t4_30 = t4) ∧
  (pLoad h_63 t10 fun t11_8 =>
  t11_8 = t11) ∧
  (pLoad h_63 t14 fun t15_19 =>
  t15_19 = t15) ∧
  (pAppend T_int64 1 8 [(.int .i64 0)] t9_5 t11 h_63 fun t12_11 h_64 =>
  (pLoad h_64 t3 fun t4_31 =>
  t4_31 = t4) ∧
  (pLoad h_64 t14 fun t15_20 =>
  t15_20 = t15) ∧
  (pAppend T_api_Arc 3 24 [(.int .i64 0), (.int .i64 0), (.int .i64 0)] t13_10 t15 h_64 fun t16_11 h_65 =>
  (pLoad h_65 t3 fun t4_32 =>
  t4_32 = t4) ∧
  (pBuild [(.int .i64 0), (.slice none 0 0), (.slice none 0 0), (.slice none 0 0)] [(0, 1, t4), (1, 1, t8_7), (2, 1, t12_11), (3, 1, t16_11)] fun t17_11 =>
  pStore 4 t2 t17_11 h_65 fun u_11 h_66 =>
  J () h_66))))) ∧
  (pBuildSlice T_api_Arc (zerosL [(.int .i64 0), (.int .i64 0), (.int .i64 0)] 0) [] 0 h_2 fun t13_11 h_67 =>
  (pBuildSlice T_int64 (zerosL [(.int .i64 0)] 0) [] 0 h_67 fun t5_3 h_68 =>
  (pAppend T_int64 1 8 [(.int .i64 0)] t5_3 t7 h_68 fun t8_8 h_69 =>
  (pLoad h_69 t3 fun t4_33 =>
  t4_33 = t4) ∧
  (pLoad h_69 t10 fun t11_9 =>
  t11_9 = t11) ∧
  (pLoad h_69 t14 fun t15_21 =>
  t15_21 = t15) ∧
  (pBuildSlice T_int64 (zerosL [(.int .i64 0)] 0) [] 0 h_69 fun t9_6 h_70 =>
  pAppend T_int64 1 8 [(.int .i64 0)] t9_6 t11 h_70 fun t12_12 h_71 =>
  (pLoad h_71 t3 fun t4_34 =>
  t4_34 = t4) ∧
  (pLoad h_71 t14 fun t15_22 =>
  t15_22 = t15) ∧
  (pAppend T_api_Arc 3 24 [(.int .i64 0), (.int .i64 0), (.int .i64 0)] t13_11 t15 h_71 fun t16_12 h_72 =>
  (pLoad h_72 t3 fun t4_35 =>
  t4_35 = t4) ∧
  (pBuild [(.int .i64 0), (.slice none 0 0), (.slice none 0 0), (.slice none 0 0)] [(0, 1, t4), (1, 1, t8_8), (2, 1, t12_12), (3, 1, t16_12)] fun t17_12 =>
  pStore 4 t2 t17_12 h_72 fun u_12 h_73 =>
  J () h_73)))) ∧
  (pBuildSlice T_int64 (zerosL [(.int .i64 0)] 0) [] 0 h_68 fun t9_7 h_74 =>
  pAppend T_int64 1 8 [(.int .i64 0)] t5_3 t7 h_74 fun t8_9 h_75 =>
  (pLoad h_75 t3 fun t4_36 =>
  t4_36 = t4) ∧
  (pLoad h_75 t10 fun t11_10 =>
  t11_10 = t11) ∧
  (pLoad h_75 t14 fun t15_23 =>
  t15_23 = t15) ∧
  (pAppend T_int64 1 8 [(.int .i64 0)] t9_7 t11 h_75 fun t12_13 h_76 =>
  (pLoad h_76 t3 fun t4_37 =>
  t4_37 = t4) ∧
  (pLoad h_76 t14 fun t15_24 =>
  t15_24 = t15) ∧
  (pAppend T_api_Arc 3 24 [(.int .i64 0), (.int .i64 0), (.int .i64 0)] t13_11 t15 h_76 fun t16_13 h_77 =>
  (pLoad h_77 t3 fun t4_38 =>
  t4_38 = t4) ∧
  (pBuild [(.int .i64 0), (.slice none 0 0), (.slice none 0 0), (.slice none 0 0)] [(0, 1, t4), (1, 1, t8_9), (2, 1, t12_13), (3, 1, t16_13)] fun t17_13 =>
  pStore 4 t2 t17_13 h_77 fun u_13 h_78 =>
  J () h_78))))) ∧
  (pBuildSlice T_int64 (zerosL [(.int .i64 0)] 0) [] 0 h_67 fun t9_8 h_79 =>
  pBuildSlice T_int64 (zerosL [(.int .i64 0)] 0) [] 0 h_79 fun t5_4 h_80 =>
  pAppend T_int64 1 8 [(.int .i64 0)] t5_4 t7 h_80 fun t8_10 h_81 =>
  (pLoad h_81 t3 fun t4_39 =>
  t4_39 = t4) ∧
  (pLoad h_81 t10 fun t11_11 =>
  t11_11 = t11) ∧
  (pLoad h_81 t14 fun t15_25 =>
  t15_25 = t15) ∧
  (pAppend T_int64 1 8 [(.int .i64 0)] t9_8 t11 h_81 fun t12_14 h_82 =>
  (pLoad h_82 t3 fun t4_40 =>
  t4_40 = t4) ∧
  (pLoad h_82 t14 fun t15_26 =>
  t15_26 = t15) ∧
  (pAppend T_api_Arc 3 24 [(.int .i64 0), (.int .i64 0), (.int .i64 0)] t13_11 t15 h_82 fun t16_14 h_83 =>
  (pLoad h_83 t3 fun t4_41 =>
  t4_41 = t4) ∧
  (pBuild [(.int .i64 0), (.slice none 0 0), (.slice none 0 0), (.slice none 0 0)] [(0, 1, t4), (1, 1, t8_10), (2, 1, t12_14), (3, 1, t16_14)] fun t17_14 =>
  pStore 4 t2 t17_14 h_83 fun u_14 h_84 =>
  J () h_84))))))
  (fun x hh => sh_milestoneref07_Copy_C1 P t2 K hh)

set_option maxRecDepth 100000 in
theorem lk_milestoneref07_Copy (g0 : Value) {h : Heap} {K : Value → Heap → Prop} (H : sh_milestoneref07_Copy Tryz.prog g0 h K) : CallsH Tryz.prog F_milestoneref07_Copy [g0].toArray h K :=
  callsH_of (ann := (annG (Tryz.f45.body.getD .skip) 0 [(1, [])]).1) (c := Tryz.f45.body.getD .skip) Tryz.func45 (by kernel_rfl) (by kernel_rfl) (by kernel_rfl) (of_decide_eq_true (by kernel_rfl))
    (Eq.mpr (by kernel_rfl) H)

end Go.Proofs.YtjamcgoebnafkaaGreatDoor

namespace Go.Proofs.YtjamcgoebnafkaaGreatDoor
open Go Go.Mh
set_option maxHeartbeats 0
set_option linter.unusedVariables false

/-! (*milestone/milestoneref07.Draft).Next -/

def sh_milestoneref07_Draft_Next_k1 (P : Program) (K : Value → Heap → Prop) (h_1 : Heap) : Prop :=
  K (.int .i64 0) h_1

def sh_milestoneref07_Draft_Next (P : Program) (d0 n1 : Value) (h : Heap) (K : Value → Heap → Prop) : Prop :=
  pNil d0 fun t6 =>
  pField 0 t6 fun t7 =>
  pLoad h t7 fun t8 =>
  pLen t8 fun t9 =>
  pBin .eql t9 (.int .i64 0) fun t10 =>
  ifV t10
  (sh_milestoneref07_Draft_Next_k1 P K h)
  (pBin .lss n1 (.int .i64 1) fun t13 =>
  ifV t13
  (sh_milestoneref07_Draft_Next_k1 P K h)
  (pNil d0 fun t16 =>
  pField 1 t16 fun t17 =>
  pLoad h t17 fun t18 =>
  pBin .add t18 (.int .i64 1) fun t19 =>
  pNil d0 fun t20 =>
  pField 1 t20 fun t21 =>
  pStore 1 t21 t19 h fun u h_2 =>
  pNil d0 fun t23 =>
  pField 0 t23 fun t24 =>
  pLoad h_2 t24 fun t25 =>
  pNil d0 fun t27 =>
  pField 1 t27 fun t28 =>
  pLoad h_2 t28 fun t29 =>
  pBin .sub t29 (.int .i64 1) fun t30 =>
  pNil d0 fun t32 =>
  pField 0 t32 fun t33 =>
  pLoad h_2 t33 fun t34 =>
  pLen t34 fun t35 =>
  pBin .rem t30 t35 fun t36 =>
  pIdx 1 t25 t36 fun t37 =>
  pLoad h_2 t37 fun t38 =>
  pNil d0 fun t40 =>
  pField 1 t40 fun t41 =>
  pLoad h_2 t41 fun t42 =>
  pBin .sub t42 (.int .i64 1) fun t43 =>
  pNil d0 fun t45 =>
  pField 0 t45 fun t46 =>
  pLoad h_2 t46 fun t47 =>
  pLen t47 fun t48 =>
  pBin .quo t43 t48 fun t49 =>
  pConv .u8 t49 fun t50 =>
  pBin .add t38 t50 fun t51 =>
  pConv .i64 t51 fun t52 =>
  pBin .rem t52 n1 fun t54 =>
  K t54 h_2))

set_option maxRecDepth 100000 in
theorem lk_milestoneref07_Draft_Next (d0 n1 : Value) {h : Heap} {K : Value → Heap → Prop} (H : sh_milestoneref07_Draft_Next Tryz.prog d0 n1 h K) : CallsH Tryz.prog F_milestoneref07_Draft_Next [d0, n1].toArray h K :=
  callsH_of (ann := (annG (Tryz.f46.body.getD .skip) 0 []).1) (c := Tryz.f46.body.getD .skip) Tryz.func46 (by kernel_rfl) (by kernel_rfl) (by kernel_rfl) (of_decide_eq_true (by kernel_rfl))
    (Eq.mpr (by kernel_rfl) H)

/-! (*milestone/milestoneref07.Draft).Weight -/

def sh_milestoneref07_Draft_Weight (P : Program) (d0 : Value) (h : Heap) (K : Value → Heap → Prop) : Prop :=
  callS P F_milestoneref07_Draft_Next [d0, (.int .i64 12)] h fun t5 h_1 =>
  pBin .lss t5 (.int .i64 3) fun t8 =>
  ifV t8
  (K (.int .i64 0) h_1)
  (pBin .lss t5 (.int .i64 10) fun t11 =>
  ifV t11
  (callS P F_milestoneref07_Draft_Next [d0, (.int .i64 9)] h_1 fun t13 h_2 =>
  pBin .add (.int .i64 1) t13 fun t14 =>
  K t14 h_2)
  (pBin .lss t5 (.int .i64 11) fun t17 =>
  ifV t17
  (callS P F_milestoneref07_Draft_Next [d0, (.int .i64 20)] h_1 fun t19 h_3 =>
  pBin .mul (.int .i64 100) t19 fun t20 =>
  K t20 h_3)
  (callS P F_milestoneref07_Draft_Next [d0, (.int .i64 2)] h_1 fun t22 h_4 =>
  pBin .sub (.int .i64 2147483647) t22 fun t23 =>
  K t23 h_4)))

set_option maxRecDepth 100000 in
theorem lk_milestoneref07_Draft_Weight (d0 : Value) {h : Heap} {K : Value → Heap → Prop} (H : sh_milestoneref07_Draft_Weight Tryz.prog d0 h K) : CallsH Tryz.prog F_milestoneref07_Draft_Weight [d0].toArray h K :=
  callsH_of (ann := (annG (Tryz.f47.body.getD .skip) 0 []).1) (c := Tryz.f47.body.getD .skip) Tryz.func47 (by kernel_rfl) (by kernel_rfl) (by kernel_rfl) (of_decide_eq_true (by kernel_rfl))
    (Eq.mpr (by kernel_rfl) H)

/-! (*milestone/net.Net).Nodes -/

def sh_net_Net_Nodes (P : Program) (n0 : Value) (h : Heap) (K : Value → Heap → Prop) : Prop :=
  pEq false .ptr n0 (.pointer none) fun t4 =>
  ifV t4
  (K (.int .i64 0) h)
  (pNil n0 fun t6 =>
  pField 0 t6 fun t7 =>
  pField 0 t7 fun t8 =>
  pLoad h t8 fun t9 =>
  K t9 h)

set_option maxRecDepth 100000 in
theorem lk_net_Net_Nodes (n0 : Value) {h : Heap} {K : Value → Heap → Prop} (H : sh_net_Net_Nodes Tryz.prog n0 h K) : CallsH Tryz.prog F_net_Net_Nodes [n0].toArray h K :=
  callsH_of (ann := (annG (Tryz.f48.body.getD .skip) 0 []).1) (c := Tryz.f48.body.getD .skip) Tryz.func48 (by kernel_rfl) (by kernel_rfl) (by kernel_rfl) (of_decide_eq_true (by kernel_rfl))
    (Eq.mpr (by kernel_rfl) H)

/-! milestone/heap.New -/

def sh_heap_New (P : Program) (n0 : Value) (h : Heap) (K : Value → Heap → Prop) : Prop :=
  pMakeMap h fun t3 h_1 =>
  pBuild [(.slice none 0 0), (.map none)] [(1, 1, t3)] fun t4 =>
  pMax n0 (.int .i64 0) fun t6 =>
  pBuild [(.slice none 0 0), (.map none), (.int .i64 0)] [(0, 2, t4), (2, 1, t6)] fun t7 =>
  pBox T_heap_Heap t7 h_1 fun t8 h_2 =>
  K t8 h_2

set_option maxRecDepth 100000 in
theorem lk_heap_New (n0 : Value) {h : Heap} {K : Value → Heap → Prop} (H : sh_heap_New Tryz.prog n0 h K) : CallsH Tryz.prog F_heap_New [n0].toArray h K :=
  callsH_of (ann := (annG (Tryz.f49.body.getD .skip) 0 []).1) (c := Tryz.f49.body.getD .skip) Tryz.func49 (by kernel_rfl) (by kernel_rfl) (by kernel_rfl) (of_decide_eq_true (by kernel_rfl))
    (Eq.mpr (by kernel_rfl) H)

/-! slices.Repeat[[]int64,int64] -/

def sh_slices_Repeat_sl_int64_int64_k1 (P : Program) (h_2 : Heap) : Prop :=
  False

def sh_slices_Repeat_sl_int64_int64_L2 (P : Program) (t30 : Value) (K : Value → Heap → Prop) (n8 : Value) (h_5 : Heap) (Z : Value → Heap → Prop) : Prop :=
  pLen t30 fun t36 =>
  pBin .lss n8 t36 fun t37 =>
  ifV t37
  (pSlice 1 t30 (some n8) none none fun t41 =>
  pSlice 1 t30 none (some n8) none fun t44 =>
  pCopy 1 t41 t44 h_5 fun t45 h_6 =>
  pBin .add n8 t45 fun t46 =>
  Z t46 h_6)
  (K t30 h_5)

def sh_slices_Repeat_sl_int64_int64 (P : Program) (x0 count1 : Value) (h : Heap) (K : Value → Heap → Prop) : Prop :=
  pBin .lss count1 (.int .i64 0) fun t10 =>
  ifV t10
  (False)
  (pLen x0 fun t14 =>
  pConv .u64 t14 fun t15 =>
  pConv .u64 count1 fun t17 =>
  callS P F_math_bits_Mul [t15, t17] h fun t18 h_1 =>
  pExt t18 0 fun t19 =>
  pExt t18 1 fun t20 =>
  pBin .gtr t19 (.int .u64 0) fun t22 =>
  ifV t22
  (sh_slices_Repeat_sl_int64_int64_k1 P h_1)
  (pBin .gtr t20 (.int .u64 9223372036854775807) fun t25 =>
  ifV t25
  (sh_slices_Repeat_sl_int64_int64_k1 P h_1)
  (pConv .i64 t20 fun t29 =>
  pMakeSlice T_int64 8 [(.int .i64 0)] t29 t29 h_1 fun t30 h_3 =>
  pCopy 1 t30 x0 h_3 fun t33 h_4 =>
  LoopH (σ := Vals [8]) (fun x hh ZZ => sh_slices_Repeat_sl_int64_int64_L2 P t30 K x.1 hh (fun a0 hz => ZZ (a0, ()) hz)) (t33, ()) h_4)))

set_option maxRecDepth 100000 in
theorem lk_slices_Repeat_sl_int64_int64 (x0 count1 : Value) {h : Heap} {K : Value → Heap → Prop} (H : sh_slices_Repeat_sl_int64_int64 Tryz.prog x0 count1 h K) : CallsH Tryz.prog F_slices_Repeat_sl_int64_int64 [x0, count1].toArray h K :=
  callsH_of (ann := (annG (Tryz.f50.body.getD .skip) 0 [(9, [8])]).1) (c := Tryz.f50.body.getD .skip) Tryz.func50 (by kernel_rfl) (by kernel_rfl) (by kernel_rfl) (of_decide_eq_true (by kernel_rfl))
    (Eq.mpr (by kernel_rfl) H)

/-! slices.Repeat[[]int,int] -/

def sh_slices_Repeat_sl_int_int_k1 (P : Program) (h_2 : Heap) : Prop :=
  False

def sh_slices_Repeat_sl_int_int_L2 (P : Program) (t30 : Value) (K : Value → Heap → Prop) (n8 : Value) (h_5 : Heap) (Z : Value → Heap → Prop) : Prop :=
  pLen t30 fun t36 =>
  pBin .lss n8 t36 fun t37 =>
  ifV t37
  (pSlice 1 t30 (some n8) none none fun t41 =>
  pSlice 1 t30 none (some n8) none fun t44 =>
  pCopy 1 t41 t44 h_5 fun t45 h_6 =>
  pBin .add n8 t45 fun t46 =>
  Z t46 h_6)
  (K t30 h_5)

def sh_slices_Repeat_sl_int_int (P : Program) (x0 count1 : Value) (h : Heap) (K : Value → Heap → Prop) : Prop :=
  pBin .lss count1 (.int .i64 0) fun t10 =>
  ifV t10
  (False)
  (pLen x0 fun t14 =>
  pConv .u64 t14 fun t15 =>
  pConv .u64 count1 fun t17 =>
  callS P F_math_bits_Mul [t15, t17] h fun t18 h_1 =>
  pExt t18 0 fun t19 =>
  pExt t18 1 fun t20 =>
  pBin .gtr t19 (.int .u64 0) fun t22 =>
  ifV t22
  (sh_slices_Repeat_sl_int_int_k1 P h_1)
  (pBin .gtr t20 (.int .u64 9223372036854775807) fun t25 =>
  ifV t25
  (sh_slices_Repeat_sl_int_int_k1 P h_1)
  (pConv .i64 t20 fun t29 =>
  pMakeSlice T_int 8 [(.int .i64 0)] t29 t29 h_1 fun t30 h_3 =>
  pCopy 1 t30 x0 h_3 fun t33 h_4 =>
  LoopH (σ := Vals [8]) (fun x hh ZZ => sh_slices_Repeat_sl_int_int_L2 P t30 K x.1 hh (fun a0 hz => ZZ (a0, ()) hz)) (t33, ()) h_4)))

set_option maxRecDepth 100000 in
theorem lk_slices_Repeat_sl_int_int (x0 count1 : Value) {h : Heap} {K : Value → Heap → Prop} (H : sh_slices_Repeat_sl_int_int Tryz.prog x0 count1 h K) : CallsH Tryz.prog F_slices_Repeat_sl_int_int [x0, count1].toArray h K :=
  callsH_of (ann := (annG (Tryz.f51.body.getD .skip) 0 [(9, [8])]).1) (c := Tryz.f51.body.getD .skip) Tryz.func51 (by kernel_rfl) (by kernel_rfl) (by kernel_rfl) (of_decide_eq_true (by kernel_rfl))
    (Eq.mpr (by kernel_rfl) H)

/-! (*milestone/heap.Heap).Push -/

def sh_heap_Heap_Push_k1 (P : Program) (K : Value → Heap → Prop) (h_1 : Heap) : Prop :=
  K (.int .i64 2) h_1

def sh_heap_Heap_Push (P : Program) (h0 id1 key2 : Value) (h : Heap) (K : Value → Heap → Prop) : Prop :=
  pEq false .ptr h0 (.pointer none) fun t10 =>
  ifV t10
  (K (.int .i64 1) h)
  (pNil h0 fun t13 =>
  pField 0 t13 fun t14 =>
  pField 1 t14 fun t15 =>
  pLoad h t15 fun t16 =>
  pLook (.int .i64) (.int .i64 0) true h t16 id1 fun t18 =>
  pExt t18 0 fun t19 =>
  pExt t18 1 fun t20 =>
  ifV t20
  (sh_heap_Heap_Push_k1 P K h)
  (pBin .lss id1 (.int .i64 0) fun t24 =>
  ifV t24
  (sh_heap_Heap_Push_k1 P K h)
  (pNil h0 fun t29 =>
  pField 2 t29 fun t30 =>
  pLoad h t30 fun t31 =>
  pBin .geq id1 t31 fun t32 =>
  ifV t32
  (sh_heap_Heap_Push_k1 P K h)
  (pNil h0 fun t35 =>
  pField 0 t35 fun t36 =>
  pField 1 t36 fun t37 =>
  pLoad h t37 fun t38 =>
  pNil h0 fun t41 =>
  pField 0 t41 fun t42 =>
  pField 0 t42 fun t43 =>
  pLoad h t43 fun t44 =>
  pLen t44 fun t45 =>
  pMapSet (.int .i64) t38 id1 t45 h fun u h_2 =>
  pNil h0 fun t48 =>
  pField 0 t48 fun t49 =>
  pField 0 t49 fun t50 =>
  pLoad h_2 t50 fun t51 =>
  pBuild [(.int .i64 0), (.int .i64 0)] [(0, 1, id1), (1, 1, key2)] fun t54 =>
  pBuildSlice T_heap_held (zerosL [(.int .i64 0), (.int .i64 0)] 1) [(0, 2, t54)] 1 h_2 fun t55 h_3 =>
  pAppend T_heap_held 2 16 [(.int .i64 0), (.int .i64 0)] t51 t55 h_3 fun t56 h_4 =>
  pNil h0 fun t57 =>
  pField 0 t57 fun t58 =>
  pField 0 t58 fun t59 =>
  pStore 1 t59 t56 h_4 fun u_1 h_5 =>
  pNil h0 fun t61 =>
  pField 0 t61 fun t62 =>
  pNil h0 fun t64 =>
  pField 0 t64 fun t65 =>
  pField 0 t65 fun t66 =>
  pLoad h_5 t66 fun t67 =>
  pLen t67 fun t68 =>
  pBin .sub t68 (.int .i64 1) fun t69 =>
  callS P F_heap_row_up [t62, t69] h_5 fun t70 h_6 =>
  K (.int .i64 0) h_6))))

set_option maxRecDepth 100000 in
theorem lk_heap_Heap_Push (h0 id1 key2 : Value) {h : Heap} {K : Value → Heap → Prop} (H : sh_heap_Heap_Push Tryz.prog h0 id1 key2 h K) : CallsH Tryz.prog F_heap_Heap_Push [h0, id1, key2].toArray h K :=
  callsH_of (ann := (annG (Tryz.f52.body.getD .skip) 0 []).1) (c := Tryz.f52.body.getD .skip) Tryz.func52 (by kernel_rfl) (by kernel_rfl) (by kernel_rfl) (of_decide_eq_true (by kernel_rfl))
    (Eq.mpr (by kernel_rfl) H)

/-! (*milestone/heap.Heap).Pop -/

def sh_heap_Heap_Pop (P : Program) (h0 : Value) (h : Heap) (K : Value → Heap → Prop) : Prop :=
  callS P F_heap_Heap_Len [h0] h fun t8 h_1 =>
  pBin .eql t8 (.int .i64 0) fun t9 =>
  ifV t9
  (K (.tuple #[(.int .i64 0), (.int .i64 0), (.bool false)]) h_1)
  (pNil h0 fun t11 =>
  pField 0 t11 fun t12 =>
  pField 0 t12 fun t13 =>
  pLoad h_1 t13 fun t14 =>
  pIdx 2 t14 (.int .i64 0) fun t15 =>
  pLoadN 2 h_1 t15 fun t16 =>
  pNil h0 fun t18 =>
  pField 0 t18 fun t19 =>
  pField 0 t19 fun t20 =>
  pLoad h_1 t20 fun t21 =>
  pLen t21 fun t22 =>
  pBin .sub t22 (.int .i64 1) fun t23 =>
  pBox T_heap_held (.agg #[(.int .i64 0), (.int .i64 0)]) h_1 fun first5 h_2 =>
  pStore 2 first5 t16 h_2 fun u h_3 =>
  (pLoad h_3 t20 fun t21_1 =>
  t21_1 = t21) ∧
  (pNil h0 fun t25 =>
  pField 0 t25 fun t26 =>
  callS P F_heap_row_swap [t26, (.int .i64 0), t23] h_3 fun t28 h_4 =>
  pNil h0 fun t31 =>
  pField 0 t31 fun t32 =>
  pField 0 t32 fun t33 =>
  pLoad h_4 t33 fun t34 =>
  pSlice 2 t34 none (some t23) none fun t36 =>
  pNil h0 fun t37 =>
  pField 0 t37 fun t38 =>
  pField 0 t38 fun t39 =>
  pStore 1 t39 t36 h_4 fun u_1 h_5 =>
  pNil h0 fun t41 =>
  pField 0 t41 fun t42 =>
  pField 1 t42 fun t43 =>
  pLoad h_5 t43 fun t44 =>
  pField 0 first5 fun t45 =>
  pLoad h_5 t45 fun t46 =>
  pDelete (.int .i64) t44 t46 h_5 fun u_2 h_6 =>
  pNil h0 fun t48 =>
  pField 0 t48 fun t49 =>
  callS P F_heap_row_down [t49, (.int .i64 0)] h_6 fun t50 h_7 =>
  pField 0 first5 fun t51 =>
  pLoad h_7 t51 fun t52 =>
  pField 1 first5 fun t53 =>
  pLoad h_7 t53 fun t54 =>
  K (.tuple #[t52, t54, (.bool true)]) h_7))

set_option maxRecDepth 100000 in
theorem lk_heap_Heap_Pop (h0 : Value) {h : Heap} {K : Value → Heap → Prop} (H : sh_heap_Heap_Pop Tryz.prog h0 h K) : CallsH Tryz.prog F_heap_Heap_Pop [h0].toArray h K :=
  callsH_of (ann := (annG (Tryz.f53.body.getD .skip) 0 []).1) (c := Tryz.f53.body.getD .skip) Tryz.func53 (by kernel_rfl) (by kernel_rfl) (by kernel_rfl) (of_decide_eq_true (by kernel_rfl))
    (Eq.mpr (by kernel_rfl) H)

/-! milestone/flood.arcs -/

def sh_flood_arcs (P : Program) (n0 l1 end2 : Value) (h : Heap) (K : Value → Heap → Prop) : Prop :=
  pBox T_p_net_Net n0 h fun n3 h_1 =>
  pBox T_sl_int l1 h_1 fun l4 h_2 =>
  pBox T_func_api_Arc_int end2 h_2 fun end5 h_3 =>
  K (.func (.func F_flood_arcs_1) #[] #[l4, n3, end5]) h_3

set_option maxRecDepth 100000 in
theorem lk_flood_arcs (n0 l1 end2 : Value) {h : Heap} {K : Value → Heap → Prop} (H : sh_flood_arcs Tryz.prog n0 l1 end2 h K) : CallsH Tryz.prog F_flood_arcs [n0, l1, end2].toArray h K :=
  callsH_of (ann := (annG (Tryz.f54.body.getD .skip) 0 []).1) (c := Tryz.f54.body.getD .skip) Tryz.func54 (by kernel_rfl) (by kernel_rfl) (by kernel_rfl) (of_decide_eq_true (by kernel_rfl))
    (Eq.mpr (by kernel_rfl) H)

/-! (*milestone/flood.run).reach -/

def sh_flood_run_reach_k2 (P : Program) (r0 v1 arc2 : Value) (K : Value → Heap → Prop) (h_4 : Heap) : Prop :=
  pNil r0 fun t52 =>
  pField 1 t52 fun t53 =>
  pField 1 t53 fun t54 =>
  pLoad h_4 t54 fun t55 =>
  pIdx 1 t55 v1 fun t58 =>
  pStore 1 t58 arc2 h_4 fun u h_5 =>
  K (.tuple #[]) h_5

def sh_flood_run_reach_k1 (P : Program) (t18 r0 v1 far3 arc2 : Value) (K : Value → Heap → Prop) (h_2 : Heap) : Prop :=
  ifV t18
  (pNil r0 fun t45 =>
  pField 0 t45 fun t46 =>
  pLoad h_2 t46 fun t47 =>
  callS P F_heap_Heap_Lower [t47, v1, far3] h_2 fun t50 h_3 =>
  sh_flood_run_reach_k2 P r0 v1 arc2 K h_3)
  (pNil r0 fun t20 =>
  pField 0 t20 fun t21 =>
  pLoad h_2 t21 fun t22 =>
  callS P F_heap_Heap_Push [t22, v1, far3] h_2 fun t25 h_6 =>
  sh_flood_run_reach_k2 P r0 v1 arc2 K h_6)

def sh_flood_run_reach (P : Program) (r0 v1 arc2 far3 : Value) (h : Heap) (K : Value → Heap → Prop) : Prop :=
  pNil r0 fun t12 =>
  pField 0 t12 fun t13 =>
  pLoad h t13 fun t14 =>
  callS P F_heap_Heap_Key [t14, v1] h fun t16 h_1 =>
  pExt t16 0 fun t17 =>
  pExt t16 1 fun t18 =>
  pNil r0 fun t28 =>
  pField 4 t28 fun t29 =>
  pLoad h_1 t29 fun t30 =>
  pLook (.int .i64) (.int .i64 0) false h_1 t30 v1 fun t32 =>
  pBin .gtr t32 (.int .i64 0) fun t33 =>
  ifV t33
  (K (.tuple #[]) h_1)
  (ifV t18
  (pBin .leq t17 far3 fun t39 =>
  ifV t39
  (K (.tuple #[]) h_1)
  (sh_flood_run_reach_k1 P t18 r0 v1 far3 arc2 K h_1))
  (sh_flood_run_reach_k1 P t18 r0 v1 far3 arc2 K h_1))

set_option maxRecDepth 100000 in
theorem lk_flood_run_reach (r0 v1 arc2 far3 : Value) {h : Heap} {K : Value → Heap → Prop} (H : sh_flood_run_reach Tryz.prog r0 v1 arc2 far3 h K) : CallsH Tryz.prog F_flood_run_reach [r0, v1, arc2, far3].toArray h K :=
  callsH_of (ann := (annG (Tryz.f55.body.getD .skip) 0 []).1) (c := Tryz.f55.body.getD .skip) Tryz.func55 (by kernel_rfl) (by kernel_rfl) (by kernel_rfl) (of_decide_eq_true (by kernel_rfl))
    (Eq.mpr (by kernel_rfl) H)

/-! milestone/net.one[[]int] -/

def sh_net_one_sl_int_k1 (P : Program) (K : Value → Heap → Prop) (h_1 : Heap) : Prop :=
  K (.tuple #[(.slice none 0 0), (.bool false)]) h_1

def sh_net_one_sl_int (P : Program) (l0 i1 : Value) (h : Heap) (K : Value → Heap → Prop) : Prop :=
  pBin .lss i1 (.int .i64 0) fun t7 =>
  ifV t7
  (sh_net_one_sl_int_k1 P K h)
  (pLen l0 fun t11 =>
  pBin .geq i1 t11 fun t12 =>
  ifV t12
  (sh_net_one_sl_int_k1 P K h)
  (pIdx 1 l0 i1 fun t17 =>
  pLoad h t17 fun t18 =>
  K (.tuple #[t18, (.bool true)]) h))

set_option maxRecDepth 100000 in
theorem lk_net_one_sl_int (l0 i1 : Value) {h : Heap} {K : Value → Heap → Prop} (H : sh_net_one_sl_int Tryz.prog l0 i1 h K) : CallsH Tryz.prog F_net_one_sl_int [l0, i1].toArray h K :=
  callsH_of (ann := (annG (Tryz.f56.body.getD .skip) 0 []).1) (c := Tryz.f56.body.getD .skip) Tryz.func56 (by kernel_rfl) (by kernel_rfl) (by kernel_rfl) (of_decide_eq_true (by kernel_rfl))
    (Eq.mpr (by kernel_rfl) H)

/-! slices.Clone[[]int,int] -/

def sh_slices_Clone_sl_int_int (P : Program) (s0 : Value) (h : Heap) (K : Value → Heap → Prop) : Prop :=
  pEq false .slice s0 (.slice none 0 0) fun t4 =>
  ifV t4
  (K (.slice none 0 0) h)
  (pBuildSlice T_int (zerosL [(.int .i64 0)] 0) [] 0 h fun t5 h_1 =>
  pAppend T_int 1 8 [(.int .i64 0)] t5 s0 h_1 fun t7 h_2 =>
  K t7 h_2)

set_option maxRecDepth 100000 in
theorem lk_slices_Clone_sl_int_int (s0 : Value) {h : Heap} {K : Value → Heap → Prop} (H : sh_slices_Clone_sl_int_int Tryz.prog s0 h K) : CallsH Tryz.prog F_slices_Clone_sl_int_int [s0].toArray h K :=
  callsH_of (ann := (annG (Tryz.f57.body.getD .skip) 0 []).1) (c := Tryz.f57.body.getD .skip) Tryz.func57 (by kernel_rfl) (by kernel_rfl) (by kernel_rfl) (of_decide_eq_true (by kernel_rfl))
    (Eq.mpr (by kernel_rfl) H)

/-! milestone/path.follow -/

def sh_path_follow (P : Program) (n0 t1 v2 ends3 : Value) (h : Heap) (K : Value → Heap → Prop) : Prop :=
  pBox T_p_net_Net n0 h fun n4 h_1 =>
  pBox T_flood_Tree t1 h_1 fun t5 h_2 =>
  pBox T_int v2 h_2 fun v6 h_3 =>
  pBox T_func_api_Arc_int_int ends3 h_3 fun ends7 h_4 =>
  K (.func (.func F_path_follow_1) #[] #[v6, t5, n4, ends7]) h_4

set_option maxRecDepth 100000 in
theorem lk_path_follow (n0 t1 v2 ends3 : Value) {h : Heap} {K : Value → Heap → Prop} (H : sh_path_follow Tryz.prog n0 t1 v2 ends3 h K) : CallsH Tryz.prog F_path_follow [n0, t1, v2, ends3].toArray h K :=
  callsH_of (ann := (annG (Tryz.f58.body.getD .skip) 0 []).1) (c := Tryz.f58.body.getD .skip) Tryz.func58 (by kernel_rfl) (by kernel_rfl) (by kernel_rfl) (of_decide_eq_true (by kernel_rfl))
    (Eq.mpr (by kernel_rfl) H)

/-! slices.Grow[[]int,int] -/

def sh_slices_Grow_sl_int_int_k1 (P : Program) (K : Value → Heap → Prop) (s0_1 : Value) (h_2 : Heap) : Prop :=
  K s0_1 h_2

def sh_slices_Grow_sl_int_int (P : Program) (s0 n1 : Value) (h : Heap) (K : Value → Heap → Prop) : Prop :=
  pBin .lss n1 (.int .i64 0) fun t6 =>
  ifV t6
  (False)
  (pCap s0 fun t10 =>
  pLen s0 fun t12 =>
  pBin .sub t10 t12 fun t13 =>
  pBin .sub n1 t13 fun t14 =>
  pBin .gtr t14 (.int .i64 0) fun t16 =>
  ifV t16
  (pCap s0 fun t19 =>
  pSlice 1 s0 none (some t19) none fun t20 =>
  pAppendZ T_int 1 8 [(.int .i64 0)] t20 t14 h fun t22 h_1 =>
  pLen s0 fun t24 =>
  pSlice 1 t22 none (some t24) none fun t25 =>
  sh_slices_Grow_sl_int_int_k1 P K t25 h_1)
  (sh_slices_Grow_sl_int_int_k1 P K s0 h))

set_option maxRecDepth 100000 in
theorem lk_slices_Grow_sl_int_int (s0 n1 : Value) {h : Heap} {K : Value → Heap → Prop} (H : sh_slices_Grow_sl_int_int Tryz.prog s0 n1 h K) : CallsH Tryz.prog F_slices_Grow_sl_int_int [s0, n1].toArray h K :=
  callsH_of (ann := (annG (Tryz.f59.body.getD .skip) 0 []).1) (c := Tryz.f59.body.getD .skip) Tryz.func59 (by kernel_rfl) (by kernel_rfl) (by kernel_rfl) (of_decide_eq_true (by kernel_rfl))
    (Eq.mpr (by kernel_rfl) H)

/-! milestone/graph.look -/

def sh_graph_look_k3 (P : Program) (p4 phase2 : Value) (h_11 : Heap) : Prop :=
  pField 2 p4 fun t32 =>
  pLoad h_11 t32 fun t33 =>
  pLoad h_11 phase2 fun t34 =>
  pField 0 p4 fun t35 =>
  pLoad h_11 t35 fun t36 =>
  pField 1 p4 fun t37 =>
  pLoad h_11 t37 fun t38 =>
  pBuild [(.int .i64 0), (.int .i64 0), (.int .i64 0), (.int .i64 0)] [(0, 1, t33), (1, 1, t34), (2, 1, t36), (3, 1, t38)] fun t39 =>
  pBox T_api_Fault t39 h_11 fun t40 h_12 =>
  pBuild [(.pointer none)] [(0, 1, t40)] fun t41 =>
  False

def sh_graph_look_B2 (P : Program) (h_6 : Heap) (phase2 : Value) (L : Loop) (t19 : Value) (h_7 : Heap) (R : Exit → Heap → Prop) : Prop :=
  pBox T_graph_place (.agg #[(.int .i64 0), (.int .i64 0), (.int .i64 0), (.int .i64 0), (.int .i64 0), (.int .i64 0)]) h_7 fun p4 h_8 =>
  pStore 6 p4 t19 h_8 fun u_1 h_9 =>
  beginR (h_6.size + 1) L h_9 fun h_10 =>
  pField 3 p4 fun t20 =>
  pLoad h_10 t20 fun t21 =>
  pField 4 p4 fun t22 =>
  pLoad h_10 t22 fun t23 =>
  pBin .lss t21 t23 fun t24 =>
  ifV t24
  (sh_graph_look_k3 P p4 phase2 h_10)
  (pField 3 p4 fun t26 =>
  pLoad h_10 t26 fun t27 =>
  pField 5 p4 fun t28 =>
  pLoad h_10 t28 fun t29 =>
  pBin .geq t27 t29 fun t30 =>
  ifV t30
  (sh_graph_look_k3 P p4 phase2 h_10)
  (R .normal h_10))

def sh_graph_look_L1 (P : Program) (t11 t10 : Value) (K : Value → Heap → Prop) (m : List Nat) (t12 : Value) (h_3 : Heap) (Z : List Nat → Value → Heap → Prop) : Prop :=
  pBin .lss t12 t11 fun t13 =>
  ifV t13
  (pIdx 1 t10 t12 fun t15 =>
  pLoad h_3 t15 fun t16 =>
  pBox T_int (.int .i64 0) h_3 fun phase2 h_4 =>
  pStore 1 phase2 t12 h_4 fun u h_5 =>
  callV P t16 [].toArray h_5 fun t18 h_6 =>
  rangeH P t18 [19] (h_6.size + 1) (h_6.push (.deferred (some []))) (fun L x hh R => sh_graph_look_B2 P h_6 phase2 L x.1 hh R)
  (fun h_13 => pBin .add t12 (.int .i64 1) fun t43 =>
  Z (h_6.size :: m) t43 h_13)
  (fun h_14 => takeM (h_6.size :: m) h_14 fun h_15 =>
  K (.tuple #[]) h_15)
  [])
  (takeM m h_3 fun h_16 =>
  K (.tuple #[]) h_16)

def sh_graph_look (P : Program) (r0 : Value) (h : Heap) (K : Value → Heap → Prop) : Prop :=
  pBox T_api_Raw r0 h fun r1 h_1 =>
  pBuildSlice T_func_iter_Seq_graph_place (zerosL [.nilFunc] 5) [(0, 1, (.func (.func F_graph_look_1) #[] #[r1])), (1, 1, (.func (.func F_graph_look_2) #[] #[r1])), (2, 1, (.func (.func F_graph_look_3) #[] #[r1])), (3, 1, (.func (.func F_graph_look_4) #[] #[r1])), (4, 1, (.func (.func F_graph_look_5) #[] #[r1]))] 5 h_1 fun t10 h_2 =>
  pLen t10 fun t11 =>
  LoopH (σ := List Nat × Vals [12]) (fun x hh ZZ => sh_graph_look_L1 P t11 t10 K x.1 x.2.1 hh (fun mz a0 hz => ZZ (mz, (a0, ())) hz)) ([], ((.int .i64 0), ())) h_2

set_option maxRecDepth 100000 in
theorem lk_graph_look (r0 : Value) {h : Heap} {K : Value → Heap → Prop} (H : sh_graph_look Tryz.prog r0 h K) : CallsH Tryz.prog F_graph_look [r0].toArray h K :=
  callsH_of (ann := (annG (Tryz.f61.body.getD .skip) 0 [(2, [12])]).1) (c := Tryz.f61.body.getD .skip) Tryz.func61 (by kernel_rfl) (by kernel_rfl) (by kernel_rfl) (of_decide_eq_true (by kernel_rfl))
    (Eq.mpr (by kernel_rfl) H)

/-! milestone/net.of$1 -/

def sh_net_of_1_C5 (P : Program) (t64 : Value) (Z_2 : Value → Heap → Prop) (h_31 : Heap) : Prop :=
  pBin .add t64 (.int .i64 1) fun t83 =>
  Z_2 t83 h_31

def sh_net_of_1_L4 (P : Program) (t63 t62 end0 rows8 : Value) (K : Value → Heap → Prop) (t64 : Value) (h_14 : Heap) (Z_2 : Value → Heap → Prop) : Prop :=
  pBin .lss t64 t63 fun t65 =>
  ifV t65
  (cutP (σ := Vals []) (fun J_1 =>
  pIdx 3 t62 t64 fun t67 =>
  pLoadN 3 h_14 t67 fun t68 =>
  pBox T_api_Arc (.agg #[(.int .i64 0), (.int .i64 0), (.int .i64 0)]) h_14 fun a13 h_15 =>
  pStore 3 a13 t68 h_15 fun u_3 h_16 =>
  pLoadN 3 h_16 a13 fun t71 =>
  pLoadN 3 h_16 a13 fun t75 =>
  (callV P end0 [t71].toArray h_16 fun t72 h_17 =>
  (pLoadN 3 h_17 a13 fun t75_1 =>
  t75_1 = t75) ∧
  ((callV P end0 [t75].toArray h_17 fun t76 h_18 =>
  pIdx 1 rows8 t76 fun t77 =>
  pLoad h_18 t77 fun t78 =>
  pBuildSlice T_int (zerosL [(.int .i64 0)] 1) [(0, 1, t64)] 1 h_18 fun t80 h_19 =>
  pAppend T_int 1 8 [(.int .i64 0)] t78 t80 h_19 fun t81 h_20 =>
  pIdx 1 rows8 t72 fun t82 =>
  pStore 1 t82 t81 h_20 fun u_4 h_21 =>
  J_1 () h_21) ∧
  (pBuildSlice T_int (zerosL [(.int .i64 0)] 1) [(0, 1, t64)] 1 h_17 fun t80_1 h_22 =>
  callV P end0 [t75].toArray h_22 fun t76_1 h_23 =>
  pIdx 1 rows8 t76_1 fun t77_1 =>
  pLoad h_23 t77_1 fun t78_1 =>
  pAppend T_int 1 8 [(.int .i64 0)] t78_1 t80_1 h_23 fun t81_1 h_24 =>
  pIdx 1 rows8 t72 fun t82_1 =>
  pStore 1 t82_1 t81_1 h_24 fun u_5 h_25 =>
  J_1 () h_25))) ∧
  (pBuildSlice T_int (zerosL [(.int .i64 0)] 1) [(0, 1, t64)] 1 h_16 fun t80_2 h_26 =>
  callV P end0 [t71].toArray h_26 fun t72_1 h_27 =>
  (pLoadN 3 h_27 a13 fun t75_2 =>
  t75_2 = t75) ∧
  (callV P end0 [t75].toArray h_27 fun t76_2 h_28 =>
  pIdx 1 rows8 t76_2 fun t77_2 =>
  pLoad h_28 t77_2 fun t78_2 =>
  pAppend T_int 1 8 [(.int .i64 0)] t78_2 t80_2 h_28 fun t81_2 h_29 =>
  pIdx 1 rows8 t72_1 fun t82_2 =>
  pStore 1 t82_2 t81_2 h_29 fun u_6 h_30 =>
  J_1 () h_30)))
  (fun x hh => sh_net_of_1_C5 P t64 Z_2 hh))
  (K rows8 h_14)

def sh_net_of_1_L3 (P : Program) (t41 t16 all7 rows8 t1 end0 : Value) (K : Value → Heap → Prop) (at9 t42 : Value) (h_12 : Heap) (Z_1 : Value → Value → Heap → Prop) : Prop :=
  pBin .lss t42 t41 fun t43 =>
  ifV t43
  (pIdx 1 t16 t42 fun t45 =>
  pLoad h_12 t45 fun t46 =>
  pBin .add at9 t46 fun t54 =>
  pSlice 1 all7 (some at9) (some at9) (some t54) fun t55 =>
  pIdx 1 rows8 t42 fun t56 =>
  pStore 1 t56 t55 h_12 fun u_2 h_13 =>
  pBin .add at9 t46 fun t59 =>
  pBin .add t42 (.int .i64 1) fun t60 =>
  Z_1 t59 t60 h_13)
  (pField 3 t1 fun t61 =>
  pLoad h_12 t61 fun t62 =>
  pLen t62 fun t63 =>
  LoopH (σ := Vals [64]) (fun x hh ZZ => sh_net_of_1_L4 P t63 t62 end0 rows8 K x.1 hh (fun a0 hz => ZZ (a0, ()) hz)) ((.int .i64 0), ()) h_12)

def sh_net_of_1_C2 (P : Program) (t16 t1 end0 : Value) (K : Value → Heap → Prop) (all7 rows8 : Value) (h_11 : Heap) : Prop :=
  pLen t16 fun t41 =>
  LoopH (σ := Vals [9, 42]) (fun x hh ZZ => sh_net_of_1_L3 P t41 t16 all7 rows8 t1 end0 K x.1 x.2.1 hh (fun a0 a1 hz => ZZ (a0, (a1, ())) hz)) ((.int .i64 0), ((.int .i64 0), ())) h_11

def sh_net_of_1_L1 (P : Program) (t19 t18 end0 t16 t1 : Value) (K : Value → Heap → Prop) (t20 : Value) (h_2 : Heap) (Z : Value → Heap → Prop) : Prop :=
  pBin .lss t20 t19 fun t21 =>
  ifV t21
  (pIdx 3 t18 t20 fun t22 =>
  pLoadN 3 h_2 t22 fun t23 =>
  pBox T_api_Arc (.agg #[(.int .i64 0), (.int .i64 0), (.int .i64 0)]) h_2 fun a6 h_3 =>
  pStore 3 a6 t23 h_3 fun u h_4 =>
  pLoadN 3 h_4 a6 fun t26 =>
  callV P end0 [t26].toArray h_4 fun t27 h_5 =>
  pIdx 1 t16 t27 fun t28 =>
  pLoad h_5 t28 fun t29 =>
  pBin .add t29 (.int .i64 1) fun t30 =>
  pIdx 1 t16 t27 fun t31 =>
  pStore 1 t31 t30 h_5 fun u_1 h_6 =>
  pBin .add t20 (.int .i64 1) fun t32 =>
  Z t32 h_6)
  (cutP (σ := Vals [7, 8]) (fun J =>
  pField 3 t1 fun t33 =>
  pLoad h_2 t33 fun t34 =>
  pLen t34 fun t35 =>
  pField 0 t1 fun t37 =>
  pLoad h_2 t37 fun t38 =>
  (pMakeSlice T_int 8 [(.int .i64 0)] t35 t35 h_2 fun t36 h_7 =>
  pMakeSlice T_sl_int 24 [(.slice none 0 0)] t38 t38 h_7 fun t39 h_8 =>
  J (t36, (t39, ())) h_8) ∧
  (pMakeSlice T_sl_int 24 [(.slice none 0 0)] t38 t38 h_2 fun t39_1 h_9 =>
  pMakeSlice T_int 8 [(.int .i64 0)] t35 t35 h_9 fun t36_1 h_10 =>
  J (t36_1, (t39_1, ())) h_10))
  (fun x hh => sh_net_of_1_C2 P t16 t1 end0 K x.1 x.2.1 hh))

def sh_net_of_1 (P : Program) (end0 t1 : Value) (h : Heap) (K : Value → Heap → Prop) : Prop :=
  pField 0 t1 fun t14 =>
  pLoad h t14 fun t15 =>
  pMakeSlice T_int 8 [(.int .i64 0)] t15 t15 h fun t16 h_1 =>
  pField 3 t1 fun t17 =>
  pLoad h_1 t17 fun t18 =>
  pLen t18 fun t19 =>
  LoopH (σ := Vals [20]) (fun x hh ZZ => sh_net_of_1_L1 P t19 t18 end0 t16 t1 K x.1 hh (fun a0 hz => ZZ (a0, ()) hz)) ((.int .i64 0), ()) h_1

set_option maxRecDepth 100000 in
theorem lk_net_of_1 (end0 t1 : Value) {h : Heap} {K : Value → Heap → Prop} (H : sh_net_of_1 Tryz.prog end0 t1 h K) : CallsH Tryz.prog F_net_of_1 [end0, t1].toArray h K :=
  callsH_of (ann := (annG (Tryz.f63.body.getD .skip) 0 [(4, [20]), (9, [7, 8]), (13, [9, 42]), (21, [64]), (24, [])]).1) (c := Tryz.f63.body.getD .skip) Tryz.func63 (by kernel_rfl) (by kernel_rfl) (by kernel_rfl) (of_decide_eq_true (by kernel_rfl))
    (Eq.mpr (by kernel_rfl) H)

/-! milestone/net.of$2 -/

def sh_net_of_2 (P : Program) (a0 : Value) (h : Heap) (K : Value → Heap → Prop) : Prop :=
  pBox T_api_Arc a0 h fun a1 h_1 =>
  pField 0 a1 fun t3 =>
  pLoad h_1 t3 fun t4 =>
  K t4 h_1

set_option maxRecDepth 100000 in
theorem lk_net_of_2 (a0 : Value) {h : Heap} {K : Value → Heap → Prop} (H : sh_net_of_2 Tryz.prog a0 h K) : CallsH Tryz.prog F_net_of_2 [a0].toArray h K :=
  callsH_of (ann := (annG (Tryz.f64.body.getD .skip) 0 []).1) (c := Tryz.f64.body.getD .skip) Tryz.func64 (by kernel_rfl) (by kernel_rfl) (by kernel_rfl) (of_decide_eq_true (by kernel_rfl))
    (Eq.mpr (by kernel_rfl) H)

/-! milestone/net.of$3 -/

def sh_net_of_3 (P : Program) (a0 : Value) (h : Heap) (K : Value → Heap → Prop) : Prop :=
  pBox T_api_Arc a0 h fun a1 h_1 =>
  pField 1 a1 fun t3 =>
  pLoad h_1 t3 fun t4 =>
  K t4 h_1

set_option maxRecDepth 100000 in
theorem lk_net_of_3 (a0 : Value) {h : Heap} {K : Value → Heap → Prop} (H : sh_net_of_3 Tryz.prog a0 h K) : CallsH Tryz.prog F_net_of_3 [a0].toArray h K :=
  callsH_of (ann := (annG (Tryz.f65.body.getD .skip) 0 []).1) (c := Tryz.f65.body.getD .skip) Tryz.func65 (by kernel_rfl) (by kernel_rfl) (by kernel_rfl) (of_decide_eq_true (by kernel_rfl))
    (Eq.mpr (by kernel_rfl) H)

/-! slices.Clone[[]int64,int64] -/

def sh_slices_Clone_sl_int64_int64 (P : Program) (s0 : Value) (h : Heap) (K : Value → Heap → Prop) : Prop :=
  pEq false .slice s0 (.slice none 0 0) fun t4 =>
  ifV t4
  (K (.slice none 0 0) h)
  (pBuildSlice T_int64 (zerosL [(.int .i64 0)] 0) [] 0 h fun t5 h_1 =>
  pAppend T_int64 1 8 [(.int .i64 0)] t5 s0 h_1 fun t7 h_2 =>
  K t7 h_2)

set_option maxRecDepth 100000 in
theorem lk_slices_Clone_sl_int64_int64 (s0 : Value) {h : Heap} {K : Value → Heap → Prop} (H : sh_slices_Clone_sl_int64_int64 Tryz.prog s0 h K) : CallsH Tryz.prog F_slices_Clone_sl_int64_int64 [s0].toArray h K :=
  callsH_of (ann := (annG (Tryz.f66.body.getD .skip) 0 []).1) (c := Tryz.f66.body.getD .skip) Tryz.func66 (by kernel_rfl) (by kernel_rfl) (by kernel_rfl) (of_decide_eq_true (by kernel_rfl))
    (Eq.mpr (by kernel_rfl) H)

/-! slices.Clone[[]milestone/api.Arc,milestone/api.Arc] -/

def sh_slices_Clone_sl_api_Arc_api_Arc (P : Program) (s0 : Value) (h : Heap) (K : Value → Heap → Prop) : Prop :=
  pEq false .slice s0 (.slice none 0 0) fun t4 =>
  ifV t4
  (K (.slice none 0 0) h)
  (pBuildSlice T_api_Arc (zerosL [(.int .i64 0), (.int .i64 0), (.int .i64 0)] 0) [] 0 h fun t5 h_1 =>
  pAppend T_api_Arc 3 24 [(.int .i64 0), (.int .i64 0), (.int .i64 0)] t5 s0 h_1 fun t7 h_2 =>
  K t7 h_2)

set_option maxRecDepth 100000 in
theorem lk_slices_Clone_sl_api_Arc_api_Arc (s0 : Value) {h : Heap} {K : Value → Heap → Prop} (H : sh_slices_Clone_sl_api_Arc_api_Arc Tryz.prog s0 h K) : CallsH Tryz.prog F_slices_Clone_sl_api_Arc_api_Arc [s0].toArray h K :=
  callsH_of (ann := (annG (Tryz.f67.body.getD .skip) 0 []).1) (c := Tryz.f67.body.getD .skip) Tryz.func67 (by kernel_rfl) (by kernel_rfl) (by kernel_rfl) (of_decide_eq_true (by kernel_rfl))
    (Eq.mpr (by kernel_rfl) H)

end Go.Proofs.YtjamcgoebnafkaaGreatDoor
