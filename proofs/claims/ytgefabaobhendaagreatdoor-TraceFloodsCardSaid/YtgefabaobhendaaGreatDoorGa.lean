/- Texts of the proofs of seat YtgefabaobhendaaGreatDoor, joined: Ids, Gen1, Gen2, Gen3, Gen4, Gen5, Gen. They have no conditions of their own. -/
import Derived.Test.YtgefabaobhendaaGreatDoorMc
import Derived.Test.YtgefabaobhendaaGreatDoorChecked
import Derived.KernelRfl
set_option linter.unusedVariables false
set_option linter.unusedSimpArgs false

namespace Go.Proofs.YtgefabaobhendaaGreatDoor
abbrev F_gosem_cut_init : Nat := 2
abbrev F_milestonelaw12_TraceSpoilt : Nat := 3
abbrev F_milestonelaw12_TraceFloods : Nat := 4
abbrev F_milestonelaw12_works : Nat := 5
abbrev F_milestonelaw12_flooded : Nat := 6
abbrev F_milestonelaw12_made : Nat := 7
abbrev F_trace_Once : Nat := 8
abbrev F_trace_Heads : Nat := 9
abbrev F_flood_From : Nat := 10
abbrev F_flood_To : Nat := 11
abbrev F_trace_Label : Nat := 12
abbrev F_trace_Pops : Nat := 13
abbrev F_trace_Scans : Nat := 14
abbrev F_trace_Beyond : Nat := 15
abbrev F_milestonelaw12_pop : Nat := 16
abbrev F_milestonelaw12_scan : Nat := 17
abbrev F_milestonelaw12_drawn : Nat := 18
abbrev F_net_Net_Out : Nat := 19
abbrev F_net_Net_In : Nat := 20
abbrev F_net_New : Nat := 21
abbrev F_trace_may : Nat := 22
abbrev F_slices_ContainsFunc_sl_api_Event_api_Event : Nat := 23
abbrev F_trace_Once_1 : Nat := 24
abbrev F_trace_Heads_1 : Nat := 25
abbrev F_trace_tail : Nat := 26
abbrev F_flood_flood : Nat := 27
abbrev F_flood_From_1 : Nat := 28
abbrev F_flood_To_1 : Nat := 29
abbrev F_trace_of : Nat := 30
abbrev F_trace_told_int : Nat := 31
abbrev F_trace_id : Nat := 32
abbrev F_slices_IndexFunc_sl_api_Event_api_Event : Nat := 33
abbrev F_trace_Beyond_1 : Nat := 34
abbrev F_milestoneref07_Draft_Raw : Nat := 35
abbrev F_net_one_sl_int : Nat := 36
abbrev F_slices_Clone_sl_int_int : Nat := 37
abbrev F_graph_Check : Nat := 38
abbrev F_api_Told : Nat := 39
abbrev F_net_of : Nat := 40
abbrev F_net_own : Nat := 41
abbrev F_trace_may_1 : Nat := 42
abbrev F_net_Net_Nodes : Nat := 43
abbrev F_net_Net_Arcs : Nat := 44
abbrev F_net_Net_Arc : Nat := 45
abbrev F_heap_New : Nat := 46
abbrev F_slices_Repeat_sl_int64_int64 : Nat := 47
abbrev F_slices_Repeat_sl_int_int : Nat := 48
abbrev F_heap_Heap_Push : Nat := 49
abbrev F_heap_Heap_Pop : Nat := 50
abbrev F_flood_arcs : Nat := 51
abbrev F_flood_run_reach : Nat := 52
abbrev F_trace_of_1 : Nat := 53
abbrev F_milestoneref07_Draft_Next : Nat := 54
abbrev F_milestoneref07_Draft_Weight : Nat := 55
abbrev F_graph_Check_1 : Nat := 56
abbrev F_graph_look : Nat := 57
abbrev F_errors_As : Nat := 58
abbrev F_net_of_1 : Nat := 59
abbrev F_net_of_2 : Nat := 60
abbrev F_net_of_3 : Nat := 61
abbrev F_slices_Clone_sl_int64_int64 : Nat := 62
abbrev F_slices_Clone_sl_api_Arc_api_Arc : Nat := 63
abbrev F_net_one_api_Arc : Nat := 64
abbrev F_math_bits_Mul : Nat := 65
abbrev F_heap_row_up : Nat := 66
abbrev F_heap_Heap_Len : Nat := 67
abbrev F_heap_row_swap : Nat := 68
abbrev F_heap_row_down : Nat := 69
abbrev F_flood_arcs_1 : Nat := 70
abbrev F_heap_Heap_Key : Nat := 71
abbrev F_heap_Heap_Lower : Nat := 72
abbrev F_graph_look_1 : Nat := 73
abbrev F_graph_one : Nat := 74
abbrev F_graph_look_2 : Nat := 75
abbrev F_graph_shapes : Nat := 76
abbrev F_graph_look_3 : Nat := 77
abbrev F_graph_nodes : Nat := 78
abbrev F_graph_look_4 : Nat := 79
abbrev F_graph_look_5 : Nat := 80
abbrev F_graph_arcs : Nat := 81
abbrev F_errors_as : Nat := 85
abbrev F_math_bits_Mul32 : Nat := 86
abbrev F_math_bits_Mul64 : Nat := 87
abbrev F_heap_row_ahead : Nat := 88
abbrev F_heap_row_below : Nat := 89
abbrev F_slices_Values_sl_graph_place_graph_place : Nat := 90
abbrev F_graph_nodes_1 : Nat := 91
abbrev F_graph_arcs_1 : Nat := 92
abbrev F_cmp_Or_int : Nat := 96
abbrev F_cmp_Compare_int64 : Nat := 97
abbrev F_cmp_Compare_int : Nat := 98
abbrev F_heap_row_below_1 : Nat := 99
abbrev F_slices_Values_sl_graph_place_graph_place_1 : Nat := 100
abbrev F_cmp_isNaN_int64 : Nat := 101
abbrev F_cmp_isNaN_int : Nat := 102
abbrev F_api_Fault_Unwrap : Nat := 122
abbrev F_net_trouble_Unwrap : Nat := 123
abbrev F_graph_trouble_Unwrap : Nat := 124
abbrev F_gosem_cut_vars : Nat := 143
abbrev T_ : Nat := 0
abbrev T_func : Nat := 1
abbrev T_int64 : Nat := 2
abbrev T_int : Nat := 3
abbrev T_bool : Nat := 4
abbrev T_uint8 : Nat := 5
abbrev T_abi_BoundsErrorCode : Nat := 6
abbrev T_struct_x_int64_y_int_signed_bool_code_abi_BoundsErrorCode : Nat := 7
abbrev T_runtime_boundsError : Nat := 8
abbrev T_string : Nat := 9
abbrev T_runtime_errorString : Nat := 10
abbrev T_runtime_plainError : Nat := 11
abbrev T_uintptr : Nat := 12
abbrev T_struct_msg_string_addr_uintptr : Nat := 13
abbrev T_runtime_errorAddressString : Nat := 14
abbrev T_p_runtime_TypeAssertionError : Nat := 15
abbrev T_p_runtime_PanicNilError : Nat := 16
abbrev T_p_abi_Type : Nat := 17
abbrev T_struct_typ_p_abi_Type : Nat := 18
abbrev T_maps_unhashableTypeError : Nat := 19
abbrev T_interface : Nat := 20
abbrev T_int32 : Nat := 21
abbrev T_sl_uint8 : Nat := 22
abbrev T_func_bool : Nat := 23
abbrev T_sl_int64 : Nat := 24
abbrev T_sl_api_Arc : Nat := 25
abbrev T_struct_Nodes_int_X_sl_int64_Y_sl_int64_Arcs_sl_api_Arc : Nat := 26
abbrev T_api_Raw : Nat := 27
abbrev T_sl_api_Event : Nat := 28
abbrev T_api_Raw_sl_api_Event : Nat := 29
abbrev T_func_sl_uint8_uint8_api_Raw_sl_api_Event : Nat := 30
abbrev T_p_net_Net : Nat := 31
abbrev T_func_api_Raw_p_net_Net : Nat := 32
abbrev T_struct_Kind_int_Side_int_Id_int_Label_int64 : Nat := 33
abbrev T_api_Event : Nat := 34
abbrev T_funcnet_Net_sl_api_Event_bool : Nat := 35
abbrev T_func_sl_uint8_uint8_uint8_bool : Nat := 36
abbrev T_sl_int : Nat := 37
abbrev T_struct_Dist_sl_int64_Arc_sl_int_Order_sl_int : Nat := 38
abbrev T_flood_Tree : Nat := 39
abbrev T_funcnet_Net_int_flood_Tree : Nat := 40
abbrev T_int64_bool : Nat := 41
abbrev T_func_sl_api_Event_int_int_int64_bool : Nat := 42
abbrev T_func_sl_api_Event_int_sl_int : Nat := 43
abbrev T_func_sl_api_Event_sl_int64_int64_int : Nat := 44
abbrev T_func_sl_uint8_uint8_bool : Nat := 45
abbrev T_struct_From_int_To_int_Weight_int64 : Nat := 46
abbrev T_api_Arc : Nat := 47
abbrev T_func_int_int_int64_api_Event : Nat := 48
abbrev T_func_int_int_api_Event : Nat := 49
abbrev T_func_sl_uint8_api_Raw : Nat := 50
abbrev T_func_int_sl_int : Nat := 51
abbrev T_interface_Error_string : Nat := 52
abbrev T_error : Nat := 53
abbrev T_net_Net_error : Nat := 54
abbrev T_func_api_Raw_net_Net_error : Nat := 55
abbrev T_func_api_Event_bool : Nat := 56
abbrev T_funcnet_Net_func_api_Event_bool : Nat := 57
abbrev T_map_3_int_int : Nat := 58
abbrev T_func_sl_api_Event_func_api_Event_bool_bool : Nat := 59
abbrev T_3_int : Nat := 60
abbrev T_2_int : Nat := 61
abbrev T_funcnet_Net_int_int_int : Nat := 62
abbrev T_funcnet_Net_int_func_int_sl_int_func_api_Arc_int_flood_Tree : Nat := 63
abbrev T_func_api_Arc_int : Nat := 64
abbrev T_func_func_int_api_Event_bool : Nat := 65
abbrev T_iter_Seq2_int_api_Event : Nat := 66
abbrev T_func_sl_api_Event_int_int_iter_Seq2_int_api_Event : Nat := 67
abbrev T_func_iter_Seq2_int_api_Event_func_api_Event_int_sl_int : Nat := 68
abbrev T_func_api_Event_int : Nat := 69
abbrev T_func_sl_api_Event_func_api_Event_bool_int : Nat := 70
abbrev T_p_milestoneref07_Draft : Nat := 71
abbrev T_struct_B_sl_uint8_At_int : Nat := 72
abbrev T_milestoneref07_Draft : Nat := 73
abbrev T_func_api_Raw : Nat := 74
abbrev T_sl_int_bool : Nat := 75
abbrev T_func_sl_sl_int_int_sl_int_bool : Nat := 76
abbrev T_sl_sl_int : Nat := 77
abbrev T_struct_raw_api_Raw_out_sl_sl_int_in_sl_sl_int : Nat := 78
abbrev T_net_Net : Nat := 79
abbrev T_func_sl_int_sl_int : Nat := 80
abbrev T_func_api_Raw_error : Nat := 81
abbrev T_api_Errno : Nat := 82
abbrev T_struct_Code_api_Errno_Phase_int_Index_int_Field_int : Nat := 83
abbrev T_api_Fault : Nat := 84
abbrev T_func_error_api_Fault : Nat := 85
abbrev T_p_api_Fault : Nat := 86
abbrev T_struct_p_api_Fault : Nat := 87
abbrev T_net_trouble : Nat := 88
abbrev T_func_api_Raw_api_Raw : Nat := 89
abbrev T_func_int : Nat := 90
abbrev T_map_int_int : Nat := 91
abbrev T_api_Arc_bool : Nat := 92
abbrev T_func_int_api_Arc_bool : Nat := 93
abbrev T_p_flood_run : Nat := 94
abbrev T_p_heap_Heap : Nat := 95
abbrev T_func_int_p_heap_Heap : Nat := 96
abbrev T_func_sl_int64_int_sl_int64 : Nat := 97
abbrev T_func_sl_int_int_sl_int : Nat := 98
abbrev T_struct_p_heap_Heap_flood_Tree_closed_map_int_int : Nat := 99
abbrev T_flood_run : Nat := 100
abbrev T_func_int_int64_api_Errno : Nat := 101
abbrev T_int_int64_bool : Nat := 102
abbrev T_func_int_int64_bool : Nat := 103
abbrev T_func_func_int_api_Arc_bool : Nat := 104
abbrev T_iter_Seq2_int_api_Arc : Nat := 105
abbrev T_funcnet_Net_sl_int_func_api_Arc_int_iter_Seq2_int_api_Arc : Nat := 106
abbrev T_func_int_int_int64 : Nat := 107
abbrev T_func_int_api_Event_bool : Nat := 108
abbrev T_func_int_int : Nat := 109
abbrev T_func_int64 : Nat := 110
abbrev T_graph_trouble : Nat := 111
abbrev T_graph_trouble_bool : Nat := 112
abbrev T_func_api_Raw_v2 : Nat := 113
abbrev T_func_error_interface_bool : Nat := 114
abbrev T_p_p_api_Fault : Nat := 115
abbrev T_p_api_Errno : Nat := 116
abbrev T_func_func_api_Arc_int_sl_sl_int : Nat := 117
abbrev T_func_sl_int64_sl_int64 : Nat := 118
abbrev T_func_sl_api_Arc_sl_api_Arc : Nat := 119
abbrev T_func_sl_api_Arc_int_api_Arc_bool : Nat := 120
abbrev T_sl_heap_held : Nat := 121
abbrev T_struct_l_sl_heap_held_at_map_int_int : Nat := 122
abbrev T_heap_row : Nat := 123
abbrev T_struct_heap_row_n_int : Nat := 124
abbrev T_heap_Heap : Nat := 125
abbrev T_uint : Nat := 126
abbrev T_uint_uint : Nat := 127
abbrev T_func_uint_uint_uint_uint : Nat := 128
abbrev T_int_bool : Nat := 129
abbrev T_struct_id_int_key_int64 : Nat := 130
abbrev T_heap_held : Nat := 131
abbrev T_func_int_v2 : Nat := 132
abbrev T_func_int_int_v2 : Nat := 133
abbrev T_func_int_api_Arc_bool_v2 : Nat := 134
abbrev T_func_int_int64_bool_v2 : Nat := 135
abbrev T_func_func_graph_place_bool : Nat := 136
abbrev T_iter_Seq_graph_place : Nat := 137
abbrev T_func_api_Errno_int_int_int_iter_Seq_graph_place : Nat := 138
abbrev T_func_iter_Seq_graph_place : Nat := 139
abbrev T_func_api_Raw_iter_Seq_graph_place : Nat := 140
abbrev T_sl_func_iter_Seq_graph_place : Nat := 141
abbrev T_struct_index_int_field_int_code_api_Errno_n_int64_least_int64_end_int64 : Nat := 142
abbrev T_graph_place : Nat := 143
abbrev T_unsafe_Pointer : Nat := 144
abbrev T_reflectlite_flag : Nat := 145
abbrev T_struct_typ_p_abi_Type_ptr_unsafe_Pointer_reflectlite_flag : Nat := 146
abbrev T_reflectlite_Value : Nat := 147
abbrev T_func_interface_reflectlite_Value : Nat := 148
abbrev T_interface_AssignableTo_reflectlite_Type_bool_Comparable_bool_Elem_reflectlite_Type_Implements_reflectlite_Type_bool_Kind_abi_Kind_Name_string_PkgPath_string_Size_uintptr_String_string_reflectlite_common_p_abi_Type_reflectlite_uncommon_p_abi_UncommonType : Nat := 149
abbrev T_reflectlite_Type : Nat := 150
abbrev T_func_reflectlite_Type : Nat := 151
abbrev T_abi_Kind : Nat := 152
abbrev T_func_abi_Kind : Nat := 153
abbrev T_func_reflectlite_Type_bool : Nat := 154
abbrev T_func_error_interface_reflectlite_Value_reflectlite_Type_bool : Nat := 155
abbrev T_uint32 : Nat := 156
abbrev T_uint32_uint32 : Nat := 157
abbrev T_func_uint32_uint32_uint32_uint32 : Nat := 158
abbrev T_uint64 : Nat := 159
abbrev T_uint64_uint64 : Nat := 160
abbrev T_func_uint64_uint64_uint64_uint64 : Nat := 161
abbrev T_p_heap_row : Nat := 162
abbrev T_func_int_int_bool : Nat := 163
abbrev T_func_func_int_bool : Nat := 164
abbrev T_iter_Seq_int : Nat := 165
abbrev T_func_int_iter_Seq_int : Nat := 166
abbrev T_func_sl_graph_place_iter_Seq_graph_place : Nat := 167
abbrev T_sl_graph_place : Nat := 168
abbrev T_func_graph_place_bool : Nat := 169
abbrev T_struct_p_abi_Type : Nat := 170
abbrev T_reflectlite_rtype : Nat := 171
abbrev T_p_reflectlite_ValueError : Nat := 172
abbrev T_func_interface_reflectlite_Type : Nat := 173
abbrev T_func_reflectlite_Value : Nat := 174
abbrev T_func_reflectlite_Value_v2 : Nat := 175
abbrev T_interface_As_interface_bool : Nat := 176
abbrev T_interface_As_interface_bool_bool : Nat := 177
abbrev T_func_interface_bool : Nat := 178
abbrev T_interface_Unwrap_error : Nat := 179
abbrev T_func_error : Nat := 180
abbrev T_interface_Unwrap_sl_error : Nat := 181
abbrev T_sl_error : Nat := 182
abbrev T_func_sl_error : Nat := 183
abbrev T_func_int_int_v3 : Nat := 184
abbrev T_func_int64_int64_int : Nat := 185
abbrev T_func_int_int_int : Nat := 186
abbrev T_func_int_bool : Nat := 187
abbrev T_func_int64_bool : Nat := 188
abbrev T_func_string : Nat := 189
abbrev T_struct_interface_p_abi_Type_concrete_p_abi_Type_asserted_p_abi_Type_missingMethod_string : Nat := 190
abbrev T_runtime_TypeAssertionError : Nat := 191
abbrev T_0_p_runtime_PanicNilError : Nat := 192
abbrev T_struct_0_p_runtime_PanicNilError : Nat := 193
abbrev T_runtime_PanicNilError : Nat := 194
abbrev T_func_p_abi_Type : Nat := 195
abbrev T_abi_TFlag : Nat := 196
abbrev T_func_unsafe_Pointer_unsafe_Pointer_bool : Nat := 197
abbrev T_p_uint8 : Nat := 198
abbrev T_abi_NameOff : Nat := 199
abbrev T_abi_TypeOff : Nat := 200
abbrev T_struct_Size_uintptr_PtrBytes_uintptr_Hash_uint32_TFlag_abi_TFlag_Align_uint8_FieldAlign_uint8_Kind_abi_Kind_Equal_func_unsafe_Pointer_unsafe_Pointer_bool_GCData_p_uint8_Str_abi_NameOff_PtrToThis_abi_TypeOff : Nat := 201
abbrev T_abi_Type : Nat := 202
abbrev T_func_uintptr : Nat := 203
abbrev T_func_p_abi_UncommonType : Nat := 204
abbrev T_struct_Method_string_Kind_abi_Kind : Nat := 205
abbrev T_reflectlite_ValueError : Nat := 206
abbrev T_p_abi_UncommonType : Nat := 207
abbrev T_func_sl_abi_Method : Nat := 208
abbrev T_uint16 : Nat := 209
abbrev T_struct_PkgPath_abi_NameOff_Mcount_uint16_Xcount_uint16_Moff_uint32_uint32 : Nat := 210
abbrev T_abi_UncommonType : Nat := 211
abbrev T_sl_abi_Method : Nat := 212
abbrev T_abi_TextOff : Nat := 213
abbrev T_struct_Name_abi_NameOff_Mtyp_abi_TypeOff_Ifn_abi_TextOff_Tfn_abi_TextOff : Nat := 214
abbrev T_abi_Method : Nat := 215
abbrev T_p_error : Nat := 216
abbrev G_errors_errorType : Nat := 0
end Go.Proofs.YtgefabaobhendaaGreatDoor

namespace Go.Proofs.YtgefabaobhendaaGreatDoor
open Go Go.Mh
set_option maxHeartbeats 0
set_option linter.unusedVariables false

/-! milestone/milestonelaw12.TraceSpoilt -/

def sh_milestonelaw12_TraceSpoilt_k1 (P : Program) (K : Value → Heap → Prop) (h_6 : Heap) : Prop :=
  K (.bool false) h_6

def sh_milestonelaw12_TraceSpoilt_k3 (P : Program) (K : Value → Heap → Prop) (h_20 : Heap) : Prop :=
  K (.bool false) h_20

def sh_milestonelaw12_TraceSpoilt_C2 (P : Program) (t24 : Value) (K : Value → Heap → Prop) (t22 t36 g7 twice11 : Value) (h_18 : Heap) : Prop :=
  callS P F_trace_Once [t24, twice11] h_18 fun t48 h_19 =>
  ifV t48
  (sh_milestonelaw12_TraceSpoilt_k3 P K h_19)
  (pSlice 4 t22 none (some t36) none fun t53 =>
  callS P F_trace_Once [t24, t53] h_19 fun t54 h_21 =>
  pUn .not t54 fun t55 =>
  ifV t55
  (sh_milestonelaw12_TraceSpoilt_k3 P K h_21)
  (pSlice 4 t22 none (some t36) none fun t61 =>
  callS P F_trace_Heads [t24, t61] h_21 fun t62 h_22 =>
  pUn .not t62 fun t63 =>
  ifV t63
  (sh_milestonelaw12_TraceSpoilt_k3 P K h_22)
  (pIdx 4 t22 t36 fun t67 =>
  pField 0 t67 fun t68 =>
  pLoad h_22 t68 fun t69 =>
  pBin .eql t69 (.int .i64 1) fun t70 =>
  ifV t70
  (pIdx 4 t22 t36 fun t73 =>
  pLoadN 4 h_22 t73 fun t74 =>
  pBuildSlice T_api_Event (zerosL [(.int .i64 0), (.int .i64 0), (.int .i64 0), (.int .i64 0)] 1) [(0, 4, t74)] 1 h_22 fun t75 h_23 =>
  pAppend T_api_Event 4 32 [(.int .i64 0), (.int .i64 0), (.int .i64 0), (.int .i64 0)] t75 t22 h_23 fun t77 h_24 =>
  callS P F_trace_Heads [t24, t77] h_24 fun t80 h_25 =>
  pUn .not t80 fun t81 =>
  ifV t81
  (callS P F_trace_Once [t24, t77] h_25 fun t85 h_26 =>
  pUn .not t85 fun t86 =>
  K t86 h_26)
  (K (.bool false) h_25))
  (pBuildSlice T_api_Event (zerosL [(.int .i64 0), (.int .i64 0), (.int .i64 0), (.int .i64 0)] 0) [] 0 h_22 fun t88 h_27 =>
  pAppend T_api_Event 4 32 [(.int .i64 0), (.int .i64 0), (.int .i64 0), (.int .i64 0)] t88 t22 h_27 fun t90 h_28 =>
  pIdx 4 t90 t36 fun t93 =>
  pField 1 t93 fun t94 =>
  pStore 1 t94 (.int .i64 2) h_28 fun u_1 h_29 =>
  pBuildSlice T_api_Event (zerosL [(.int .i64 0), (.int .i64 0), (.int .i64 0), (.int .i64 0)] 0) [] 0 h_29 fun t95 h_30 =>
  pAppend T_api_Event 4 32 [(.int .i64 0), (.int .i64 0), (.int .i64 0), (.int .i64 0)] t95 t22 h_30 fun t97 h_31 =>
  pField 0 g7 fun t100 =>
  pLoad h_31 t100 fun t101 =>
  pIdx 4 t97 t36 fun t102 =>
  pField 2 t102 fun t103 =>
  pStore 1 t103 t101 h_31 fun u_2 h_32 =>
  callS P F_trace_Once [t24, t90] h_32 fun t106 h_33 =>
  pUn .not t106 fun t107 =>
  ifV t107
  (callS P F_trace_Heads [t24, t90] h_33 fun t111 h_34 =>
  pUn .not t111 fun t112 =>
  ifV t112
  (callS P F_trace_Once [t24, t97] h_34 fun t117 h_35 =>
  pUn .not t117 fun t118 =>
  ifV t118
  (callS P F_trace_Heads [t24, t97] h_35 fun t123 h_36 =>
  pUn .not t123 fun t124 =>
  K t124 h_36)
  (K (.bool false) h_35))
  (K (.bool false) h_34))
  (K (.bool false) h_33)))))

def sh_milestonelaw12_TraceSpoilt (P : Program) (b0 s1 at2 : Value) (h : Heap) (K : Value → Heap → Prop) : Prop :=
  callS P F_milestonelaw12_works [] h fun t15 h_1 =>
  pUn .not t15 fun t16 =>
  ifV t16
  (K (.bool false) h_1)
  (callS P F_milestonelaw12_flooded [b0, s1] h_1 fun t20 h_2 =>
  pExt t20 0 fun t21 =>
  pExt t20 1 fun t22 =>
  pBox T_api_Raw (.agg #[(.int .i64 0), (.slice none 0 0), (.slice none 0 0), (.slice none 0 0)]) h_2 fun g7 h_3 =>
  pStore 4 g7 t21 h_3 fun u h_4 =>
  pLoadN 4 h_4 g7 fun t23 =>
  callS P F_milestonelaw12_made [t23] h_4 fun t24 h_5 =>
  pEq false .ptr t24 (.pointer none) fun t26 =>
  ifV t26
  (sh_milestonelaw12_TraceSpoilt_k1 P K h_5)
  (pLen t22 fun t29 =>
  pBin .eql t29 (.int .i64 0) fun t30 =>
  ifV t30
  (sh_milestonelaw12_TraceSpoilt_k1 P K h_5)
  (pConv .i64 at2 fun t33 =>
  pLen t22 fun t35 =>
  pBin .rem t33 t35 fun t36 =>
  cutP (σ := Vals [11]) (fun J =>
  pIdx 4 t22 t36 fun t42 =>
  pLoadN 4 h_5 t42 fun t43 =>
  (pBuildSlice T_api_Event (zerosL [(.int .i64 0), (.int .i64 0), (.int .i64 0), (.int .i64 0)] 0) [] 0 h_5 fun t37 h_7 =>
  (pAppend T_api_Event 4 32 [(.int .i64 0), (.int .i64 0), (.int .i64 0), (.int .i64 0)] t37 t22 h_7 fun t39 h_8 =>
  (pLoadN 4 h_8 t42 fun t43_1 =>
  t43_1 = t43) ∧
  (pBuildSlice T_api_Event (zerosL [(.int .i64 0), (.int .i64 0), (.int .i64 0), (.int .i64 0)] 1) [(0, 4, t43)] 1 h_8 fun t44 h_9 =>
  pAppend T_api_Event 4 32 [(.int .i64 0), (.int .i64 0), (.int .i64 0), (.int .i64 0)] t39 t44 h_9 fun t45 h_10 =>
  J (t45, ()) h_10)) ∧
  (pBuildSlice T_api_Event (zerosL [(.int .i64 0), (.int .i64 0), (.int .i64 0), (.int .i64 0)] 1) [(0, 4, t43)] 1 h_7 fun t44_1 h_11 =>
  pAppend T_api_Event 4 32 [(.int .i64 0), (.int .i64 0), (.int .i64 0), (.int .i64 0)] t37 t22 h_11 fun t39_1 h_12 =>
  pAppend T_api_Event 4 32 [(.int .i64 0), (.int .i64 0), (.int .i64 0), (.int .i64 0)] t39_1 t44_1 h_12 fun t45_1 h_13 =>
  J (t45_1, ()) h_13)) ∧
  (pBuildSlice T_api_Event (zerosL [(.int .i64 0), (.int .i64 0), (.int .i64 0), (.int .i64 0)] 1) [(0, 4, t43)] 1 h_5 fun t44_2 h_14 =>
  pBuildSlice T_api_Event (zerosL [(.int .i64 0), (.int .i64 0), (.int .i64 0), (.int .i64 0)] 0) [] 0 h_14 fun t37_1 h_15 =>
  pAppend T_api_Event 4 32 [(.int .i64 0), (.int .i64 0), (.int .i64 0), (.int .i64 0)] t37_1 t22 h_15 fun t39_2 h_16 =>
  pAppend T_api_Event 4 32 [(.int .i64 0), (.int .i64 0), (.int .i64 0), (.int .i64 0)] t39_2 t44_2 h_16 fun t45_2 h_17 =>
  J (t45_2, ()) h_17))
  (fun x hh => sh_milestonelaw12_TraceSpoilt_C2 P t24 K t22 t36 g7 x.1 hh))))

set_option maxRecDepth 100000 in
theorem lk_milestonelaw12_TraceSpoilt (b0 s1 at2 : Value) {h : Heap} {K : Value → Heap → Prop} (H : sh_milestonelaw12_TraceSpoilt Tryz.prog b0 s1 at2 h K) : CallsH Tryz.prog F_milestonelaw12_TraceSpoilt [b0, s1, at2].toArray h K :=
  callsH_of (ann := (annG (Tryz.f3.body.getD .skip) 0 [(10, [11])]).1) (c := Tryz.f3.body.getD .skip) Tryz.func3 (by kernel_rfl) (by kernel_rfl) (by kernel_rfl) (of_decide_eq_true (by kernel_rfl))
    (Eq.mpr (by kernel_rfl) H)

/-! milestone/milestonelaw12.TraceFloods -/

def sh_milestonelaw12_TraceFloods_k1 (P : Program) (K : Value → Heap → Prop) (h_6 : Heap) : Prop :=
  K (.bool false) h_6

def sh_milestonelaw12_TraceFloods_k3 (P : Program) (K : Value → Heap → Prop) (h_18 : Heap) : Prop :=
  K (.bool false) h_18

def sh_milestonelaw12_TraceFloods_k5 (P : Program) (i11 : Value) (Z : Value → Heap → Prop) (h_20 : Heap) : Prop :=
  pBin .add i11 (.int .i64 1) fun t61 =>
  Z t61 h_20

def sh_milestonelaw12_TraceFloods_k4 (P : Program) (K : Value → Heap → Prop) (i11 : Value) (Z : Value → Heap → Prop) (t115 : Value) (h_19 : Heap) : Prop :=
  ifV t115
  (sh_milestonelaw12_TraceFloods_k3 P K h_19)
  (sh_milestonelaw12_TraceFloods_k5 P i11 Z h_19)

def sh_milestonelaw12_TraceFloods_k8 (P : Program) (i20 : Value) (Z_2 : Value → Value → Heap → Prop) (one19_1 : Value) (h_26 : Heap) : Prop :=
  pBin .add i20 (.int .i64 1) fun t139 =>
  Z_2 one19_1 t139 h_26

def sh_milestonelaw12_TraceFloods_C9 (P : Program) (K : Value → Heap → Prop) (t4 : Value) (h_31 : Heap) : Prop :=
  K t4 h_31

def sh_milestonelaw12_TraceFloods_L7 (P : Program) (t28 t117 x9 g5 most17 : Value) (K : Value → Heap → Prop) (one19 i20 : Value) (h_23 : Heap) (Z_2 : Value → Value → Heap → Prop) : Prop :=
  pLen t28 fun t136 =>
  pBin .lss i20 t136 fun t137 =>
  ifV t137
  (pIdx 4 t28 i20 fun t142 =>
  pField 1 t142 fun t143 =>
  pLoad h_23 t143 fun t144 =>
  pBin .eql t144 (.int .i64 0) fun t145 =>
  ifV t145
  (pIdx 4 t28 i20 fun t149 =>
  pLoadN 4 h_23 t149 fun t150 =>
  pBuildSlice T_api_Event (zerosL [(.int .i64 0), (.int .i64 0), (.int .i64 0), (.int .i64 0)] 1) [(0, 4, t150)] 1 h_23 fun t151 h_24 =>
  pAppend T_api_Event 4 32 [(.int .i64 0), (.int .i64 0), (.int .i64 0), (.int .i64 0)] one19 t151 h_24 fun t152 h_25 =>
  sh_milestonelaw12_TraceFloods_k8 P i20 Z_2 t152 h_25)
  (sh_milestonelaw12_TraceFloods_k8 P i20 Z_2 one19 h_23))
  (cutP (σ := Vals [4]) (fun J =>
  pLen t117 fun t154 =>
  pField 2 x9 fun t155 =>
  pLoad h_23 t155 fun t156 =>
  pLen t156 fun t157 =>
  pBin .eql t154 t157 fun t158 =>
  ifV t158
  (pLen t117 fun t161 =>
  pField 0 g5 fun t162 =>
  pLoad h_23 t162 fun t163 =>
  pBin .leq t161 t163 fun t164 =>
  ifV t164
  (pField 3 g5 fun t170 =>
  pLoad h_23 t170 fun t171 =>
  pLen t171 fun t172 =>
  callS P F_trace_Scans [t28, (.int .i64 0)] h_23 fun t168 h_27 =>
  (pLoad h_27 t170 fun t171_1 =>
  t171_1 = t171) ∧
  (pLen t168 fun t169 =>
  pBin .leq t169 t172 fun t173 =>
  ifV t173
  (pField 3 g5 fun t179 =>
  pLoad h_27 t179 fun t180 =>
  pLen t180 fun t181 =>
  callS P F_trace_Scans [t28, (.int .i64 1)] h_27 fun t177 h_28 =>
  (pLoad h_28 t179 fun t180_1 =>
  t180_1 = t180) ∧
  (pLen t177 fun t178 =>
  pBin .leq t178 t181 fun t182 =>
  ifV t182
  (pField 0 x9 fun t186 =>
  pLoad h_28 t186 fun t187 =>
  callS P F_trace_Beyond [one19, t187, most17] h_28 fun t189 h_29 =>
  pBin .eql t189 (.int .i64 (-1)) fun t190 =>
  ifV t190
  (pLen one19 fun t194 =>
  pBin .eql t194 (.int .i64 0) fun t195 =>
  ifV t195
  (J ((.bool true), ()) h_29)
  (pField 0 x9 fun t198 =>
  pLoad h_29 t198 fun t199 =>
  pBin .sub most17 (.int .i64 1) fun t201 =>
  callS P F_trace_Beyond [one19, t199, t201] h_29 fun t202 h_30 =>
  pBin .geq t202 (.int .i64 0) fun t203 =>
  ifV t203
  (J ((.bool true), ()) h_30)
  (pBin .lss most17 (.int .i64 0) fun t207 =>
  J (t207, ()) h_30)))
  (J ((.bool false), ()) h_29))
  (J ((.bool false), ()) h_28)))
  (J ((.bool false), ()) h_27)))
  (J ((.bool false), ()) h_23))
  (J ((.bool false), ()) h_23))
  (fun x hh => sh_milestonelaw12_TraceFloods_C9 P K x.1 hh))

def sh_milestonelaw12_TraceFloods_L6 (P : Program) (t117 x9 t28 g5 : Value) (K : Value → Heap → Prop) (most17 i18 : Value) (h_22 : Heap) (Z_1 : Value → Value → Heap → Prop) : Prop :=
  pLen t117 fun t120 =>
  pBin .lss i18 t120 fun t121 =>
  ifV t121
  (pField 0 x9 fun t125 =>
  pLoad h_22 t125 fun t126 =>
  pIdx 1 t117 i18 fun t129 =>
  pLoad h_22 t129 fun t130 =>
  pIdx 1 t126 t130 fun t131 =>
  pLoad h_22 t131 fun t132 =>
  pMax most17 t132 fun t133 =>
  pBin .add i18 (.int .i64 1) fun t123 =>
  Z_1 t133 t123 h_22)
  (LoopH (σ := Vals [19, 20]) (fun x hh ZZ => sh_milestonelaw12_TraceFloods_L7 P t28 t117 x9 g5 most17 K x.1 x.2.1 hh (fun a0 a1 hz => ZZ (a0, (a1, ())) hz)) ((.slice none 0 0), ((.int .i64 0), ())) h_22)

def sh_milestonelaw12_TraceFloods_L2 (P : Program) (g5 t28 x9 : Value) (K : Value → Heap → Prop) (y10 i11 : Value) (h_15 : Heap) (Z : Value → Heap → Prop) : Prop :=
  pField 0 g5 fun t57 =>
  pLoad h_15 t57 fun t58 =>
  pBin .lss i11 t58 fun t59 =>
  ifV t59
  (callS P F_trace_Label [t28, (.int .i64 0), i11] h_15 fun t65 h_16 =>
  pExt t65 0 fun t66 =>
  pExt t65 1 fun t67 =>
  callS P F_trace_Label [t28, (.int .i64 1), i11] h_16 fun t71 h_17 =>
  pExt t71 0 fun t72 =>
  pExt t71 1 fun t73 =>
  pField 0 x9 fun t75 =>
  pLoad h_17 t75 fun t76 =>
  pIdx 1 t76 i11 fun t78 =>
  pLoad h_17 t78 fun t79 =>
  pBin .lss t79 (.int .i64 72057594037927936) fun t80 =>
  pEq true .bool t67 t80 fun t81 =>
  ifV t81
  (sh_milestonelaw12_TraceFloods_k3 P K h_17)
  (pField 0 y10 fun t84 =>
  pLoad h_17 t84 fun t85 =>
  pIdx 1 t85 i11 fun t87 =>
  pLoad h_17 t87 fun t88 =>
  pBin .lss t88 (.int .i64 72057594037927936) fun t89 =>
  pEq true .bool t73 t89 fun t90 =>
  ifV t90
  (sh_milestonelaw12_TraceFloods_k3 P K h_17)
  (ifV t67
  (pField 0 x9 fun t96 =>
  pLoad h_17 t96 fun t97 =>
  pIdx 1 t97 i11 fun t99 =>
  pLoad h_17 t99 fun t100 =>
  pBin .neq t66 t100 fun t101 =>
  ifV t101
  (sh_milestonelaw12_TraceFloods_k3 P K h_17)
  (ifV t73
  (pField 0 y10 fun t108 =>
  pLoad h_17 t108 fun t109 =>
  pIdx 1 t109 i11 fun t111 =>
  pLoad h_17 t111 fun t112 =>
  pBin .neq t72 t112 fun t113 =>
  sh_milestonelaw12_TraceFloods_k4 P K i11 Z t113 h_17)
  (sh_milestonelaw12_TraceFloods_k5 P i11 Z h_17)))
  (ifV t73
  (pField 0 y10 fun t108_1 =>
  pLoad h_17 t108_1 fun t109_1 =>
  pIdx 1 t109_1 i11 fun t111_1 =>
  pLoad h_17 t111_1 fun t112_1 =>
  pBin .neq t72 t112_1 fun t113_1 =>
  sh_milestonelaw12_TraceFloods_k4 P K i11 Z t113_1 h_17)
  (sh_milestonelaw12_TraceFloods_k5 P i11 Z h_17)))))
  (callS P F_trace_Pops [t28, (.int .i64 0)] h_15 fun t117 h_21 =>
  LoopH (σ := Vals [17, 18]) (fun x hh ZZ => sh_milestonelaw12_TraceFloods_L6 P t117 x9 t28 g5 K x.1 x.2.1 hh (fun a0 a1 hz => ZZ (a0, (a1, ())) hz)) ((.int .i64 0), ((.int .i64 0), ())) h_21)

def sh_milestonelaw12_TraceFloods (P : Program) (b0 s1 : Value) (h : Heap) (K : Value → Heap → Prop) : Prop :=
  callS P F_milestonelaw12_works [] h fun t21 h_1 =>
  pUn .not t21 fun t22 =>
  ifV t22
  (K (.bool false) h_1)
  (callS P F_milestonelaw12_flooded [b0, s1] h_1 fun t26 h_2 =>
  pExt t26 0 fun t27 =>
  pExt t26 1 fun t28 =>
  pBox T_api_Raw (.agg #[(.int .i64 0), (.slice none 0 0), (.slice none 0 0), (.slice none 0 0)]) h_2 fun g5 h_3 =>
  pStore 4 g5 t27 h_3 fun u h_4 =>
  pLoadN 4 h_4 g5 fun t29 =>
  callS P F_milestonelaw12_made [t29] h_4 fun t30 h_5 =>
  pEq false .ptr t30 (.pointer none) fun t32 =>
  ifV t32
  (sh_milestonelaw12_TraceFloods_k1 P K h_5)
  (callS P F_trace_Once [t30, t28] h_5 fun t36 h_7 =>
  pUn .not t36 fun t37 =>
  ifV t37
  (sh_milestonelaw12_TraceFloods_k1 P K h_7)
  (callS P F_trace_Heads [t30, t28] h_7 fun t42 h_8 =>
  pUn .not t42 fun t43 =>
  ifV t43
  (sh_milestonelaw12_TraceFloods_k1 P K h_8)
  (pConv .i64 s1 fun t46 =>
  pField 0 g5 fun t47 =>
  pLoad h_8 t47 fun t48 =>
  pBin .rem t46 t48 fun t49 =>
  callS P F_flood_From [t30, t49] h_8 fun t52 h_9 =>
  callS P F_flood_To [t30, t49] h_9 fun t55 h_10 =>
  pBox T_flood_Tree (.agg #[(.slice none 0 0), (.slice none 0 0), (.slice none 0 0)]) h_10 fun x9 h_11 =>
  pBox T_flood_Tree (.agg #[(.slice none 0 0), (.slice none 0 0), (.slice none 0 0)]) h_11 fun y10 h_12 =>
  pStore 3 x9 t52 h_12 fun u_1 h_13 =>
  pStore 3 y10 t55 h_13 fun u_2 h_14 =>
  LoopH (σ := Vals [11]) (fun x hh ZZ => sh_milestonelaw12_TraceFloods_L2 P g5 t28 x9 K y10 x.1 hh (fun a0 hz => ZZ (a0, ()) hz)) ((.int .i64 0), ()) h_14))))

set_option maxRecDepth 100000 in
theorem lk_milestonelaw12_TraceFloods (b0 s1 : Value) {h : Heap} {K : Value → Heap → Prop} (H : sh_milestonelaw12_TraceFloods Tryz.prog b0 s1 h K) : CallsH Tryz.prog F_milestonelaw12_TraceFloods [b0, s1].toArray h K :=
  callsH_of (ann := (annG (Tryz.f4.body.getD .skip) 0 [(13, [11]), (25, [17, 18]), (32, [19, 20]), (37, [4])]).1) (c := Tryz.f4.body.getD .skip) Tryz.func4 (by kernel_rfl) (by kernel_rfl) (by kernel_rfl) (of_decide_eq_true (by kernel_rfl))
    (Eq.mpr (by kernel_rfl) H)

/-! milestone/milestonelaw12.works -/

def sh_milestonelaw12_works (P : Program) (h : Heap) (K : Value → Heap → Prop) : Prop :=
  pBuildSlice T_int64 (zerosL [(.int .i64 0)] 2) [(0, 1, (.int .i64 0)), (1, 1, (.int .i64 0))] 2 h fun t8 h_1 =>
  pBuild [(.int .i64 0), (.int .i64 0), (.int .i64 0)] [(0, 1, (.int .i64 0)), (1, 1, (.int .i64 1))] fun t11 =>
  pBuild [(.int .i64 0), (.int .i64 0), (.int .i64 0)] [(0, 1, (.int .i64 1)), (1, 1, (.int .i64 1))] fun t12 =>
  pBuildSlice T_api_Arc (zerosL [(.int .i64 0), (.int .i64 0), (.int .i64 0)] 2) [(0, 3, t11), (3, 3, t12)] 2 h_1 fun t13 h_2 =>
  pBuild [(.int .i64 0), (.slice none 0 0), (.slice none 0 0), (.slice none 0 0)] [(0, 1, (.int .i64 2)), (1, 1, t8), (2, 1, t8), (3, 1, t13)] fun t14 =>
  callS P F_milestonelaw12_made [t14] h_2 fun t15 h_3 =>
  pEq false .ptr t15 (.pointer none) fun t17 =>
  ifV t17
  (K (.bool false) h_3)
  (callS P F_milestonelaw12_pop [(.int .i64 0), (.int .i64 0), (.int .i64 0)] h_3 fun t18 h_4 =>
  callS P F_milestonelaw12_scan [(.int .i64 0), (.int .i64 0)] h_4 fun t19 h_5 =>
  callS P F_milestonelaw12_pop [(.int .i64 0), (.int .i64 1), (.int .i64 0)] h_5 fun t20 h_6 =>
  callS P F_milestonelaw12_scan [(.int .i64 0), (.int .i64 1)] h_6 fun t21 h_7 =>
  pBuildSlice T_api_Event (zerosL [(.int .i64 0), (.int .i64 0), (.int .i64 0), (.int .i64 0)] 4) [(0, 4, t18), (4, 4, t19), (8, 4, t20), (12, 4, t21)] 4 h_7 fun t22 h_8 =>
  callS P F_milestonelaw12_scan [(.int .i64 0), (.int .i64 0)] h_8 fun t23 h_9 =>
  callS P F_milestonelaw12_pop [(.int .i64 0), (.int .i64 0), (.int .i64 0)] h_9 fun t24 h_10 =>
  pBuildSlice T_api_Event (zerosL [(.int .i64 0), (.int .i64 0), (.int .i64 0), (.int .i64 0)] 2) [(0, 4, t23), (4, 4, t24)] 2 h_10 fun t25 h_11 =>
  callS P F_milestonelaw12_pop [(.int .i64 0), (.int .i64 0), (.int .i64 0)] h_11 fun t26 h_12 =>
  callS P F_milestonelaw12_scan [(.int .i64 0), (.int .i64 0)] h_12 fun t27 h_13 =>
  callS P F_milestonelaw12_scan [(.int .i64 0), (.int .i64 0)] h_13 fun t28 h_14 =>
  pBuildSlice T_api_Event (zerosL [(.int .i64 0), (.int .i64 0), (.int .i64 0), (.int .i64 0)] 3) [(0, 4, t26), (4, 4, t27), (8, 4, t28)] 3 h_14 fun t29 h_15 =>
  callS P F_milestonelaw12_pop [(.int .i64 0), (.int .i64 0), (.int .i64 0)] h_15 fun t30 h_16 =>
  callS P F_milestonelaw12_pop [(.int .i64 1), (.int .i64 1), (.int .i64 0)] h_16 fun t31 h_17 =>
  callS P F_milestonelaw12_scan [(.int .i64 0), (.int .i64 0)] h_17 fun t32 h_18 =>
  callS P F_milestonelaw12_scan [(.int .i64 1), (.int .i64 0)] h_18 fun t33 h_19 =>
  pBuildSlice T_api_Event (zerosL [(.int .i64 0), (.int .i64 0), (.int .i64 0), (.int .i64 0)] 4) [(0, 4, t30), (4, 4, t31), (8, 4, t32), (12, 4, t33)] 4 h_19 fun t34 h_20 =>
  callS P F_milestonelaw12_pop [(.int .i64 0), (.int .i64 2), (.int .i64 0)] h_20 fun t35 h_21 =>
  pBuildSlice T_api_Event (zerosL [(.int .i64 0), (.int .i64 0), (.int .i64 0), (.int .i64 0)] 1) [(0, 4, t35)] 1 h_21 fun t36 h_22 =>
  callS P F_trace_Once [t15, t22] h_22 fun t39 h_23 =>
  ifV t39
  (callS P F_trace_Heads [t15, t22] h_23 fun t43 h_24 =>
  ifV t43
  (callS P F_trace_Once [t15, t25] h_24 fun t48 h_25 =>
  ifV t48
  (callS P F_trace_Heads [t15, t25] h_25 fun t53 h_26 =>
  pUn .not t53 fun t54 =>
  ifV t54
  (callS P F_trace_Once [t15, t29] h_26 fun t59 h_27 =>
  pUn .not t59 fun t60 =>
  ifV t60
  (callS P F_trace_Heads [t15, t29] h_27 fun t65 h_28 =>
  ifV t65
  (callS P F_trace_Once [t15, t34] h_28 fun t70 h_29 =>
  ifV t70
  (callS P F_trace_Heads [t15, t34] h_29 fun t75 h_30 =>
  ifV t75
  (callS P F_trace_Once [t15, t36] h_30 fun t80 h_31 =>
  pUn .not t80 fun t81 =>
  ifV t81
  (callS P F_trace_Heads [t15, t36] h_31 fun t86 h_32 =>
  pUn .not t86 fun t87 =>
  K t87 h_32)
  (K (.bool false) h_31))
  (K (.bool false) h_30))
  (K (.bool false) h_29))
  (K (.bool false) h_28))
  (K (.bool false) h_27))
  (K (.bool false) h_26))
  (K (.bool false) h_25))
  (K (.bool false) h_24))
  (K (.bool false) h_23))

set_option maxRecDepth 100000 in
theorem lk_milestonelaw12_works {h : Heap} {K : Value → Heap → Prop} (H : sh_milestonelaw12_works Tryz.prog h K) : CallsH Tryz.prog F_milestonelaw12_works [].toArray h K :=
  callsH_of (ann := (annG (Tryz.f5.body.getD .skip) 0 []).1) (c := Tryz.f5.body.getD .skip) Tryz.func5 (by kernel_rfl) (by kernel_rfl) (by kernel_rfl) (of_decide_eq_true (by kernel_rfl))
    (Eq.mpr (by kernel_rfl) H)

/-! milestone/milestonelaw12.flooded -/

def sh_milestonelaw12_flooded_k5 (P : Program) (i12 : Value) (Z : Value → Value → Heap → Prop) (l8_4 : Value) (h_31 : Heap) : Prop :=
  pBin .add i12 (.int .i64 1) fun t45 =>
  Z l8_4 t45 h_31

def sh_milestonelaw12_flooded_L4 (P : Program) (t119 i12 : Value) (Z : Value → Value → Heap → Prop) (l8_3 k16 : Value) (h_27 : Heap) (Z_2 : Value → Value → Heap → Prop) : Prop :=
  pLen t119 fun t122 =>
  pBin .lss k16 t122 fun t123 =>
  ifV t123
  (pIdx 1 t119 k16 fun t129 =>
  pLoad h_27 t129 fun t130 =>
  callS P F_milestonelaw12_scan [(.int .i64 1), t130] h_27 fun t131 h_28 =>
  pBuildSlice T_api_Event (zerosL [(.int .i64 0), (.int .i64 0), (.int .i64 0), (.int .i64 0)] 1) [(0, 4, t131)] 1 h_28 fun t132 h_29 =>
  pAppend T_api_Event 4 32 [(.int .i64 0), (.int .i64 0), (.int .i64 0), (.int .i64 0)] l8_3 t132 h_29 fun t133 h_30 =>
  pBin .add k16 (.int .i64 1) fun t125 =>
  Z_2 t133 t125 h_30)
  (sh_milestonelaw12_flooded_k5 P i12 Z l8_3 h_27)

def sh_milestonelaw12_flooded_k3 (P : Program) (y11 i12 t20 : Value) (Z : Value → Value → Heap → Prop) (l8_2 : Value) (h_22 : Heap) : Prop :=
  pField 2 y11 fun t91 =>
  pLoad h_22 t91 fun t92 =>
  pLen t92 fun t93 =>
  pBin .lss i12 t93 fun t94 =>
  ifV t94
  (pField 2 y11 fun t96 =>
  pLoad h_22 t96 fun t97 =>
  pIdx 1 t97 i12 fun t99 =>
  pLoad h_22 t99 fun t100 =>
  pField 0 y11 fun t101 =>
  pLoad h_22 t101 fun t102 =>
  pField 2 y11 fun t103 =>
  pLoad h_22 t103 fun t104 =>
  pIdx 1 t104 i12 fun t106 =>
  pLoad h_22 t106 fun t107 =>
  pIdx 1 t102 t107 fun t108 =>
  pLoad h_22 t108 fun t109 =>
  callS P F_milestonelaw12_pop [(.int .i64 1), t100, t109] h_22 fun t110 h_23 =>
  pBuildSlice T_api_Event (zerosL [(.int .i64 0), (.int .i64 0), (.int .i64 0), (.int .i64 0)] 1) [(0, 4, t110)] 1 h_23 fun t111 h_24 =>
  pAppend T_api_Event 4 32 [(.int .i64 0), (.int .i64 0), (.int .i64 0), (.int .i64 0)] l8_2 t111 h_24 fun t112 h_25 =>
  pField 2 y11 fun t114 =>
  pLoad h_25 t114 fun t115 =>
  pIdx 1 t115 i12 fun t117 =>
  pLoad h_25 t117 fun t118 =>
  callS P F_net_Net_In [t20, t118] h_25 fun t119 h_26 =>
  LoopH (σ := Vals [8, 16]) (fun x hh ZZ => sh_milestonelaw12_flooded_L4 P t119 i12 Z x.1 x.2.1 hh (fun a0 a1 hz => ZZ (a0, (a1, ())) hz)) (t112, ((.int .i64 0), ())) h_26)
  (sh_milestonelaw12_flooded_k5 P i12 Z l8_2 h_22)

def sh_milestonelaw12_flooded_L2 (P : Program) (t75 y11 i12 t20 : Value) (Z : Value → Value → Heap → Prop) (l8_1 k14 : Value) (h_18 : Heap) (Z_1 : Value → Value → Heap → Prop) : Prop :=
  pLen t75 fun t78 =>
  pBin .lss k14 t78 fun t79 =>
  ifV t79
  (pIdx 1 t75 k14 fun t85 =>
  pLoad h_18 t85 fun t86 =>
  callS P F_milestonelaw12_scan [(.int .i64 0), t86] h_18 fun t87 h_19 =>
  pBuildSlice T_api_Event (zerosL [(.int .i64 0), (.int .i64 0), (.int .i64 0), (.int .i64 0)] 1) [(0, 4, t87)] 1 h_19 fun t88 h_20 =>
  pAppend T_api_Event 4 32 [(.int .i64 0), (.int .i64 0), (.int .i64 0), (.int .i64 0)] l8_1 t88 h_20 fun t89 h_21 =>
  pBin .add k14 (.int .i64 1) fun t81 =>
  Z_1 t89 t81 h_21)
  (sh_milestonelaw12_flooded_k3 P y11 i12 t20 Z l8_1 h_18)

def sh_milestonelaw12_flooded_L1 (P : Program) (x10 y11 t20 g6 t4 : Value) (K : Value → Heap → Prop) (l8 i12 : Value) (h_13 : Heap) (Z : Value → Value → Heap → Prop) : Prop :=
  pField 2 x10 fun t36 =>
  pLoad h_13 t36 fun t37 =>
  pLen t37 fun t38 =>
  pField 2 y11 fun t39 =>
  pLoad h_13 t39 fun t40 =>
  pLen t40 fun t41 =>
  pMax t38 t41 fun t42 =>
  pBin .lss i12 t42 fun t43 =>
  ifV t43
  (pField 2 x10 fun t47 =>
  pLoad h_13 t47 fun t48 =>
  pLen t48 fun t49 =>
  pBin .lss i12 t49 fun t50 =>
  ifV t50
  (pField 2 x10 fun t52 =>
  pLoad h_13 t52 fun t53 =>
  pIdx 1 t53 i12 fun t55 =>
  pLoad h_13 t55 fun t56 =>
  pField 0 x10 fun t57 =>
  pLoad h_13 t57 fun t58 =>
  pField 2 x10 fun t59 =>
  pLoad h_13 t59 fun t60 =>
  pIdx 1 t60 i12 fun t62 =>
  pLoad h_13 t62 fun t63 =>
  pIdx 1 t58 t63 fun t64 =>
  pLoad h_13 t64 fun t65 =>
  callS P F_milestonelaw12_pop [(.int .i64 0), t56, t65] h_13 fun t66 h_14 =>
  pBuildSlice T_api_Event (zerosL [(.int .i64 0), (.int .i64 0), (.int .i64 0), (.int .i64 0)] 1) [(0, 4, t66)] 1 h_14 fun t67 h_15 =>
  pAppend T_api_Event 4 32 [(.int .i64 0), (.int .i64 0), (.int .i64 0), (.int .i64 0)] l8 t67 h_15 fun t68 h_16 =>
  pField 2 x10 fun t70 =>
  pLoad h_16 t70 fun t71 =>
  pIdx 1 t71 i12 fun t73 =>
  pLoad h_16 t73 fun t74 =>
  callS P F_net_Net_Out [t20, t74] h_16 fun t75 h_17 =>
  LoopH (σ := Vals [8, 14]) (fun x hh ZZ => sh_milestonelaw12_flooded_L2 P t75 y11 i12 t20 Z x.1 x.2.1 hh (fun a0 a1 hz => ZZ (a0, (a1, ())) hz)) (t68, ((.int .i64 0), ())) h_17)
  (sh_milestonelaw12_flooded_k3 P y11 i12 t20 Z l8 h_13))
  (pLoadN 4 h_13 g6 fun t134 =>
  pStore 4 t4 t134 h_13 fun u_4 h_32 =>
  pLoadN 4 h_32 t4 fun res_1 =>
  K (.tuple #[res_1, l8]) h_32)

def sh_milestonelaw12_flooded (P : Program) (b0 s1 : Value) (h : Heap) (K : Value → Heap → Prop) : Prop :=
  pBox T_api_Raw (.agg #[(.int .i64 0), (.slice none 0 0), (.slice none 0 0), (.slice none 0 0)]) h fun t4 h_1 =>
  callS P F_milestonelaw12_drawn [b0] h_1 fun t18 h_2 =>
  pBox T_api_Raw (.agg #[(.int .i64 0), (.slice none 0 0), (.slice none 0 0), (.slice none 0 0)]) h_2 fun g6 h_3 =>
  pStore 4 g6 t18 h_3 fun u h_4 =>
  pLoadN 4 h_4 g6 fun t19 =>
  callS P F_milestonelaw12_made [t19] h_4 fun t20 h_5 =>
  pEq false .ptr t20 (.pointer none) fun t22 =>
  ifV t22
  (pLoadN 4 h_5 g6 fun t23 =>
  pStore 4 t4 t23 h_5 fun u_1 h_6 =>
  pLoadN 4 h_6 t4 fun res =>
  K (.tuple #[res, (.slice none 0 0)]) h_6)
  (pConv .i64 s1 fun t25 =>
  pField 0 g6 fun t26 =>
  pLoad h_5 t26 fun t27 =>
  pBin .rem t25 t27 fun t28 =>
  callS P F_flood_From [t20, t28] h_5 fun t31 h_7 =>
  callS P F_flood_To [t20, t28] h_7 fun t34 h_8 =>
  pBox T_flood_Tree (.agg #[(.slice none 0 0), (.slice none 0 0), (.slice none 0 0)]) h_8 fun x10 h_9 =>
  pBox T_flood_Tree (.agg #[(.slice none 0 0), (.slice none 0 0), (.slice none 0 0)]) h_9 fun y11 h_10 =>
  pStore 3 x10 t31 h_10 fun u_2 h_11 =>
  pStore 3 y11 t34 h_11 fun u_3 h_12 =>
  LoopH (σ := Vals [8, 12]) (fun x hh ZZ => sh_milestonelaw12_flooded_L1 P x10 y11 t20 g6 t4 K x.1 x.2.1 hh (fun a0 a1 hz => ZZ (a0, (a1, ())) hz)) ((.slice none 0 0), ((.int .i64 0), ())) h_12)

set_option maxRecDepth 100000 in
theorem lk_milestonelaw12_flooded (b0 s1 : Value) {h : Heap} {K : Value → Heap → Prop} (H : sh_milestonelaw12_flooded Tryz.prog b0 s1 h K) : CallsH Tryz.prog F_milestonelaw12_flooded [b0, s1].toArray h K :=
  callsH_of (ann := (annG (Tryz.f6.body.getD .skip) 0 [(11, [8, 12]), (20, [8, 14]), (28, [8, 16])]).1) (c := Tryz.f6.body.getD .skip) Tryz.func6 (by kernel_rfl) (by kernel_rfl) (by kernel_rfl) (of_decide_eq_true (by kernel_rfl))
    (Eq.mpr (by kernel_rfl) H)

/-! milestone/milestonelaw12.made -/

def sh_milestonelaw12_made (P : Program) (g0 : Value) (h : Heap) (K : Value → Heap → Prop) : Prop :=
  pBox T_api_Raw g0 h fun g1 h_1 =>
  pLoadN 4 h_1 g1 fun t6 =>
  callS P F_net_New [t6] h_1 fun t7 h_2 =>
  pExt t7 0 fun t8 =>
  pExt t7 1 fun t9 =>
  pEq true .iface t9 .nilIface fun t11 =>
  ifV t11
  (K (.pointer none) h_2)
  (K t8 h_2)

set_option maxRecDepth 100000 in
theorem lk_milestonelaw12_made (g0 : Value) {h : Heap} {K : Value → Heap → Prop} (H : sh_milestonelaw12_made Tryz.prog g0 h K) : CallsH Tryz.prog F_milestonelaw12_made [g0].toArray h K :=
  callsH_of (ann := (annG (Tryz.f7.body.getD .skip) 0 []).1) (c := Tryz.f7.body.getD .skip) Tryz.func7 (by kernel_rfl) (by kernel_rfl) (by kernel_rfl) (of_decide_eq_true (by kernel_rfl))
    (Eq.mpr (by kernel_rfl) H)

/-! milestone/trace.Once -/

def sh_trace_Once (P : Program) (n0 l1 : Value) (h : Heap) (K : Value → Heap → Prop) : Prop :=
  pEq false .ptr n0 (.pointer none) fun t8 =>
  ifV t8
  (K (.bool false) h)
  (callS P F_trace_may [n0] h fun t10 h_1 =>
  pBox T_func_api_Event_bool .nilFunc h_1 fun right5 h_2 =>
  pStore 1 right5 t10 h_2 fun u h_3 =>
  pMakeMap h_3 fun t11 h_4 =>
  pBox T_map_3_int_int (.map none) h_4 fun seen6 h_5 =>
  pStore 1 seen6 t11 h_5 fun u_1 h_6 =>
  callS P F_slices_ContainsFunc_sl_api_Event_api_Event [l1, (.func (.func F_trace_Once_1) #[] #[seen6, right5])] h_6 fun t14 h_7 =>
  pUn .not t14 fun t15 =>
  K t15 h_7)

set_option maxRecDepth 100000 in
theorem lk_trace_Once (n0 l1 : Value) {h : Heap} {K : Value → Heap → Prop} (H : sh_trace_Once Tryz.prog n0 l1 h K) : CallsH Tryz.prog F_trace_Once [n0, l1].toArray h K :=
  callsH_of (ann := (annG (Tryz.f8.body.getD .skip) 0 []).1) (c := Tryz.f8.body.getD .skip) Tryz.func8 (by kernel_rfl) (by kernel_rfl) (by kernel_rfl) (of_decide_eq_true (by kernel_rfl))
    (Eq.mpr (by kernel_rfl) H)

/-! milestone/trace.Heads -/

def sh_trace_Heads (P : Program) (n0 l1 : Value) (h : Heap) (K : Value → Heap → Prop) : Prop :=
  pBox T_p_net_Net n0 h fun n2 h_1 =>
  pLoad h_1 n2 fun t7 =>
  pEq false .ptr t7 (.pointer none) fun t8 =>
  ifV t8
  (K (.bool false) h_1)
  (pLoad h_1 n2 fun t9 =>
  callS P F_trace_may [t9] h_1 fun t10 h_2 =>
  pBox T_func_api_Event_bool .nilFunc h_2 fun right5 h_3 =>
  pStore 1 right5 t10 h_3 fun u h_4 =>
  pBuild [(.int .i64 0), (.int .i64 0)] [(0, 1, (.int .i64 (-1))), (1, 1, (.int .i64 (-1)))] fun t11 =>
  pBox T_2_int (.agg #[(.int .i64 0), (.int .i64 0)]) h_4 fun last6 h_5 =>
  pStore 2 last6 t11 h_5 fun u_1 h_6 =>
  callS P F_slices_ContainsFunc_sl_api_Event_api_Event [l1, (.func (.func F_trace_Heads_1) #[] #[right5, last6, n2])] h_6 fun t14 h_7 =>
  pUn .not t14 fun t15 =>
  K t15 h_7)

set_option maxRecDepth 100000 in
theorem lk_trace_Heads (n0 l1 : Value) {h : Heap} {K : Value → Heap → Prop} (H : sh_trace_Heads Tryz.prog n0 l1 h K) : CallsH Tryz.prog F_trace_Heads [n0, l1].toArray h K :=
  callsH_of (ann := (annG (Tryz.f9.body.getD .skip) 0 []).1) (c := Tryz.f9.body.getD .skip) Tryz.func9 (by kernel_rfl) (by kernel_rfl) (by kernel_rfl) (of_decide_eq_true (by kernel_rfl))
    (Eq.mpr (by kernel_rfl) H)

/-! milestone/flood.From -/

def sh_flood_From (P : Program) (n0 s1 : Value) (h : Heap) (K : Value → Heap → Prop) : Prop :=
  pBox T_flood_Tree (.agg #[(.slice none 0 0), (.slice none 0 0), (.slice none 0 0)]) h fun t4 h_1 =>
  callS P F_flood_flood [n0, s1, (.func (.func F_net_Net_Out) #[n0] #[]), (.func (.func F_flood_From_1) #[] #[])] h_1 fun t9 h_2 =>
  pStore 3 t4 t9 h_2 fun u h_3 =>
  pLoadN 3 h_3 t4 fun res =>
  K res h_3

set_option maxRecDepth 100000 in
theorem lk_flood_From (n0 s1 : Value) {h : Heap} {K : Value → Heap → Prop} (H : sh_flood_From Tryz.prog n0 s1 h K) : CallsH Tryz.prog F_flood_From [n0, s1].toArray h K :=
  callsH_of (ann := (annG (Tryz.f10.body.getD .skip) 0 []).1) (c := Tryz.f10.body.getD .skip) Tryz.func10 (by kernel_rfl) (by kernel_rfl) (by kernel_rfl) (of_decide_eq_true (by kernel_rfl))
    (Eq.mpr (by kernel_rfl) H)

/-! milestone/flood.To -/

def sh_flood_To (P : Program) (n0 t1 : Value) (h : Heap) (K : Value → Heap → Prop) : Prop :=
  pBox T_flood_Tree (.agg #[(.slice none 0 0), (.slice none 0 0), (.slice none 0 0)]) h fun t4 h_1 =>
  callS P F_flood_flood [n0, t1, (.func (.func F_net_Net_In) #[n0] #[]), (.func (.func F_flood_To_1) #[] #[])] h_1 fun t9 h_2 =>
  pStore 3 t4 t9 h_2 fun u h_3 =>
  pLoadN 3 h_3 t4 fun res =>
  K res h_3

set_option maxRecDepth 100000 in
theorem lk_flood_To (n0 t1 : Value) {h : Heap} {K : Value → Heap → Prop} (H : sh_flood_To Tryz.prog n0 t1 h K) : CallsH Tryz.prog F_flood_To [n0, t1].toArray h K :=
  callsH_of (ann := (annG (Tryz.f11.body.getD .skip) 0 []).1) (c := Tryz.f11.body.getD .skip) Tryz.func11 (by kernel_rfl) (by kernel_rfl) (by kernel_rfl) (of_decide_eq_true (by kernel_rfl))
    (Eq.mpr (by kernel_rfl) H)

end Go.Proofs.YtgefabaobhendaaGreatDoor

namespace Go.Proofs.YtgefabaobhendaaGreatDoor
open Go Go.Mh
set_option maxHeartbeats 0
set_option linter.unusedVariables false

/-! milestone/trace.Label -/

def sh_trace_Label_B1 (P : Program) (h_4 : Heap) (v5 t6 t7 : Value) (L : Loop) (t13 t14 : Value) (h_5 : Heap) (R : Exit → Heap → Prop) : Prop :=
  pBox T_api_Event (.agg #[(.int .i64 0), (.int .i64 0), (.int .i64 0), (.int .i64 0)]) h_5 fun e9 h_6 =>
  pStore 4 e9 t14 h_6 fun u h_7 =>
  beginR (h_4.size + 1) L h_7 fun h_8 =>
  pField 2 e9 fun t15 =>
  pLoad h_8 t15 fun t16 =>
  pLoad h_8 v5 fun t17 =>
  pBin .eql t16 t17 fun t18 =>
  ifV t18
  (pField 3 e9 fun t19 =>
  pLoad h_8 t19 fun t20 =>
  pStore 1 t6 t20 h_8 fun u_1 h_9 =>
  pStore 1 t7 (.bool true) h_9 fun u_2 h_10 =>
  R .ret h_10)
  (R .normal h_8)

def sh_trace_Label (P : Program) (l0 side1 v2 : Value) (h : Heap) (K : Value → Heap → Prop) : Prop :=
  pBox T_int v2 h fun v5 h_1 =>
  pBox T_int64 (.int .i64 0) h_1 fun t6 h_2 =>
  pBox T_bool (.bool false) h_2 fun t7 h_3 =>
  callS P F_trace_of [l0, (.int .i64 0), side1] h_3 fun t12 h_4 =>
  rangeH P t12 [13, 14] (h_4.size + 1) (h_4.push (.deferred (some []))) (fun L x hh R => sh_trace_Label_B1 P h_4 v5 t6 t7 L x.1 x.2.1 hh R)
  (fun h_11 => pStore 1 t6 (.int .i64 0) h_11 fun u_3 h_12 =>
  pStore 1 t7 (.bool false) h_12 fun u_4 h_13 =>
  takeM (h_4.size :: []) h_13 fun h_14 =>
  pLoad h_14 t6 fun res =>
  pLoad h_14 t7 fun res_1 =>
  K (.tuple #[res, res_1]) h_14)
  (fun h_15 => takeM (h_4.size :: []) h_15 fun h_16 =>
  pLoad h_16 t6 fun res_2 =>
  pLoad h_16 t7 fun res_3 =>
  K (.tuple #[res_2, res_3]) h_16)
  []

set_option maxRecDepth 100000 in
theorem lk_trace_Label (l0 side1 v2 : Value) {h : Heap} {K : Value → Heap → Prop} (H : sh_trace_Label Tryz.prog l0 side1 v2 h K) : CallsH Tryz.prog F_trace_Label [l0, side1, v2].toArray h K :=
  callsH_of (ann := (annG (Tryz.f12.body.getD .skip) 0 []).1) (c := Tryz.f12.body.getD .skip) Tryz.func12 (by kernel_rfl) (by kernel_rfl) (by kernel_rfl) (of_decide_eq_true (by kernel_rfl))
    (Eq.mpr (by kernel_rfl) H)

/-! milestone/trace.Pops -/

def sh_trace_Pops (P : Program) (l0 side1 : Value) (h : Heap) (K : Value → Heap → Prop) : Prop :=
  callS P F_trace_of [l0, (.int .i64 0), side1] h fun t7 h_1 =>
  callS P F_trace_told_int [t7, (.func (.func F_trace_id) #[] #[])] h_1 fun t8 h_2 =>
  K t8 h_2

set_option maxRecDepth 100000 in
theorem lk_trace_Pops (l0 side1 : Value) {h : Heap} {K : Value → Heap → Prop} (H : sh_trace_Pops Tryz.prog l0 side1 h K) : CallsH Tryz.prog F_trace_Pops [l0, side1].toArray h K :=
  callsH_of (ann := (annG (Tryz.f13.body.getD .skip) 0 []).1) (c := Tryz.f13.body.getD .skip) Tryz.func13 (by kernel_rfl) (by kernel_rfl) (by kernel_rfl) (of_decide_eq_true (by kernel_rfl))
    (Eq.mpr (by kernel_rfl) H)

/-! milestone/trace.Scans -/

def sh_trace_Scans (P : Program) (l0 side1 : Value) (h : Heap) (K : Value → Heap → Prop) : Prop :=
  callS P F_trace_of [l0, (.int .i64 1), side1] h fun t7 h_1 =>
  callS P F_trace_told_int [t7, (.func (.func F_trace_id) #[] #[])] h_1 fun t8 h_2 =>
  K t8 h_2

set_option maxRecDepth 100000 in
theorem lk_trace_Scans (l0 side1 : Value) {h : Heap} {K : Value → Heap → Prop} (H : sh_trace_Scans Tryz.prog l0 side1 h K) : CallsH Tryz.prog F_trace_Scans [l0, side1].toArray h K :=
  callsH_of (ann := (annG (Tryz.f14.body.getD .skip) 0 []).1) (c := Tryz.f14.body.getD .skip) Tryz.func14 (by kernel_rfl) (by kernel_rfl) (by kernel_rfl) (of_decide_eq_true (by kernel_rfl))
    (Eq.mpr (by kernel_rfl) H)

/-! milestone/trace.Beyond -/

def sh_trace_Beyond (P : Program) (l0 far1 most2 : Value) (h : Heap) (K : Value → Heap → Prop) : Prop :=
  pBox T_sl_int64 far1 h fun far4 h_1 =>
  pBox T_int64 most2 h_1 fun most5 h_2 =>
  callS P F_slices_IndexFunc_sl_api_Event_api_Event [l0, (.func (.func F_trace_Beyond_1) #[] #[far4, most5])] h_2 fun t9 h_3 =>
  K t9 h_3

set_option maxRecDepth 100000 in
theorem lk_trace_Beyond (l0 far1 most2 : Value) {h : Heap} {K : Value → Heap → Prop} (H : sh_trace_Beyond Tryz.prog l0 far1 most2 h K) : CallsH Tryz.prog F_trace_Beyond [l0, far1, most2].toArray h K :=
  callsH_of (ann := (annG (Tryz.f15.body.getD .skip) 0 []).1) (c := Tryz.f15.body.getD .skip) Tryz.func15 (by kernel_rfl) (by kernel_rfl) (by kernel_rfl) (of_decide_eq_true (by kernel_rfl))
    (Eq.mpr (by kernel_rfl) H)

/-! milestone/milestonelaw12.pop -/

def sh_milestonelaw12_pop (P : Program) (side0 v1 label2 : Value) (h : Heap) (K : Value → Heap → Prop) : Prop :=
  pBox T_api_Event (.agg #[(.int .i64 0), (.int .i64 0), (.int .i64 0), (.int .i64 0)]) h fun t6 h_1 =>
  pBuild [(.int .i64 0), (.int .i64 0), (.int .i64 0), (.int .i64 0)] [(0, 1, (.int .i64 0)), (1, 1, side0), (2, 1, v1), (3, 1, label2)] fun t10 =>
  pStore 4 t6 t10 h_1 fun u h_2 =>
  pLoadN 4 h_2 t6 fun res =>
  K res h_2

set_option maxRecDepth 100000 in
theorem lk_milestonelaw12_pop (side0 v1 label2 : Value) {h : Heap} {K : Value → Heap → Prop} (H : sh_milestonelaw12_pop Tryz.prog side0 v1 label2 h K) : CallsH Tryz.prog F_milestonelaw12_pop [side0, v1, label2].toArray h K :=
  callsH_of (ann := (annG (Tryz.f16.body.getD .skip) 0 []).1) (c := Tryz.f16.body.getD .skip) Tryz.func16 (by kernel_rfl) (by kernel_rfl) (by kernel_rfl) (of_decide_eq_true (by kernel_rfl))
    (Eq.mpr (by kernel_rfl) H)

/-! milestone/milestonelaw12.scan -/

def sh_milestonelaw12_scan (P : Program) (side0 a1 : Value) (h : Heap) (K : Value → Heap → Prop) : Prop :=
  pBox T_api_Event (.agg #[(.int .i64 0), (.int .i64 0), (.int .i64 0), (.int .i64 0)]) h fun t4 h_1 =>
  pBuild [(.int .i64 0), (.int .i64 0), (.int .i64 0), (.int .i64 0)] [(0, 1, (.int .i64 1)), (1, 1, side0), (2, 1, a1)] fun t7 =>
  pStore 4 t4 t7 h_1 fun u h_2 =>
  pLoadN 4 h_2 t4 fun res =>
  K res h_2

set_option maxRecDepth 100000 in
theorem lk_milestonelaw12_scan (side0 a1 : Value) {h : Heap} {K : Value → Heap → Prop} (H : sh_milestonelaw12_scan Tryz.prog side0 a1 h K) : CallsH Tryz.prog F_milestonelaw12_scan [side0, a1].toArray h K :=
  callsH_of (ann := (annG (Tryz.f17.body.getD .skip) 0 []).1) (c := Tryz.f17.body.getD .skip) Tryz.func17 (by kernel_rfl) (by kernel_rfl) (by kernel_rfl) (of_decide_eq_true (by kernel_rfl))
    (Eq.mpr (by kernel_rfl) H)

/-! milestone/milestonelaw12.drawn -/

def sh_milestonelaw12_drawn (P : Program) (b0 : Value) (h : Heap) (K : Value → Heap → Prop) : Prop :=
  pBox T_api_Raw (.agg #[(.int .i64 0), (.slice none 0 0), (.slice none 0 0), (.slice none 0 0)]) h fun t2 h_1 =>
  pLen b0 fun t6 =>
  pMin t6 (.int .i64 80) fun t7 =>
  pSlice 1 b0 none (some t7) none fun t8 =>
  pBuild [(.slice none 0 0), (.int .i64 0)] [(0, 1, t8)] fun t9 =>
  pBox T_milestoneref07_Draft t9 h_1 fun t10 h_2 =>
  callS P F_milestoneref07_Draft_Raw [t10] h_2 fun t12 h_3 =>
  pStore 4 t2 t12 h_3 fun u h_4 =>
  pLoadN 4 h_4 t2 fun res =>
  K res h_4

set_option maxRecDepth 100000 in
theorem lk_milestonelaw12_drawn (b0 : Value) {h : Heap} {K : Value → Heap → Prop} (H : sh_milestonelaw12_drawn Tryz.prog b0 h K) : CallsH Tryz.prog F_milestonelaw12_drawn [b0].toArray h K :=
  callsH_of (ann := (annG (Tryz.f18.body.getD .skip) 0 []).1) (c := Tryz.f18.body.getD .skip) Tryz.func18 (by kernel_rfl) (by kernel_rfl) (by kernel_rfl) (of_decide_eq_true (by kernel_rfl))
    (Eq.mpr (by kernel_rfl) H)

/-! (*milestone/net.Net).Out -/

def sh_net_Net_Out (P : Program) (n0 v1 : Value) (h : Heap) (K : Value → Heap → Prop) : Prop :=
  pEq false .ptr n0 (.pointer none) fun t8 =>
  ifV t8
  (K (.slice none 0 0) h)
  (pNil n0 fun t11 =>
  pField 4 t11 fun t12 =>
  pLoad h t12 fun t13 =>
  callS P F_net_one_sl_int [t13, v1] h fun t15 h_1 =>
  pExt t15 0 fun t16 =>
  pExt t15 1 fun t17 =>
  callS P F_slices_Clone_sl_int_int [t16] h_1 fun t19 h_2 =>
  K t19 h_2)

set_option maxRecDepth 100000 in
theorem lk_net_Net_Out (n0 v1 : Value) {h : Heap} {K : Value → Heap → Prop} (H : sh_net_Net_Out Tryz.prog n0 v1 h K) : CallsH Tryz.prog F_net_Net_Out [n0, v1].toArray h K :=
  callsH_of (ann := (annG (Tryz.f19.body.getD .skip) 0 []).1) (c := Tryz.f19.body.getD .skip) Tryz.func19 (by kernel_rfl) (by kernel_rfl) (by kernel_rfl) (of_decide_eq_true (by kernel_rfl))
    (Eq.mpr (by kernel_rfl) H)

/-! (*milestone/net.Net).In -/

def sh_net_Net_In (P : Program) (n0 v1 : Value) (h : Heap) (K : Value → Heap → Prop) : Prop :=
  pEq false .ptr n0 (.pointer none) fun t8 =>
  ifV t8
  (K (.slice none 0 0) h)
  (pNil n0 fun t11 =>
  pField 5 t11 fun t12 =>
  pLoad h t12 fun t13 =>
  callS P F_net_one_sl_int [t13, v1] h fun t15 h_1 =>
  pExt t15 0 fun t16 =>
  pExt t15 1 fun t17 =>
  callS P F_slices_Clone_sl_int_int [t16] h_1 fun t19 h_2 =>
  K t19 h_2)

set_option maxRecDepth 100000 in
theorem lk_net_Net_In (n0 v1 : Value) {h : Heap} {K : Value → Heap → Prop} (H : sh_net_Net_In Tryz.prog n0 v1 h K) : CallsH Tryz.prog F_net_Net_In [n0, v1].toArray h K :=
  callsH_of (ann := (annG (Tryz.f20.body.getD .skip) 0 []).1) (c := Tryz.f20.body.getD .skip) Tryz.func20 (by kernel_rfl) (by kernel_rfl) (by kernel_rfl) (of_decide_eq_true (by kernel_rfl))
    (Eq.mpr (by kernel_rfl) H)

/-! milestone/net.New -/

def sh_net_New (P : Program) (raw0 : Value) (h : Heap) (K : Value → Heap → Prop) : Prop :=
  pBox T_api_Raw raw0 h fun raw1 h_1 =>
  pLoadN 4 h_1 raw1 fun t6 =>
  callS P F_graph_Check [t6] h_1 fun t7 h_2 =>
  pEq true .iface t7 .nilIface fun t9 =>
  ifV t9
  (callS P F_api_Told [t7] h_2 fun t11 h_3 =>
  pBox T_api_Fault (.agg #[(.int .i64 0), (.int .i64 0), (.int .i64 0), (.int .i64 0)]) h_3 fun f5 h_4 =>
  pStore 4 f5 t11 h_4 fun u h_5 =>
  pBuild [(.pointer none)] [(0, 1, f5)] fun t12 =>
  K (.tuple #[(.pointer none), (.iface T_net_trouble t12)]) h_5)
  (pLoadN 4 h_2 raw1 fun t14 =>
  callS P F_net_own [t14] h_2 fun t15 h_6 =>
  callS P F_net_of [t15] h_6 fun t16 h_7 =>
  K (.tuple #[t16, .nilIface]) h_7)

set_option maxRecDepth 100000 in
theorem lk_net_New (raw0 : Value) {h : Heap} {K : Value → Heap → Prop} (H : sh_net_New Tryz.prog raw0 h K) : CallsH Tryz.prog F_net_New [raw0].toArray h K :=
  callsH_of (ann := (annG (Tryz.f21.body.getD .skip) 0 []).1) (c := Tryz.f21.body.getD .skip) Tryz.func21 (by kernel_rfl) (by kernel_rfl) (by kernel_rfl) (of_decide_eq_true (by kernel_rfl))
    (Eq.mpr (by kernel_rfl) H)

/-! milestone/trace.may -/

def sh_trace_may (P : Program) (n0 : Value) (h : Heap) (K : Value → Heap → Prop) : Prop :=
  pBox T_p_net_Net n0 h fun n1 h_1 =>
  K (.func (.func F_trace_may_1) #[] #[n1]) h_1

set_option maxRecDepth 100000 in
theorem lk_trace_may (n0 : Value) {h : Heap} {K : Value → Heap → Prop} (H : sh_trace_may Tryz.prog n0 h K) : CallsH Tryz.prog F_trace_may [n0].toArray h K :=
  callsH_of (ann := (annG (Tryz.f22.body.getD .skip) 0 []).1) (c := Tryz.f22.body.getD .skip) Tryz.func22 (by kernel_rfl) (by kernel_rfl) (by kernel_rfl) (of_decide_eq_true (by kernel_rfl))
    (Eq.mpr (by kernel_rfl) H)

/-! slices.ContainsFunc[[]milestone/api.Event,milestone/api.Event] -/

def sh_slices_ContainsFunc_sl_api_Event_api_Event (P : Program) (s0 f1 : Value) (h : Heap) (K : Value → Heap → Prop) : Prop :=
  callS P F_slices_IndexFunc_sl_api_Event_api_Event [s0, f1] h fun t7 h_1 =>
  pBin .geq t7 (.int .i64 0) fun t8 =>
  K t8 h_1

set_option maxRecDepth 100000 in
theorem lk_slices_ContainsFunc_sl_api_Event_api_Event (s0 f1 : Value) {h : Heap} {K : Value → Heap → Prop} (H : sh_slices_ContainsFunc_sl_api_Event_api_Event Tryz.prog s0 f1 h K) : CallsH Tryz.prog F_slices_ContainsFunc_sl_api_Event_api_Event [s0, f1].toArray h K :=
  callsH_of (ann := (annG (Tryz.f23.body.getD .skip) 0 []).1) (c := Tryz.f23.body.getD .skip) Tryz.func23 (by kernel_rfl) (by kernel_rfl) (by kernel_rfl) (of_decide_eq_true (by kernel_rfl))
    (Eq.mpr (by kernel_rfl) H)

/-! milestone/trace.Once$1 -/

def sh_trace_Once_1 (P : Program) (e0 t1 t2 : Value) (h : Heap) (K : Value → Heap → Prop) : Prop :=
  pBox T_api_Event e0 h fun e3 h_1 =>
  pField 0 e3 fun t6 =>
  pLoad h_1 t6 fun t7 =>
  pField 1 e3 fun t8 =>
  pLoad h_1 t8 fun t9 =>
  pField 2 e3 fun t10 =>
  pLoad h_1 t10 fun t11 =>
  pBuild [(.int .i64 0), (.int .i64 0), (.int .i64 0)] [(0, 1, t7), (1, 1, t9), (2, 1, t11)] fun t12 =>
  pBox T_3_int (.agg #[(.int .i64 0), (.int .i64 0), (.int .i64 0)]) h_1 fun at5 h_2 =>
  pStore 3 at5 t12 h_2 fun u h_3 =>
  pLoad h_3 t1 fun t13 =>
  pLoadN 3 h_3 at5 fun t14 =>
  pLook (.array 3 T_int) (.int .i64 0) false h_3 t13 t14 fun t15 =>
  pBin .add t15 (.int .i64 1) fun t16 =>
  pMapEntry (.array 3 T_int) (.int .i64 0) t13 t14 h_3 fun t17 h_4 =>
  (pLook (.array 3 T_int) (.int .i64 0) false h_4 t13 t14 fun t15_1 =>
  t15_1 = t15) ∧
  (pExt t17 1 fun t18 =>
  pEntryStore t13 t18 t16 h_4 fun u_1 h_5 =>
  pLoad h_5 t2 fun t19 =>
  pLoadN 4 h_5 e3 fun t20 =>
  callV P t19 [t20].toArray h_5 fun t21 h_6 =>
  pUn .not t21 fun t22 =>
  ifV t22
  (K (.bool true) h_6)
  (pLoad h_6 t1 fun t24 =>
  pLoadN 3 h_6 at5 fun t25 =>
  pLook (.array 3 T_int) (.int .i64 0) false h_6 t24 t25 fun t26 =>
  pBin .gtr t26 (.int .i64 1) fun t27 =>
  K t27 h_6))

set_option maxRecDepth 100000 in
theorem lk_trace_Once_1 (e0 t1 t2 : Value) {h : Heap} {K : Value → Heap → Prop} (H : sh_trace_Once_1 Tryz.prog e0 t1 t2 h K) : CallsH Tryz.prog F_trace_Once_1 [e0, t1, t2].toArray h K :=
  callsH_of (ann := (annG (Tryz.f24.body.getD .skip) 0 []).1) (c := Tryz.f24.body.getD .skip) Tryz.func24 (by kernel_rfl) (by kernel_rfl) (by kernel_rfl) (of_decide_eq_true (by kernel_rfl))
    (Eq.mpr (by kernel_rfl) H)

/-! milestone/trace.Heads$1 -/

def sh_trace_Heads_1 (P : Program) (e0 t1 t2 t3 : Value) (h : Heap) (K : Value → Heap → Prop) : Prop :=
  pBox T_api_Event e0 h fun e4 h_1 =>
  pLoad h_1 t1 fun t7 =>
  pLoadN 4 h_1 e4 fun t8 =>
  callV P t7 [t8].toArray h_1 fun t9 h_2 =>
  pUn .not t9 fun t10 =>
  ifV t10
  (K (.bool true) h_2)
  (pField 0 e4 fun t12 =>
  pLoad h_2 t12 fun t13 =>
  pBin .eql t13 (.int .i64 0) fun t14 =>
  ifV t14
  (pField 1 e4 fun t15 =>
  pLoad h_2 t15 fun t16 =>
  pField 2 e4 fun t17 =>
  pLoad h_2 t17 fun t18 =>
  pIdxA 1 2 t2 t16 fun t19 =>
  pStore 1 t19 t18 h_2 fun u h_3 =>
  K (.bool false) h_3)
  (pField 1 e4 fun t20 =>
  pLoad h_2 t20 fun t21 =>
  pIdxA 1 2 t2 t21 fun t22 =>
  pLoad h_2 t22 fun t23 =>
  pLoad h_2 t3 fun t24 =>
  pField 2 e4 fun t25 =>
  pLoad h_2 t25 fun t26 =>
  pField 1 e4 fun t27 =>
  pLoad h_2 t27 fun t28 =>
  callS P F_trace_tail [t24, t26, t28] h_2 fun t29 h_4 =>
  (pLoad h_4 t20 fun t21_1 =>
  t21_1 = t21) ∧
  (pLoad h_4 t22 fun t23_1 =>
  t23_1 = t23) ∧
  (pBin .neq t23 t29 fun t30 =>
  K t30 h_4)))

set_option maxRecDepth 100000 in
theorem lk_trace_Heads_1 (e0 t1 t2 t3 : Value) {h : Heap} {K : Value → Heap → Prop} (H : sh_trace_Heads_1 Tryz.prog e0 t1 t2 t3 h K) : CallsH Tryz.prog F_trace_Heads_1 [e0, t1, t2, t3].toArray h K :=
  callsH_of (ann := (annG (Tryz.f25.body.getD .skip) 0 []).1) (c := Tryz.f25.body.getD .skip) Tryz.func25 (by kernel_rfl) (by kernel_rfl) (by kernel_rfl) (of_decide_eq_true (by kernel_rfl))
    (Eq.mpr (by kernel_rfl) H)

/-! milestone/trace.tail -/

def sh_trace_tail (P : Program) (n0 arc1 side2 : Value) (h : Heap) (K : Value → Heap → Prop) : Prop :=
  callS P F_net_Net_Arc [n0, arc1] h fun t12 h_1 =>
  pExt t12 0 fun t13 =>
  pExt t12 1 fun t14 =>
  pBox T_api_Arc (.agg #[(.int .i64 0), (.int .i64 0), (.int .i64 0)]) h_1 fun a7 h_2 =>
  pStore 3 a7 t13 h_2 fun u h_3 =>
  pBin .eql side2 (.int .i64 1) fun t16 =>
  ifV t16
  (pField 1 a7 fun t17 =>
  pLoad h_3 t17 fun t18 =>
  K t18 h_3)
  (pField 0 a7 fun t19 =>
  pLoad h_3 t19 fun t20 =>
  K t20 h_3)

set_option maxRecDepth 100000 in
theorem lk_trace_tail (n0 arc1 side2 : Value) {h : Heap} {K : Value → Heap → Prop} (H : sh_trace_tail Tryz.prog n0 arc1 side2 h K) : CallsH Tryz.prog F_trace_tail [n0, arc1, side2].toArray h K :=
  callsH_of (ann := (annG (Tryz.f26.body.getD .skip) 0 []).1) (c := Tryz.f26.body.getD .skip) Tryz.func26 (by kernel_rfl) (by kernel_rfl) (by kernel_rfl) (of_decide_eq_true (by kernel_rfl))
    (Eq.mpr (by kernel_rfl) H)

/-! milestone/flood.flood -/

def sh_flood_flood_k1 (P : Program) (t8 : Value) (K : Value → Heap → Prop) (h_2 : Heap) : Prop :=
  pBuild [(.slice none 0 0), (.slice none 0 0), (.slice none 0 0)] [] fun t27 =>
  pStore 3 t8 t27 h_2 fun u h_3 =>
  pLoadN 3 h_3 t8 fun res =>
  K res h_3

def sh_flood_flood_B3 (P : Program) (h_28 : Heap) (r9 key11_1 : Value) (L : Loop) (t101 t102 : Value) (h_29 : Heap) (R : Exit → Heap → Prop) : Prop :=
  pBox T_api_Arc (.agg #[(.int .i64 0), (.int .i64 0), (.int .i64 0)]) h_29 fun a14 h_30 =>
  pStore 3 a14 t102 h_30 fun u_6 h_31 =>
  beginR (h_28.size + 1) L h_31 fun h_32 =>
  pLoad h_32 r9 fun t103 =>
  pField 1 a14 fun t104 =>
  pLoad h_32 t104 fun t105 =>
  pLoad h_32 key11_1 fun t107 =>
  pField 2 a14 fun t108 =>
  pLoad h_32 t108 fun t109 =>
  pBin .add t107 t109 fun t110 =>
  callS P F_flood_run_reach [t103, t105, t101, t110] h_32 fun t111 h_33 =>
  R .normal h_33

def sh_flood_flood_L2 (P : Program) (r9 next2 n0 end3 t8 : Value) (K : Value → Heap → Prop) (m : List Nat) (v10 key11_1 is12 : Value) (h_21 : Heap) (Z : List Nat → Value → Value → Value → Heap → Prop) : Prop :=
  ifV is12
  (pLoad h_21 r9 fun t68 =>
  pNil t68 fun t69 =>
  pField 4 t69 fun t70 =>
  pLoad h_21 t70 fun t71 =>
  pLook (.int .i64) (.int .i64 0) false h_21 t71 v10 fun t73 =>
  pBin .add t73 (.int .i64 1) fun t74 =>
  pMapSet (.int .i64) t71 v10 t74 h_21 fun u_3 h_22 =>
  pLoad h_22 r9 fun t75 =>
  pNil t75 fun t76 =>
  pField 1 t76 fun t77 =>
  pField 0 t77 fun t78 =>
  pLoad h_22 t78 fun t79 =>
  pLoad h_22 key11_1 fun t81 =>
  pIdx 1 t79 v10 fun t82 =>
  pStore 1 t82 t81 h_22 fun u_4 h_23 =>
  pLoad h_23 r9 fun t83 =>
  pLoad h_23 r9 fun t84 =>
  pNil t84 fun t85 =>
  pField 1 t85 fun t86 =>
  pField 2 t86 fun t87 =>
  pLoad h_23 t87 fun t88 =>
  pBuildSlice T_int (zerosL [(.int .i64 0)] 1) [(0, 1, v10)] 1 h_23 fun t90 h_24 =>
  pAppend T_int 1 8 [(.int .i64 0)] t88 t90 h_24 fun t91 h_25 =>
  (pLoad h_25 r9 fun t83_1 =>
  t83_1 = t83) ∧
  (pNil t83 fun t92 =>
  pField 1 t92 fun t93 =>
  pField 2 t93 fun t94 =>
  pStore 1 t94 t91 h_25 fun u_5 h_26 =>
  callV P next2 [v10].toArray h_26 fun t98 h_27 =>
  callS P F_flood_arcs [n0, t98, end3] h_27 fun t100 h_28 =>
  rangeH P t100 [101, 102] (h_28.size + 1) (h_28.push (.deferred (some []))) (fun L x hh R => sh_flood_flood_B3 P h_28 r9 key11_1 L x.1 x.2.1 hh R)
  (fun h_34 => pLoad h_34 key11_1 fun t112 =>
  pBox T_int64 (.int .i64 0) h_34 fun key11_2 h_35 =>
  pStore 1 key11_2 t112 h_35 fun u_7 h_36 =>
  pLoad h_36 r9 fun t60 =>
  pNil t60 fun t61 =>
  pField 0 t61 fun t62 =>
  pLoad h_36 t62 fun t63 =>
  callS P F_heap_Heap_Pop [t63] h_36 fun t64 h_37 =>
  pExt t64 0 fun t65 =>
  pExt t64 1 fun t66 =>
  pExt t64 2 fun t67 =>
  pStore 1 key11_2 t66 h_37 fun u_8 h_38 =>
  Z (h_28.size :: m) t65 key11_2 t67 h_38)
  (fun h_39 => takeM (h_28.size :: m) h_39 fun h_40 =>
  pLoadN 3 h_40 t8 fun res_1 =>
  K res_1 h_40)
  []))
  (pLoad h_21 r9 fun t113 =>
  pNil t113 fun t114 =>
  pField 1 t114 fun t115 =>
  pLoadN 3 h_21 t115 fun t116 =>
  pStore 3 t8 t116 h_21 fun u_9 h_41 =>
  takeM m h_41 fun h_42 =>
  pLoadN 3 h_42 t8 fun res_2 =>
  K res_2 h_42)

def sh_flood_flood (P : Program) (n0 s1 next2 end3 : Value) (h : Heap) (K : Value → Heap → Prop) : Prop :=
  pBox T_flood_Tree (.agg #[(.slice none 0 0), (.slice none 0 0), (.slice none 0 0)]) h fun t8 h_1 =>
  pEq false .ptr n0 (.pointer none) fun t16 =>
  ifV t16
  (sh_flood_flood_k1 P t8 K h_1)
  (pBin .lss s1 (.int .i64 0) fun t19 =>
  ifV t19
  (sh_flood_flood_k1 P t8 K h_1)
  (callS P F_net_Net_Nodes [n0] h_1 fun t24 h_4 =>
  pBin .geq s1 t24 fun t25 =>
  ifV t25
  (sh_flood_flood_k1 P t8 K h_4)
  (callS P F_net_Net_Nodes [n0] h_4 fun t29 h_5 =>
  callS P F_heap_New [t29] h_5 fun t30 h_6 =>
  pBuildSlice T_int64 (zerosL [(.int .i64 0)] 1) [(0, 1, (.int .i64 72057594037927936))] 1 h_6 fun t31 h_7 =>
  callS P F_net_Net_Nodes [n0] h_7 fun t33 h_8 =>
  callS P F_slices_Repeat_sl_int64_int64 [t31, t33] h_8 fun t34 h_9 =>
  pBuildSlice T_int (zerosL [(.int .i64 0)] 1) [(0, 1, (.int .i64 (-1)))] 1 h_9 fun t35 h_10 =>
  callS P F_net_Net_Nodes [n0] h_10 fun t37 h_11 =>
  callS P F_slices_Repeat_sl_int_int [t35, t37] h_11 fun t38 h_12 =>
  pBuild [(.slice none 0 0), (.slice none 0 0), (.slice none 0 0)] [(0, 1, t34), (1, 1, t38)] fun t39 =>
  pMakeMap h_12 fun t40 h_13 =>
  pBuild [(.pointer none), (.slice none 0 0), (.slice none 0 0), (.slice none 0 0), (.map none)] [(0, 1, t30), (1, 3, t39), (4, 1, t40)] fun t41 =>
  pBox T_flood_run t41 h_13 fun t42 h_14 =>
  pBox T_p_flood_run (.pointer none) h_14 fun r9 h_15 =>
  pStore 1 r9 t42 h_15 fun u_1 h_16 =>
  pLoad h_16 r9 fun t43 =>
  pNil t43 fun t44 =>
  pField 0 t44 fun t45 =>
  pLoad h_16 t45 fun t46 =>
  callS P F_heap_Heap_Push [t46, s1, (.int .i64 0)] h_16 fun t48 h_17 =>
  pLoad h_17 r9 fun t50 =>
  pNil t50 fun t51 =>
  pField 0 t51 fun t52 =>
  pLoad h_17 t52 fun t53 =>
  callS P F_heap_Heap_Pop [t53] h_17 fun t54 h_18 =>
  pExt t54 0 fun t55 =>
  pExt t54 1 fun t56 =>
  pExt t54 2 fun t57 =>
  pBox T_int64 (.int .i64 0) h_18 fun key11 h_19 =>
  pStore 1 key11 t56 h_19 fun u_2 h_20 =>
  LoopH (σ := List Nat × Vals [10, 11, 12]) (fun x hh ZZ => sh_flood_flood_L2 P r9 next2 n0 end3 t8 K x.1 x.2.1 x.2.2.1 x.2.2.2.1 hh (fun mz a0 a1 a2 hz => ZZ (mz, (a0, (a1, (a2, ())))) hz)) ([], (t55, (key11, (t57, ())))) h_20)))

set_option maxRecDepth 100000 in
theorem lk_flood_flood (n0 s1 next2 end3 : Value) {h : Heap} {K : Value → Heap → Prop} (H : sh_flood_flood Tryz.prog n0 s1 next2 end3 h K) : CallsH Tryz.prog F_flood_flood [n0, s1, next2, end3].toArray h K :=
  callsH_of (ann := (annG (Tryz.f27.body.getD .skip) 0 [(8, [10, 11, 12])]).1) (c := Tryz.f27.body.getD .skip) Tryz.func27 (by kernel_rfl) (by kernel_rfl) (by kernel_rfl) (of_decide_eq_true (by kernel_rfl))
    (Eq.mpr (by kernel_rfl) H)

/-! milestone/flood.From$1 -/

def sh_flood_From_1 (P : Program) (a0 : Value) (h : Heap) (K : Value → Heap → Prop) : Prop :=
  pBox T_api_Arc a0 h fun a1 h_1 =>
  pField 1 a1 fun t3 =>
  pLoad h_1 t3 fun t4 =>
  K t4 h_1

set_option maxRecDepth 100000 in
theorem lk_flood_From_1 (a0 : Value) {h : Heap} {K : Value → Heap → Prop} (H : sh_flood_From_1 Tryz.prog a0 h K) : CallsH Tryz.prog F_flood_From_1 [a0].toArray h K :=
  callsH_of (ann := (annG (Tryz.f28.body.getD .skip) 0 []).1) (c := Tryz.f28.body.getD .skip) Tryz.func28 (by kernel_rfl) (by kernel_rfl) (by kernel_rfl) (of_decide_eq_true (by kernel_rfl))
    (Eq.mpr (by kernel_rfl) H)

/-! milestone/flood.To$1 -/

def sh_flood_To_1 (P : Program) (a0 : Value) (h : Heap) (K : Value → Heap → Prop) : Prop :=
  pBox T_api_Arc a0 h fun a1 h_1 =>
  pField 0 a1 fun t3 =>
  pLoad h_1 t3 fun t4 =>
  K t4 h_1

set_option maxRecDepth 100000 in
theorem lk_flood_To_1 (a0 : Value) {h : Heap} {K : Value → Heap → Prop} (H : sh_flood_To_1 Tryz.prog a0 h K) : CallsH Tryz.prog F_flood_To_1 [a0].toArray h K :=
  callsH_of (ann := (annG (Tryz.f29.body.getD .skip) 0 []).1) (c := Tryz.f29.body.getD .skip) Tryz.func29 (by kernel_rfl) (by kernel_rfl) (by kernel_rfl) (of_decide_eq_true (by kernel_rfl))
    (Eq.mpr (by kernel_rfl) H)

/-! milestone/trace.of -/

def sh_trace_of (P : Program) (l0 kind1 side2 : Value) (h : Heap) (K : Value → Heap → Prop) : Prop :=
  pBox T_sl_api_Event l0 h fun l3 h_1 =>
  pBox T_int kind1 h_1 fun kind4 h_2 =>
  pBox T_int side2 h_2 fun side5 h_3 =>
  K (.func (.func F_trace_of_1) #[] #[l3, kind4, side5]) h_3

set_option maxRecDepth 100000 in
theorem lk_trace_of (l0 kind1 side2 : Value) {h : Heap} {K : Value → Heap → Prop} (H : sh_trace_of Tryz.prog l0 kind1 side2 h K) : CallsH Tryz.prog F_trace_of [l0, kind1, side2].toArray h K :=
  callsH_of (ann := (annG (Tryz.f30.body.getD .skip) 0 []).1) (c := Tryz.f30.body.getD .skip) Tryz.func30 (by kernel_rfl) (by kernel_rfl) (by kernel_rfl) (of_decide_eq_true (by kernel_rfl))
    (Eq.mpr (by kernel_rfl) H)

/-! milestone/trace.told[int] -/

def sh_trace_told_int_B1 (P : Program) (h_2 : Heap) (out4 tell3 : Value) (L : Loop) (t8 t9 : Value) (h_3 : Heap) (R : Exit → Heap → Prop) : Prop :=
  pBox T_api_Event (.agg #[(.int .i64 0), (.int .i64 0), (.int .i64 0), (.int .i64 0)]) h_3 fun e6 h_4 =>
  pStore 4 e6 t9 h_4 fun u h_5 =>
  beginR (h_2.size + 1) L h_5 fun h_6 =>
  pLoad h_6 out4 fun t10 =>
  pLoad h_6 tell3 fun t11 =>
  pLoadN 4 h_6 e6 fun t12 =>
  callV P t11 [t12].toArray h_6 fun t13 h_7 =>
  (pLoad h_7 out4 fun t10_1 =>
  t10_1 = t10) ∧
  (pBuildSlice T_int (zerosL [(.int .i64 0)] 1) [(0, 1, t13)] 1 h_7 fun t14 h_8 =>
  pAppend T_int 1 8 [(.int .i64 0)] t10 t14 h_8 fun t15 h_9 =>
  pStore 1 out4 t15 h_9 fun u_1 h_10 =>
  R .normal h_10)

def sh_trace_told_int (P : Program) (l0 tell1 : Value) (h : Heap) (K : Value → Heap → Prop) : Prop :=
  pBox T_func_api_Event_int tell1 h fun tell3 h_1 =>
  pBox T_sl_int (.slice none 0 0) h_1 fun out4 h_2 =>
  rangeH P l0 [8, 9] (h_2.size + 1) (h_2.push (.deferred (some []))) (fun L x hh R => sh_trace_told_int_B1 P h_2 out4 tell3 L x.1 x.2.1 hh R)
  (fun h_11 => pLoad h_11 out4 fun t16 =>
  pStore 1 out4 t16 h_11 fun u_2 h_12 =>
  takeM (h_2.size :: []) h_12 fun h_13 =>
  pLoad h_13 out4 fun res =>
  K res h_13)
  (fun h_14 => takeM (h_2.size :: []) h_14 fun h_15 =>
  pLoad h_15 out4 fun res_1 =>
  K res_1 h_15)
  []

set_option maxRecDepth 100000 in
theorem lk_trace_told_int (l0 tell1 : Value) {h : Heap} {K : Value → Heap → Prop} (H : sh_trace_told_int Tryz.prog l0 tell1 h K) : CallsH Tryz.prog F_trace_told_int [l0, tell1].toArray h K :=
  callsH_of (ann := (annG (Tryz.f31.body.getD .skip) 0 []).1) (c := Tryz.f31.body.getD .skip) Tryz.func31 (by kernel_rfl) (by kernel_rfl) (by kernel_rfl) (of_decide_eq_true (by kernel_rfl))
    (Eq.mpr (by kernel_rfl) H)

/-! milestone/trace.id -/

def sh_trace_id (P : Program) (e0 : Value) (h : Heap) (K : Value → Heap → Prop) : Prop :=
  pBox T_api_Event e0 h fun e1 h_1 =>
  pField 2 e1 fun t3 =>
  pLoad h_1 t3 fun t4 =>
  K t4 h_1

set_option maxRecDepth 100000 in
theorem lk_trace_id (e0 : Value) {h : Heap} {K : Value → Heap → Prop} (H : sh_trace_id Tryz.prog e0 h K) : CallsH Tryz.prog F_trace_id [e0].toArray h K :=
  callsH_of (ann := (annG (Tryz.f32.body.getD .skip) 0 []).1) (c := Tryz.f32.body.getD .skip) Tryz.func32 (by kernel_rfl) (by kernel_rfl) (by kernel_rfl) (of_decide_eq_true (by kernel_rfl))
    (Eq.mpr (by kernel_rfl) H)

/-! slices.IndexFunc[[]milestone/api.Event,milestone/api.Event] -/

def sh_slices_IndexFunc_sl_api_Event_api_Event_L1 (P : Program) (t7 s0 f1 : Value) (K : Value → Heap → Prop) (t8 : Value) (h_1 : Heap) (Z : Value → Heap → Prop) : Prop :=
  pBin .lss t8 t7 fun t9 =>
  ifV t9
  (pIdx 4 s0 t8 fun t14 =>
  pLoadN 4 h_1 t14 fun t15 =>
  callV P f1 [t15].toArray h_1 fun t16 h_2 =>
  ifV t16
  (K t8 h_2)
  (pBin .add t8 (.int .i64 1) fun t18 =>
  Z t18 h_2))
  (K (.int .i64 (-1)) h_1)

def sh_slices_IndexFunc_sl_api_Event_api_Event (P : Program) (s0 f1 : Value) (h : Heap) (K : Value → Heap → Prop) : Prop :=
  pLen s0 fun t7 =>
  LoopH (σ := Vals [8]) (fun x hh ZZ => sh_slices_IndexFunc_sl_api_Event_api_Event_L1 P t7 s0 f1 K x.1 hh (fun a0 hz => ZZ (a0, ()) hz)) ((.int .i64 0), ()) h

set_option maxRecDepth 100000 in
theorem lk_slices_IndexFunc_sl_api_Event_api_Event (s0 f1 : Value) {h : Heap} {K : Value → Heap → Prop} (H : sh_slices_IndexFunc_sl_api_Event_api_Event Tryz.prog s0 f1 h K) : CallsH Tryz.prog F_slices_IndexFunc_sl_api_Event_api_Event [s0, f1].toArray h K :=
  callsH_of (ann := (annG (Tryz.f33.body.getD .skip) 0 [(3, [8])]).1) (c := Tryz.f33.body.getD .skip) Tryz.func33 (by kernel_rfl) (by kernel_rfl) (by kernel_rfl) (of_decide_eq_true (by kernel_rfl))
    (Eq.mpr (by kernel_rfl) H)

/-! milestone/trace.Beyond$1 -/

def sh_trace_Beyond_1_C1 (P : Program) (K : Value → Heap → Prop) (t4 : Value) (h_2 : Heap) : Prop :=
  K t4 h_2

def sh_trace_Beyond_1 (P : Program) (e0 t1 t2 : Value) (h : Heap) (K : Value → Heap → Prop) : Prop :=
  pBox T_api_Event e0 h fun e3 h_1 =>
  cutP (σ := Vals [4]) (fun J =>
  pField 0 e3 fun t5 =>
  pLoad h_1 t5 fun t6 =>
  pBin .eql t6 (.int .i64 0) fun t7 =>
  ifV t7
  (pField 2 e3 fun t9 =>
  pLoad h_1 t9 fun t10 =>
  pBin .lss t10 (.int .i64 0) fun t11 =>
  ifV t11
  (J ((.bool true), ()) h_1)
  (pField 2 e3 fun t13 =>
  pLoad h_1 t13 fun t14 =>
  pLoad h_1 t1 fun t15 =>
  pLen t15 fun t16 =>
  pBin .geq t14 t16 fun t17 =>
  ifV t17
  (J ((.bool true), ()) h_1)
  (pLoad h_1 t1 fun t20 =>
  pField 2 e3 fun t21 =>
  pLoad h_1 t21 fun t22 =>
  pIdx 1 t20 t22 fun t23 =>
  pLoad h_1 t23 fun t24 =>
  pLoad h_1 t2 fun t25 =>
  pBin .gtr t24 t25 fun t26 =>
  J (t26, ()) h_1)))
  (J ((.bool false), ()) h_1))
  (fun x hh => sh_trace_Beyond_1_C1 P K x.1 hh)

set_option maxRecDepth 100000 in
theorem lk_trace_Beyond_1 (e0 t1 t2 : Value) {h : Heap} {K : Value → Heap → Prop} (H : sh_trace_Beyond_1 Tryz.prog e0 t1 t2 h K) : CallsH Tryz.prog F_trace_Beyond_1 [e0, t1, t2].toArray h K :=
  callsH_of (ann := (annG (Tryz.f34.body.getD .skip) 0 [(1, [4])]).1) (c := Tryz.f34.body.getD .skip) Tryz.func34 (by kernel_rfl) (by kernel_rfl) (by kernel_rfl) (of_decide_eq_true (by kernel_rfl))
    (Eq.mpr (by kernel_rfl) H)

/-! (*milestone/milestoneref07.Draft).Raw -/

def sh_milestoneref07_Draft_Raw_k7 (P : Program) (i8 : Value) (Z_2 : Value → Heap → Prop) (h_52 : Heap) : Prop :=
  pBin .add i8 (.int .i64 1) fun t83 =>
  Z_2 t83 h_52

def sh_milestoneref07_Draft_Raw_C6 (P : Program) (g3 d0 i8 : Value) (Z_2 : Value → Heap → Prop) (a9_4 : Value) (h_44 : Heap) : Prop :=
  pField 3 g3 fun t95 =>
  pLoad h_44 t95 fun t96 =>
  pLoadN 3 h_44 a9_4 fun t97 =>
  pBuildSlice T_api_Arc (zerosL [(.int .i64 0), (.int .i64 0), (.int .i64 0)] 1) [(0, 3, t97)] 1 h_44 fun t98 h_45 =>
  pAppend T_api_Arc 3 24 [(.int .i64 0), (.int .i64 0), (.int .i64 0)] t96 t98 h_45 fun t99 h_46 =>
  pField 3 g3 fun t100 =>
  pStore 1 t100 t99 h_46 fun u_10 h_47 =>
  callS P F_milestoneref07_Draft_Next [d0, (.int .i64 4)] h_47 fun t102 h_48 =>
  pBin .eql t102 (.int .i64 0) fun t103 =>
  ifV t103
  (pField 3 g3 fun t104 =>
  pLoad h_48 t104 fun t105 =>
  pField 1 a9_4 fun t106 =>
  pLoad h_48 t106 fun t107 =>
  pField 0 a9_4 fun t108 =>
  pLoad h_48 t108 fun t109 =>
  pField 2 a9_4 fun t110 =>
  pLoad h_48 t110 fun t111 =>
  pBuild [(.int .i64 0), (.int .i64 0), (.int .i64 0)] [(0, 1, t107), (1, 1, t109), (2, 1, t111)] fun t112 =>
  pBuildSlice T_api_Arc (zerosL [(.int .i64 0), (.int .i64 0), (.int .i64 0)] 1) [(0, 3, t112)] 1 h_48 fun t113 h_49 =>
  pAppend T_api_Arc 3 24 [(.int .i64 0), (.int .i64 0), (.int .i64 0)] t105 t113 h_49 fun t114 h_50 =>
  pField 3 g3 fun t115 =>
  pStore 1 t115 t114 h_50 fun u_11 h_51 =>
  sh_milestoneref07_Draft_Raw_k7 P i8 Z_2 h_51)
  (sh_milestoneref07_Draft_Raw_k7 P i8 Z_2 h_48)

def sh_milestoneref07_Draft_Raw_L5 (P : Program) (t52 g3 d0 t2 : Value) (K : Value → Heap → Prop) (i8 : Value) (h_26 : Heap) (Z_2 : Value → Heap → Prop) : Prop :=
  pBin .lss i8 t52 fun t81 =>
  ifV t81
  (cutP (σ := Vals [9]) (fun J =>
  pField 0 g3 fun t85 =>
  pLoad h_26 t85 fun t86 =>
  pField 0 g3 fun t89 =>
  pLoad h_26 t89 fun t90 =>
  (callS P F_milestoneref07_Draft_Next [d0, t86] h_26 fun t87 h_27 =>
  (pLoad h_27 t89 fun t90_1 =>
  t90_1 = t90) ∧
  ((callS P F_milestoneref07_Draft_Next [d0, t90] h_27 fun t91 h_28 =>
  (callS P F_milestoneref07_Draft_Weight [d0] h_28 fun t93 h_29 =>
  pBuild [(.int .i64 0), (.int .i64 0), (.int .i64 0)] [(0, 1, t87), (1, 1, t91), (2, 1, t93)] fun t94 =>
  pBox T_api_Arc (.agg #[(.int .i64 0), (.int .i64 0), (.int .i64 0)]) h_29 fun a9 h_30 =>
  pStore 3 a9 t94 h_30 fun u_6 h_31 =>
  J (a9, ()) h_31) ∧
  (pBox T_api_Arc (.agg #[(.int .i64 0), (.int .i64 0), (.int .i64 0)]) h_28 fun a9_1 h_32 =>
  callS P F_milestoneref07_Draft_Weight [d0] h_32 fun t93_1 h_33 =>
  pBuild [(.int .i64 0), (.int .i64 0), (.int .i64 0)] [(0, 1, t87), (1, 1, t91), (2, 1, t93_1)] fun t94_1 =>
  pStore 3 a9_1 t94_1 h_33 fun u_7 h_34 =>
  J (a9_1, ()) h_34)) ∧
  (pBox T_api_Arc (.agg #[(.int .i64 0), (.int .i64 0), (.int .i64 0)]) h_27 fun a9_2 h_35 =>
  callS P F_milestoneref07_Draft_Next [d0, t90] h_35 fun t91_1 h_36 =>
  callS P F_milestoneref07_Draft_Weight [d0] h_36 fun t93_2 h_37 =>
  pBuild [(.int .i64 0), (.int .i64 0), (.int .i64 0)] [(0, 1, t87), (1, 1, t91_1), (2, 1, t93_2)] fun t94_2 =>
  pStore 3 a9_2 t94_2 h_37 fun u_8 h_38 =>
  J (a9_2, ()) h_38))) ∧
  (pBox T_api_Arc (.agg #[(.int .i64 0), (.int .i64 0), (.int .i64 0)]) h_26 fun a9_3 h_39 =>
  callS P F_milestoneref07_Draft_Next [d0, t86] h_39 fun t87_1 h_40 =>
  (pLoad h_40 t89 fun t90_2 =>
  t90_2 = t90) ∧
  (callS P F_milestoneref07_Draft_Next [d0, t90] h_40 fun t91_2 h_41 =>
  callS P F_milestoneref07_Draft_Weight [d0] h_41 fun t93_3 h_42 =>
  pBuild [(.int .i64 0), (.int .i64 0), (.int .i64 0)] [(0, 1, t87_1), (1, 1, t91_2), (2, 1, t93_3)] fun t94_3 =>
  pStore 3 a9_3 t94_3 h_42 fun u_9 h_43 =>
  J (a9_3, ()) h_43)))
  (fun x hh => sh_milestoneref07_Draft_Raw_C6 P g3 d0 i8 Z_2 x.1 hh))
  (pLoadN 4 h_26 g3 fun t116 =>
  pStore 4 t2 t116 h_26 fun u_12 h_53 =>
  pLoadN 4 h_53 t2 fun res =>
  K res h_53)

def sh_milestoneref07_Draft_Raw_k4 (P : Program) (t52 g3 d0 t2 : Value) (K : Value → Heap → Prop) (h_25 : Heap) : Prop :=
  LoopH (σ := Vals [8]) (fun x hh ZZ => sh_milestoneref07_Draft_Raw_L5 P t52 g3 d0 t2 K x.1 hh (fun a0 hz => ZZ (a0, ()) hz)) ((.int .i64 0), ()) h_25

def sh_milestoneref07_Draft_Raw_L3 (P : Program) (g3 t55 d0 t52 t2 : Value) (K : Value → Heap → Prop) (v7 : Value) (h_20 : Heap) (Z_1 : Value → Heap → Prop) : Prop :=
  pField 0 g3 fun t57 =>
  pLoad h_20 t57 fun t58 =>
  pBin .lss v7 t58 fun t59 =>
  ifV t59
  (ifV t55
  (pField 3 g3 fun t65 =>
  pLoad h_20 t65 fun t66 =>
  pBin .add v7 (.int .i64 1) fun t69 =>
  pField 0 g3 fun t70 =>
  pLoad h_20 t70 fun t71 =>
  pBin .rem t69 t71 fun t72 =>
  callS P F_milestoneref07_Draft_Weight [d0] h_20 fun t74 h_21 =>
  (pLoad h_21 t65 fun t66_1 =>
  t66_1 = t66) ∧
  (pLoad h_21 t70 fun t71_1 =>
  t71_1 = t71) ∧
  (pBuild [(.int .i64 0), (.int .i64 0), (.int .i64 0)] [(0, 1, v7), (1, 1, t72), (2, 1, t74)] fun t75 =>
  pBuildSlice T_api_Arc (zerosL [(.int .i64 0), (.int .i64 0), (.int .i64 0)] 1) [(0, 3, t75)] 1 h_21 fun t76 h_22 =>
  pAppend T_api_Arc 3 24 [(.int .i64 0), (.int .i64 0), (.int .i64 0)] t66 t76 h_22 fun t77 h_23 =>
  pField 3 g3 fun t78 =>
  pStore 1 t78 t77 h_23 fun u_5 h_24 =>
  pBin .add v7 (.int .i64 1) fun t64 =>
  Z_1 t64 h_24))
  (sh_milestoneref07_Draft_Raw_k4 P t52 g3 d0 t2 K h_20))
  (sh_milestoneref07_Draft_Raw_k4 P t52 g3 d0 t2 K h_20)

def sh_milestoneref07_Draft_Raw_k2 (P : Program) (g3 d0 t2 : Value) (K : Value → Heap → Prop) (h_17 : Heap) : Prop :=
  pField 0 g3 fun t48 =>
  pLoad h_17 t48 fun t49 =>
  pBin .mul (.int .i64 3) t49 fun t50 =>
  pBin .add t50 (.int .i64 1) fun t51 =>
  callS P F_milestoneref07_Draft_Next [d0, t51] h_17 fun t52 h_18 =>
  callS P F_milestoneref07_Draft_Next [d0, (.int .i64 3)] h_18 fun t54 h_19 =>
  pBin .gtr t54 (.int .i64 0) fun t55 =>
  LoopH (σ := Vals [7]) (fun x hh ZZ => sh_milestoneref07_Draft_Raw_L3 P g3 t55 d0 t52 t2 K x.1 hh (fun a0 hz => ZZ (a0, ()) hz)) ((.int .i64 0), ()) h_19

def sh_milestoneref07_Draft_Raw_L1 (P : Program) (g3 d0 t2 : Value) (K : Value → Heap → Prop) (v4 : Value) (h_5 : Heap) (Z : Value → Heap → Prop) : Prop :=
  pField 0 g3 fun t15 =>
  pLoad h_5 t15 fun t16 =>
  pBin .lss v4 t16 fun t17 =>
  ifV t17
  (pField 1 g3 fun t20 =>
  pLoad h_5 t20 fun t21 =>
  callS P F_milestoneref07_Draft_Next [d0, (.int .i64 9)] h_5 fun t23 h_6 =>
  (pLoad h_6 t20 fun t21_1 =>
  t21_1 = t21) ∧
  (pBin .sub t23 (.int .i64 3) fun t24 =>
  pBuildSlice T_int64 (zerosL [(.int .i64 0)] 1) [(0, 1, t24)] 1 h_6 fun t25 h_7 =>
  pAppend T_int64 1 8 [(.int .i64 0)] t21 t25 h_7 fun t26 h_8 =>
  pField 1 g3 fun t27 =>
  pStore 1 t27 t26 h_8 fun u_1 h_9 =>
  pField 2 g3 fun t28 =>
  pLoad h_9 t28 fun t29 =>
  callS P F_milestoneref07_Draft_Next [d0, (.int .i64 7)] h_9 fun t31 h_10 =>
  (pLoad h_10 t28 fun t29_1 =>
  t29_1 = t29) ∧
  (pBuildSlice T_int64 (zerosL [(.int .i64 0)] 1) [(0, 1, t31)] 1 h_10 fun t32 h_11 =>
  pAppend T_int64 1 8 [(.int .i64 0)] t29 t32 h_11 fun t33 h_12 =>
  pField 2 g3 fun t34 =>
  pStore 1 t34 t33 h_12 fun u_2 h_13 =>
  pBin .add v4 (.int .i64 1) fun t19 =>
  Z t19 h_13)))
  (callS P F_milestoneref07_Draft_Next [d0, (.int .i64 9)] h_5 fun t36 h_14 =>
  pBin .eql t36 (.int .i64 0) fun t37 =>
  ifV t37
  (pField 1 g3 fun t38 =>
  pLoad h_14 t38 fun t39 =>
  pIdx 1 t39 (.int .i64 0) fun t40 =>
  pStore 1 t40 (.int .i64 (-2147483648)) h_14 fun u_3 h_15 =>
  pField 2 g3 fun t41 =>
  pLoad h_15 t41 fun t42 =>
  pField 0 g3 fun t43 =>
  pLoad h_15 t43 fun t44 =>
  pBin .sub t44 (.int .i64 1) fun t45 =>
  pIdx 1 t42 t45 fun t46 =>
  pStore 1 t46 (.int .i64 2147483647) h_15 fun u_4 h_16 =>
  sh_milestoneref07_Draft_Raw_k2 P g3 d0 t2 K h_16)
  (sh_milestoneref07_Draft_Raw_k2 P g3 d0 t2 K h_14))

def sh_milestoneref07_Draft_Raw (P : Program) (d0 : Value) (h : Heap) (K : Value → Heap → Prop) : Prop :=
  pBox T_api_Raw (.agg #[(.int .i64 0), (.slice none 0 0), (.slice none 0 0), (.slice none 0 0)]) h fun t2 h_1 =>
  callS P F_milestoneref07_Draft_Next [d0, (.int .i64 12)] h_1 fun t11 h_2 =>
  pBin .add (.int .i64 1) t11 fun t12 =>
  pBuild [(.int .i64 0), (.slice none 0 0), (.slice none 0 0), (.slice none 0 0)] [(0, 1, t12)] fun t13 =>
  pBox T_api_Raw (.agg #[(.int .i64 0), (.slice none 0 0), (.slice none 0 0), (.slice none 0 0)]) h_2 fun g3 h_3 =>
  pStore 4 g3 t13 h_3 fun u h_4 =>
  LoopH (σ := Vals [4]) (fun x hh ZZ => sh_milestoneref07_Draft_Raw_L1 P g3 d0 t2 K x.1 hh (fun a0 hz => ZZ (a0, ()) hz)) ((.int .i64 0), ()) h_4

set_option maxRecDepth 100000 in
theorem lk_milestoneref07_Draft_Raw (d0 : Value) {h : Heap} {K : Value → Heap → Prop} (H : sh_milestoneref07_Draft_Raw Tryz.prog d0 h K) : CallsH Tryz.prog F_milestoneref07_Draft_Raw [d0].toArray h K :=
  callsH_of (ann := (annG (Tryz.f35.body.getD .skip) 0 [(4, [4]), (16, [7]), (22, [8]), (26, [9])]).1) (c := Tryz.f35.body.getD .skip) Tryz.func35 (by kernel_rfl) (by kernel_rfl) (by kernel_rfl) (of_decide_eq_true (by kernel_rfl))
    (Eq.mpr (by kernel_rfl) H)

end Go.Proofs.YtgefabaobhendaaGreatDoor

namespace Go.Proofs.YtgefabaobhendaaGreatDoor
open Go Go.Mh
set_option maxHeartbeats 0
set_option linter.unusedVariables false

/-! milestone/net.one[[]int] -/

def sh_net_one_sl_int_k1 (P : Program) (K : Value → Heap → Prop) (h_1 : Heap) : Prop :=
  K (.tuple #[(.slice none 0 0), (.bool false)]) h_1

def sh_net_one_sl_int (P : Program) (l0 i1 : Value) (h : Heap) (K : Value → Heap → Prop) : Prop :=
  pBin .lss i1 (.int .i64 0) fun t7 =>
  ifV t7
  (sh_net_one_sl_int_k1 P K h)
  (pLen l0 fun t11 =>
  pBin .geq i1 t11 fun t12 =>
  ifV t12
  (sh_net_one_sl_int_k1 P K h)
  (pIdx 1 l0 i1 fun t17 =>
  pLoad h t17 fun t18 =>
  K (.tuple #[t18, (.bool true)]) h))

set_option maxRecDepth 100000 in
theorem lk_net_one_sl_int (l0 i1 : Value) {h : Heap} {K : Value → Heap → Prop} (H : sh_net_one_sl_int Tryz.prog l0 i1 h K) : CallsH Tryz.prog F_net_one_sl_int [l0, i1].toArray h K :=
  callsH_of (ann := (annG (Tryz.f36.body.getD .skip) 0 []).1) (c := Tryz.f36.body.getD .skip) Tryz.func36 (by kernel_rfl) (by kernel_rfl) (by kernel_rfl) (of_decide_eq_true (by kernel_rfl))
    (Eq.mpr (by kernel_rfl) H)

/-! slices.Clone[[]int,int] -/

def sh_slices_Clone_sl_int_int (P : Program) (s0 : Value) (h : Heap) (K : Value → Heap → Prop) : Prop :=
  pEq false .slice s0 (.slice none 0 0) fun t4 =>
  ifV t4
  (K (.slice none 0 0) h)
  (pBuildSlice T_int (zerosL [(.int .i64 0)] 0) [] 0 h fun t5 h_1 =>
  pAppend T_int 1 8 [(.int .i64 0)] t5 s0 h_1 fun t7 h_2 =>
  K t7 h_2)

set_option maxRecDepth 100000 in
theorem lk_slices_Clone_sl_int_int (s0 : Value) {h : Heap} {K : Value → Heap → Prop} (H : sh_slices_Clone_sl_int_int Tryz.prog s0 h K) : CallsH Tryz.prog F_slices_Clone_sl_int_int [s0].toArray h K :=
  callsH_of (ann := (annG (Tryz.f37.body.getD .skip) 0 []).1) (c := Tryz.f37.body.getD .skip) Tryz.func37 (by kernel_rfl) (by kernel_rfl) (by kernel_rfl) (of_decide_eq_true (by kernel_rfl))
    (Eq.mpr (by kernel_rfl) H)

/-! milestone/graph.Check -/

def sh_graph_Check (P : Program) (r0 : Value) (h : Heap) (K : Value → Heap → Prop) : Prop :=
  pBox T_api_Raw r0 h fun r1 h_1 =>
  pBox T_error .nilIface h_1 fun err2 h_2 =>
  pLoadN 4 h_2 r1 fun t4 =>
  callS P F_graph_look [t4] h_2 fun t5 h_3 =>
  pStore 1 err2 .nilIface h_3 fun u h_4 =>
  DeferS P F_graph_Check_1 #[err2] h_4 fun h_5 =>
  pLoad h_5 err2 fun res =>
  K res h_5

set_option maxRecDepth 100000 in
theorem lk_graph_Check (r0 : Value) {h : Heap} {K : Value → Heap → Prop} (H : sh_graph_Check Tryz.prog r0 h K) : CallsH Tryz.prog F_graph_Check [r0].toArray h K :=
  callsH_defer (g := F_graph_Check_1) (A := cL (Tryz.f38.body.getD .skip)) (B := cR (cR (Tryz.f38.body.getD .skip))) (annA := (annG (cL (Tryz.f38.body.getD .skip)) 0 []).1) (annB := (annG (cR (cR (Tryz.f38.body.getD .skip))) 0 []).1) (id := cId (cL (cR (Tryz.f38.body.getD .skip)))) (o1 := cO 0 (cL (cR (Tryz.f38.body.getD .skip)))) (o2 := cO 1 (cL (cR (Tryz.f38.body.getD .skip)))) (s := 3) (caps := #[(.tmp 2)]) (c := { callee := .value (.tmp 3), args := #[], argTypes := #[] })
    Tryz.func38 (by kernel_rfl) (by kernel_rfl) (by kernel_rfl) (of_decide_eq_true (by kernel_rfl)) (by kernel_rfl) (by kernel_rfl) (by kernel_rfl) (by kernel_rfl) rfl rfl (by kernel_rfl) (by kernel_rfl)
    (Eq.mpr (by kernel_rfl) H)

/-! milestone/net.of -/

def sh_net_of (P : Program) (raw0 : Value) (h : Heap) (K : Value → Heap → Prop) : Prop :=
  pBox T_api_Raw raw0 h fun raw1 h_1 =>
  pLoadN 4 h_1 raw1 fun t5 =>
  pBuild [(.int .i64 0), (.slice none 0 0), (.slice none 0 0), (.slice none 0 0), (.slice none 0 0), (.slice none 0 0)] [(0, 4, t5)] fun t6 =>
  pBox T_net_Net t6 h_1 fun t7 h_2 =>
  callV P (.func (.func F_net_of_1) #[] #[raw1]) [(.func (.func F_net_of_2) #[] #[])].toArray h_2 fun t12 h_3 =>
  callV P (.func (.func F_net_of_1) #[] #[raw1]) [(.func (.func F_net_of_3) #[] #[])].toArray h_3 fun t14 h_4 =>
  pNil t7 fun t15 =>
  pField 4 t15 fun t16 =>
  pStore 1 t16 t12 h_4 fun u h_5 =>
  pNil t7 fun t17 =>
  pField 5 t17 fun t18 =>
  pStore 1 t18 t14 h_5 fun u_1 h_6 =>
  K t7 h_6

set_option maxRecDepth 100000 in
theorem lk_net_of (raw0 : Value) {h : Heap} {K : Value → Heap → Prop} (H : sh_net_of Tryz.prog raw0 h K) : CallsH Tryz.prog F_net_of [raw0].toArray h K :=
  callsH_of (ann := (annG (Tryz.f40.body.getD .skip) 0 []).1) (c := Tryz.f40.body.getD .skip) Tryz.func40 (by kernel_rfl) (by kernel_rfl) (by kernel_rfl) (of_decide_eq_true (by kernel_rfl))
    (Eq.mpr (by kernel_rfl) H)

/-! milestone/net.own -/

def sh_net_own (P : Program) (raw0 : Value) (h : Heap) (K : Value → Heap → Prop) : Prop :=
  pBox T_api_Raw raw0 h fun raw1 h_1 =>
  pBox T_api_Raw (.agg #[(.int .i64 0), (.slice none 0 0), (.slice none 0 0), (.slice none 0 0)]) h_1 fun t2 h_2 =>
  pField 1 raw1 fun t3 =>
  pLoad h_2 t3 fun t4 =>
  pField 2 raw1 fun t6 =>
  pLoad h_2 t6 fun t7 =>
  pField 3 raw1 fun t9 =>
  pLoad h_2 t9 fun t10 =>
  callS P F_slices_Clone_sl_int64_int64 [t4] h_2 fun t5 h_3 =>
  (pLoad h_3 t6 fun t7_1 =>
  t7_1 = t7) ∧
  (pLoad h_3 t9 fun t10_1 =>
  t10_1 = t10) ∧
  (pField 1 raw1 fun t12 =>
  callS P F_slices_Clone_sl_int64_int64 [t7] h_3 fun t8 h_4 =>
  (pLoad h_4 t9 fun t10_2 =>
  t10_2 = t10) ∧
  (callS P F_slices_Clone_sl_api_Arc_api_Arc [t10] h_4 fun t11 h_5 =>
  pStore 1 t12 t5 h_5 fun u h_6 =>
  pField 2 raw1 fun t13 =>
  pStore 1 t13 t8 h_6 fun u_1 h_7 =>
  pField 3 raw1 fun t14 =>
  pStore 1 t14 t11 h_7 fun u_2 h_8 =>
  pLoadN 4 h_8 raw1 fun t15 =>
  pStore 4 t2 t15 h_8 fun u_3 h_9 =>
  pLoadN 4 h_9 t2 fun res =>
  K res h_9))

set_option maxRecDepth 100000 in
theorem lk_net_own (raw0 : Value) {h : Heap} {K : Value → Heap → Prop} (H : sh_net_own Tryz.prog raw0 h K) : CallsH Tryz.prog F_net_own [raw0].toArray h K :=
  callsH_of (ann := (annG (Tryz.f41.body.getD .skip) 0 []).1) (c := Tryz.f41.body.getD .skip) Tryz.func41 (by kernel_rfl) (by kernel_rfl) (by kernel_rfl) (of_decide_eq_true (by kernel_rfl))
    (Eq.mpr (by kernel_rfl) H)

/-! milestone/trace.may$1 -/

def sh_trace_may_1_C1 (P : Program) (e2 : Value) (K : Value → Heap → Prop) (most4 : Value) (h_28 : Heap) : Prop :=
  pField 2 e2 fun t14 =>
  pLoad h_28 t14 fun t15 =>
  pBin .geq t15 (.int .i64 0) fun t16 =>
  ifV t16
  (pField 2 e2 fun t18 =>
  pLoad h_28 t18 fun t19 =>
  pBin .lss t19 most4 fun t21 =>
  ifV t21
  (pField 1 e2 fun t24 =>
  pLoad h_28 t24 fun t25 =>
  pBin .eql t25 (.int .i64 0) fun t26 =>
  ifV t26
  (pField 0 e2 fun t34 =>
  pLoad h_28 t34 fun t35 =>
  pBin .eql t35 (.int .i64 0) fun t36 =>
  ifV t36
  (K (.bool true) h_28)
  (pField 3 e2 fun t38 =>
  pLoad h_28 t38 fun t39 =>
  pBin .eql t39 (.int .i64 0) fun t40 =>
  K t40 h_28))
  (pField 1 e2 fun t28 =>
  pLoad h_28 t28 fun t29 =>
  pBin .eql t29 (.int .i64 1) fun t30 =>
  ifV t30
  (pField 0 e2 fun t34_1 =>
  pLoad h_28 t34_1 fun t35_1 =>
  pBin .eql t35_1 (.int .i64 0) fun t36_1 =>
  ifV t36_1
  (K (.bool true) h_28)
  (pField 3 e2 fun t38_1 =>
  pLoad h_28 t38_1 fun t39_1 =>
  pBin .eql t39_1 (.int .i64 0) fun t40_1 =>
  K t40_1 h_28))
  (K (.bool false) h_28)))
  (K (.bool false) h_28))
  (K (.bool false) h_28)

def sh_trace_may_1 (P : Program) (e0 t1 : Value) (h : Heap) (K : Value → Heap → Prop) : Prop :=
  pBox T_api_Event e0 h fun e2 h_1 =>
  cutP (σ := Vals [4]) (fun J =>
  pLoad h_1 t1 fun t6 =>
  pLoad h_1 t1 fun t8 =>
  pField 0 e2 fun t11 =>
  pLoad h_1 t11 fun t12 =>
  (pMakeMap h_1 fun t5 h_2 =>
  callS P F_net_Net_Nodes [t6] h_2 fun t7 h_3 =>
  (pLoad h_3 t1 fun t8_1 =>
  t8_1 = t8) ∧
  (pLoad h_3 t11 fun t12_1 =>
  t12_1 = t12) ∧
  ((pMapSet (.int .i64) t5 (.int .i64 0) t7 h_3 fun u h_4 =>
  (pLoad h_4 t1 fun t8_2 =>
  t8_2 = t8) ∧
  (pLoad h_4 t11 fun t12_2 =>
  t12_2 = t12) ∧
  (callS P F_net_Net_Arcs [t8] h_4 fun t9 h_5 =>
  (pLoad h_5 t11 fun t12_3 =>
  t12_3 = t12) ∧
  (pMapSet (.int .i64) t5 (.int .i64 1) t9 h_5 fun u_1 h_6 =>
  (pLoad h_6 t11 fun t12_4 =>
  t12_4 = t12) ∧
  (pLook (.int .i64) (.int .i64 0) false h_6 t5 t12 fun t13 =>
  J (t13, ()) h_6)))) ∧
  (callS P F_net_Net_Arcs [t8] h_3 fun t9_1 h_7 =>
  (pLoad h_7 t11 fun t12_5 =>
  t12_5 = t12) ∧
  ((pMapSet (.int .i64) t5 (.int .i64 0) t7 h_7 fun u_2 h_8 =>
  (pLoad h_8 t11 fun t12_6 =>
  t12_6 = t12) ∧
  (pMapSet (.int .i64) t5 (.int .i64 1) t9_1 h_8 fun u_3 h_9 =>
  (pLoad h_9 t11 fun t12_7 =>
  t12_7 = t12) ∧
  (pLook (.int .i64) (.int .i64 0) false h_9 t5 t12 fun t13_1 =>
  J (t13_1, ()) h_9))) ∧
  (pMapSet (.int .i64) t5 (.int .i64 1) t9_1 h_7 fun u_4 h_10 =>
  (pLoad h_10 t11 fun t12_8 =>
  t12_8 = t12) ∧
  (pMapSet (.int .i64) t5 (.int .i64 0) t7 h_10 fun u_5 h_11 =>
  (pLoad h_11 t11 fun t12_9 =>
  t12_9 = t12) ∧
  (pLook (.int .i64) (.int .i64 0) false h_11 t5 t12 fun t13_2 =>
  J (t13_2, ()) h_11))))))) ∧
  (callS P F_net_Net_Nodes [t6] h_1 fun t7_1 h_12 =>
  (pLoad h_12 t1 fun t8_3 =>
  t8_3 = t8) ∧
  (pLoad h_12 t11 fun t12_10 =>
  t12_10 = t12) ∧
  ((pMakeMap h_12 fun t5_1 h_13 =>
  (pMapSet (.int .i64) t5_1 (.int .i64 0) t7_1 h_13 fun u_6 h_14 =>
  (pLoad h_14 t1 fun t8_4 =>
  t8_4 = t8) ∧
  (pLoad h_14 t11 fun t12_11 =>
  t12_11 = t12) ∧
  (callS P F_net_Net_Arcs [t8] h_14 fun t9_2 h_15 =>
  (pLoad h_15 t11 fun t12_12 =>
  t12_12 = t12) ∧
  (pMapSet (.int .i64) t5_1 (.int .i64 1) t9_2 h_15 fun u_7 h_16 =>
  (pLoad h_16 t11 fun t12_13 =>
  t12_13 = t12) ∧
  (pLook (.int .i64) (.int .i64 0) false h_16 t5_1 t12 fun t13_3 =>
  J (t13_3, ()) h_16)))) ∧
  (callS P F_net_Net_Arcs [t8] h_13 fun t9_3 h_17 =>
  (pLoad h_17 t11 fun t12_14 =>
  t12_14 = t12) ∧
  ((pMapSet (.int .i64) t5_1 (.int .i64 0) t7_1 h_17 fun u_8 h_18 =>
  (pLoad h_18 t11 fun t12_15 =>
  t12_15 = t12) ∧
  (pMapSet (.int .i64) t5_1 (.int .i64 1) t9_3 h_18 fun u_9 h_19 =>
  (pLoad h_19 t11 fun t12_16 =>
  t12_16 = t12) ∧
  (pLook (.int .i64) (.int .i64 0) false h_19 t5_1 t12 fun t13_4 =>
  J (t13_4, ()) h_19))) ∧
  (pMapSet (.int .i64) t5_1 (.int .i64 1) t9_3 h_17 fun u_10 h_20 =>
  (pLoad h_20 t11 fun t12_17 =>
  t12_17 = t12) ∧
  (pMapSet (.int .i64) t5_1 (.int .i64 0) t7_1 h_20 fun u_11 h_21 =>
  (pLoad h_21 t11 fun t12_18 =>
  t12_18 = t12) ∧
  (pLook (.int .i64) (.int .i64 0) false h_21 t5_1 t12 fun t13_5 =>
  J (t13_5, ()) h_21)))))) ∧
  (callS P F_net_Net_Arcs [t8] h_12 fun t9_4 h_22 =>
  (pLoad h_22 t11 fun t12_19 =>
  t12_19 = t12) ∧
  (pMakeMap h_22 fun t5_2 h_23 =>
  (pMapSet (.int .i64) t5_2 (.int .i64 0) t7_1 h_23 fun u_12 h_24 =>
  (pLoad h_24 t11 fun t12_20 =>
  t12_20 = t12) ∧
  (pMapSet (.int .i64) t5_2 (.int .i64 1) t9_4 h_24 fun u_13 h_25 =>
  (pLoad h_25 t11 fun t12_21 =>
  t12_21 = t12) ∧
  (pLook (.int .i64) (.int .i64 0) false h_25 t5_2 t12 fun t13_6 =>
  J (t13_6, ()) h_25))) ∧
  (pMapSet (.int .i64) t5_2 (.int .i64 1) t9_4 h_23 fun u_14 h_26 =>
  (pLoad h_26 t11 fun t12_22 =>
  t12_22 = t12) ∧
  (pMapSet (.int .i64) t5_2 (.int .i64 0) t7_1 h_26 fun u_15 h_27 =>
  (pLoad h_27 t11 fun t12_23 =>
  t12_23 = t12) ∧
  (pLook (.int .i64) (.int .i64 0) false h_27 t5_2 t12 fun t13_7 =>
  J (t13_7, ()) h_27))))))))
  (fun x hh => sh_trace_may_1_C1 P e2 K x.1 hh)

set_option maxRecDepth 100000 in
theorem lk_trace_may_1 (e0 t1 : Value) {h : Heap} {K : Value → Heap → Prop} (H : sh_trace_may_1 Tryz.prog e0 t1 h K) : CallsH Tryz.prog F_trace_may_1 [e0, t1].toArray h K :=
  callsH_of (ann := (annG (Tryz.f42.body.getD .skip) 0 [(1, [4])]).1) (c := Tryz.f42.body.getD .skip) Tryz.func42 (by kernel_rfl) (by kernel_rfl) (by kernel_rfl) (of_decide_eq_true (by kernel_rfl))
    (Eq.mpr (by kernel_rfl) H)

/-! (*milestone/net.Net).Nodes -/

def sh_net_Net_Nodes (P : Program) (n0 : Value) (h : Heap) (K : Value → Heap → Prop) : Prop :=
  pEq false .ptr n0 (.pointer none) fun t4 =>
  ifV t4
  (K (.int .i64 0) h)
  (pNil n0 fun t6 =>
  pField 0 t6 fun t7 =>
  pField 0 t7 fun t8 =>
  pLoad h t8 fun t9 =>
  K t9 h)

set_option maxRecDepth 100000 in
theorem lk_net_Net_Nodes (n0 : Value) {h : Heap} {K : Value → Heap → Prop} (H : sh_net_Net_Nodes Tryz.prog n0 h K) : CallsH Tryz.prog F_net_Net_Nodes [n0].toArray h K :=
  callsH_of (ann := (annG (Tryz.f43.body.getD .skip) 0 []).1) (c := Tryz.f43.body.getD .skip) Tryz.func43 (by kernel_rfl) (by kernel_rfl) (by kernel_rfl) (of_decide_eq_true (by kernel_rfl))
    (Eq.mpr (by kernel_rfl) H)

/-! (*milestone/net.Net).Arcs -/

def sh_net_Net_Arcs (P : Program) (n0 : Value) (h : Heap) (K : Value → Heap → Prop) : Prop :=
  pEq false .ptr n0 (.pointer none) fun t4 =>
  ifV t4
  (K (.int .i64 0) h)
  (pNil n0 fun t6 =>
  pField 0 t6 fun t7 =>
  pField 3 t7 fun t8 =>
  pLoad h t8 fun t9 =>
  pLen t9 fun t10 =>
  K t10 h)

set_option maxRecDepth 100000 in
theorem lk_net_Net_Arcs (n0 : Value) {h : Heap} {K : Value → Heap → Prop} (H : sh_net_Net_Arcs Tryz.prog n0 h K) : CallsH Tryz.prog F_net_Net_Arcs [n0].toArray h K :=
  callsH_of (ann := (annG (Tryz.f44.body.getD .skip) 0 []).1) (c := Tryz.f44.body.getD .skip) Tryz.func44 (by kernel_rfl) (by kernel_rfl) (by kernel_rfl) (of_decide_eq_true (by kernel_rfl))
    (Eq.mpr (by kernel_rfl) H)

/-! (*milestone/net.Net).Arc -/

def sh_net_Net_Arc (P : Program) (n0 a1 : Value) (h : Heap) (K : Value → Heap → Prop) : Prop :=
  pBox T_api_Arc (.agg #[(.int .i64 0), (.int .i64 0), (.int .i64 0)]) h fun t4 h_1 =>
  pEq false .ptr n0 (.pointer none) fun t7 =>
  ifV t7
  (pBuild [(.int .i64 0), (.int .i64 0), (.int .i64 0)] [] fun t8 =>
  pStore 3 t4 t8 h_1 fun u h_2 =>
  pLoadN 3 h_2 t4 fun res =>
  K (.tuple #[res, (.bool false)]) h_2)
  (pNil n0 fun t10 =>
  pField 0 t10 fun t11 =>
  pField 3 t11 fun t12 =>
  pLoad h_1 t12 fun t13 =>
  callS P F_net_one_api_Arc [t13, a1] h_1 fun t15 h_3 =>
  pExt t15 0 fun t16 =>
  pExt t15 1 fun t17 =>
  pStore 3 t4 t16 h_3 fun u_1 h_4 =>
  pLoadN 3 h_4 t4 fun res_1 =>
  K (.tuple #[res_1, t17]) h_4)

set_option maxRecDepth 100000 in
theorem lk_net_Net_Arc (n0 a1 : Value) {h : Heap} {K : Value → Heap → Prop} (H : sh_net_Net_Arc Tryz.prog n0 a1 h K) : CallsH Tryz.prog F_net_Net_Arc [n0, a1].toArray h K :=
  callsH_of (ann := (annG (Tryz.f45.body.getD .skip) 0 []).1) (c := Tryz.f45.body.getD .skip) Tryz.func45 (by kernel_rfl) (by kernel_rfl) (by kernel_rfl) (of_decide_eq_true (by kernel_rfl))
    (Eq.mpr (by kernel_rfl) H)

/-! milestone/heap.New -/

def sh_heap_New (P : Program) (n0 : Value) (h : Heap) (K : Value → Heap → Prop) : Prop :=
  pMakeMap h fun t3 h_1 =>
  pBuild [(.slice none 0 0), (.map none)] [(1, 1, t3)] fun t4 =>
  pMax n0 (.int .i64 0) fun t6 =>
  pBuild [(.slice none 0 0), (.map none), (.int .i64 0)] [(0, 2, t4), (2, 1, t6)] fun t7 =>
  pBox T_heap_Heap t7 h_1 fun t8 h_2 =>
  K t8 h_2

set_option maxRecDepth 100000 in
theorem lk_heap_New (n0 : Value) {h : Heap} {K : Value → Heap → Prop} (H : sh_heap_New Tryz.prog n0 h K) : CallsH Tryz.prog F_heap_New [n0].toArray h K :=
  callsH_of (ann := (annG (Tryz.f46.body.getD .skip) 0 []).1) (c := Tryz.f46.body.getD .skip) Tryz.func46 (by kernel_rfl) (by kernel_rfl) (by kernel_rfl) (of_decide_eq_true (by kernel_rfl))
    (Eq.mpr (by kernel_rfl) H)

/-! slices.Repeat[[]int64,int64] -/

def sh_slices_Repeat_sl_int64_int64_k1 (P : Program) (h_2 : Heap) : Prop :=
  False

def sh_slices_Repeat_sl_int64_int64_L2 (P : Program) (t30 : Value) (K : Value → Heap → Prop) (n8 : Value) (h_5 : Heap) (Z : Value → Heap → Prop) : Prop :=
  pLen t30 fun t36 =>
  pBin .lss n8 t36 fun t37 =>
  ifV t37
  (pSlice 1 t30 (some n8) none none fun t41 =>
  pSlice 1 t30 none (some n8) none fun t44 =>
  pCopy 1 t41 t44 h_5 fun t45 h_6 =>
  pBin .add n8 t45 fun t46 =>
  Z t46 h_6)
  (K t30 h_5)

def sh_slices_Repeat_sl_int64_int64 (P : Program) (x0 count1 : Value) (h : Heap) (K : Value → Heap → Prop) : Prop :=
  pBin .lss count1 (.int .i64 0) fun t10 =>
  ifV t10
  (False)
  (pLen x0 fun t14 =>
  pConv .u64 t14 fun t15 =>
  pConv .u64 count1 fun t17 =>
  callS P F_math_bits_Mul [t15, t17] h fun t18 h_1 =>
  pExt t18 0 fun t19 =>
  pExt t18 1 fun t20 =>
  pBin .gtr t19 (.int .u64 0) fun t22 =>
  ifV t22
  (sh_slices_Repeat_sl_int64_int64_k1 P h_1)
  (pBin .gtr t20 (.int .u64 9223372036854775807) fun t25 =>
  ifV t25
  (sh_slices_Repeat_sl_int64_int64_k1 P h_1)
  (pConv .i64 t20 fun t29 =>
  pMakeSlice T_int64 8 [(.int .i64 0)] t29 t29 h_1 fun t30 h_3 =>
  pCopy 1 t30 x0 h_3 fun t33 h_4 =>
  LoopH (σ := Vals [8]) (fun x hh ZZ => sh_slices_Repeat_sl_int64_int64_L2 P t30 K x.1 hh (fun a0 hz => ZZ (a0, ()) hz)) (t33, ()) h_4)))

set_option maxRecDepth 100000 in
theorem lk_slices_Repeat_sl_int64_int64 (x0 count1 : Value) {h : Heap} {K : Value → Heap → Prop} (H : sh_slices_Repeat_sl_int64_int64 Tryz.prog x0 count1 h K) : CallsH Tryz.prog F_slices_Repeat_sl_int64_int64 [x0, count1].toArray h K :=
  callsH_of (ann := (annG (Tryz.f47.body.getD .skip) 0 [(9, [8])]).1) (c := Tryz.f47.body.getD .skip) Tryz.func47 (by kernel_rfl) (by kernel_rfl) (by kernel_rfl) (of_decide_eq_true (by kernel_rfl))
    (Eq.mpr (by kernel_rfl) H)

/-! slices.Repeat[[]int,int] -/

def sh_slices_Repeat_sl_int_int_k1 (P : Program) (h_2 : Heap) : Prop :=
  False

def sh_slices_Repeat_sl_int_int_L2 (P : Program) (t30 : Value) (K : Value → Heap → Prop) (n8 : Value) (h_5 : Heap) (Z : Value → Heap → Prop) : Prop :=
  pLen t30 fun t36 =>
  pBin .lss n8 t36 fun t37 =>
  ifV t37
  (pSlice 1 t30 (some n8) none none fun t41 =>
  pSlice 1 t30 none (some n8) none fun t44 =>
  pCopy 1 t41 t44 h_5 fun t45 h_6 =>
  pBin .add n8 t45 fun t46 =>
  Z t46 h_6)
  (K t30 h_5)

def sh_slices_Repeat_sl_int_int (P : Program) (x0 count1 : Value) (h : Heap) (K : Value → Heap → Prop) : Prop :=
  pBin .lss count1 (.int .i64 0) fun t10 =>
  ifV t10
  (False)
  (pLen x0 fun t14 =>
  pConv .u64 t14 fun t15 =>
  pConv .u64 count1 fun t17 =>
  callS P F_math_bits_Mul [t15, t17] h fun t18 h_1 =>
  pExt t18 0 fun t19 =>
  pExt t18 1 fun t20 =>
  pBin .gtr t19 (.int .u64 0) fun t22 =>
  ifV t22
  (sh_slices_Repeat_sl_int_int_k1 P h_1)
  (pBin .gtr t20 (.int .u64 9223372036854775807) fun t25 =>
  ifV t25
  (sh_slices_Repeat_sl_int_int_k1 P h_1)
  (pConv .i64 t20 fun t29 =>
  pMakeSlice T_int 8 [(.int .i64 0)] t29 t29 h_1 fun t30 h_3 =>
  pCopy 1 t30 x0 h_3 fun t33 h_4 =>
  LoopH (σ := Vals [8]) (fun x hh ZZ => sh_slices_Repeat_sl_int_int_L2 P t30 K x.1 hh (fun a0 hz => ZZ (a0, ()) hz)) (t33, ()) h_4)))

set_option maxRecDepth 100000 in
theorem lk_slices_Repeat_sl_int_int (x0 count1 : Value) {h : Heap} {K : Value → Heap → Prop} (H : sh_slices_Repeat_sl_int_int Tryz.prog x0 count1 h K) : CallsH Tryz.prog F_slices_Repeat_sl_int_int [x0, count1].toArray h K :=
  callsH_of (ann := (annG (Tryz.f48.body.getD .skip) 0 [(9, [8])]).1) (c := Tryz.f48.body.getD .skip) Tryz.func48 (by kernel_rfl) (by kernel_rfl) (by kernel_rfl) (of_decide_eq_true (by kernel_rfl))
    (Eq.mpr (by kernel_rfl) H)

/-! (*milestone/heap.Heap).Push -/

def sh_heap_Heap_Push_k1 (P : Program) (K : Value → Heap → Prop) (h_1 : Heap) : Prop :=
  K (.int .i64 2) h_1

def sh_heap_Heap_Push (P : Program) (h0 id1 key2 : Value) (h : Heap) (K : Value → Heap → Prop) : Prop :=
  pEq false .ptr h0 (.pointer none) fun t10 =>
  ifV t10
  (K (.int .i64 1) h)
  (pNil h0 fun t13 =>
  pField 0 t13 fun t14 =>
  pField 1 t14 fun t15 =>
  pLoad h t15 fun t16 =>
  pLook (.int .i64) (.int .i64 0) true h t16 id1 fun t18 =>
  pExt t18 0 fun t19 =>
  pExt t18 1 fun t20 =>
  ifV t20
  (sh_heap_Heap_Push_k1 P K h)
  (pBin .lss id1 (.int .i64 0) fun t24 =>
  ifV t24
  (sh_heap_Heap_Push_k1 P K h)
  (pNil h0 fun t29 =>
  pField 2 t29 fun t30 =>
  pLoad h t30 fun t31 =>
  pBin .geq id1 t31 fun t32 =>
  ifV t32
  (sh_heap_Heap_Push_k1 P K h)
  (pNil h0 fun t35 =>
  pField 0 t35 fun t36 =>
  pField 1 t36 fun t37 =>
  pLoad h t37 fun t38 =>
  pNil h0 fun t41 =>
  pField 0 t41 fun t42 =>
  pField 0 t42 fun t43 =>
  pLoad h t43 fun t44 =>
  pLen t44 fun t45 =>
  pMapSet (.int .i64) t38 id1 t45 h fun u h_2 =>
  pNil h0 fun t48 =>
  pField 0 t48 fun t49 =>
  pField 0 t49 fun t50 =>
  pLoad h_2 t50 fun t51 =>
  pBuild [(.int .i64 0), (.int .i64 0)] [(0, 1, id1), (1, 1, key2)] fun t54 =>
  pBuildSlice T_heap_held (zerosL [(.int .i64 0), (.int .i64 0)] 1) [(0, 2, t54)] 1 h_2 fun t55 h_3 =>
  pAppend T_heap_held 2 16 [(.int .i64 0), (.int .i64 0)] t51 t55 h_3 fun t56 h_4 =>
  pNil h0 fun t57 =>
  pField 0 t57 fun t58 =>
  pField 0 t58 fun t59 =>
  pStore 1 t59 t56 h_4 fun u_1 h_5 =>
  pNil h0 fun t61 =>
  pField 0 t61 fun t62 =>
  pNil h0 fun t64 =>
  pField 0 t64 fun t65 =>
  pField 0 t65 fun t66 =>
  pLoad h_5 t66 fun t67 =>
  pLen t67 fun t68 =>
  pBin .sub t68 (.int .i64 1) fun t69 =>
  callS P F_heap_row_up [t62, t69] h_5 fun t70 h_6 =>
  K (.int .i64 0) h_6))))

set_option maxRecDepth 100000 in
theorem lk_heap_Heap_Push (h0 id1 key2 : Value) {h : Heap} {K : Value → Heap → Prop} (H : sh_heap_Heap_Push Tryz.prog h0 id1 key2 h K) : CallsH Tryz.prog F_heap_Heap_Push [h0, id1, key2].toArray h K :=
  callsH_of (ann := (annG (Tryz.f49.body.getD .skip) 0 []).1) (c := Tryz.f49.body.getD .skip) Tryz.func49 (by kernel_rfl) (by kernel_rfl) (by kernel_rfl) (of_decide_eq_true (by kernel_rfl))
    (Eq.mpr (by kernel_rfl) H)

/-! (*milestone/heap.Heap).Pop -/

def sh_heap_Heap_Pop (P : Program) (h0 : Value) (h : Heap) (K : Value → Heap → Prop) : Prop :=
  callS P F_heap_Heap_Len [h0] h fun t8 h_1 =>
  pBin .eql t8 (.int .i64 0) fun t9 =>
  ifV t9
  (K (.tuple #[(.int .i64 0), (.int .i64 0), (.bool false)]) h_1)
  (pNil h0 fun t11 =>
  pField 0 t11 fun t12 =>
  pField 0 t12 fun t13 =>
  pLoad h_1 t13 fun t14 =>
  pIdx 2 t14 (.int .i64 0) fun t15 =>
  pLoadN 2 h_1 t15 fun t16 =>
  pNil h0 fun t18 =>
  pField 0 t18 fun t19 =>
  pField 0 t19 fun t20 =>
  pLoad h_1 t20 fun t21 =>
  pLen t21 fun t22 =>
  pBin .sub t22 (.int .i64 1) fun t23 =>
  pBox T_heap_held (.agg #[(.int .i64 0), (.int .i64 0)]) h_1 fun first5 h_2 =>
  pStore 2 first5 t16 h_2 fun u h_3 =>
  (pLoad h_3 t20 fun t21_1 =>
  t21_1 = t21) ∧
  (pNil h0 fun t25 =>
  pField 0 t25 fun t26 =>
  callS P F_heap_row_swap [t26, (.int .i64 0), t23] h_3 fun t28 h_4 =>
  pNil h0 fun t31 =>
  pField 0 t31 fun t32 =>
  pField 0 t32 fun t33 =>
  pLoad h_4 t33 fun t34 =>
  pSlice 2 t34 none (some t23) none fun t36 =>
  pNil h0 fun t37 =>
  pField 0 t37 fun t38 =>
  pField 0 t38 fun t39 =>
  pStore 1 t39 t36 h_4 fun u_1 h_5 =>
  pNil h0 fun t41 =>
  pField 0 t41 fun t42 =>
  pField 1 t42 fun t43 =>
  pLoad h_5 t43 fun t44 =>
  pField 0 first5 fun t45 =>
  pLoad h_5 t45 fun t46 =>
  pDelete (.int .i64) t44 t46 h_5 fun u_2 h_6 =>
  pNil h0 fun t48 =>
  pField 0 t48 fun t49 =>
  callS P F_heap_row_down [t49, (.int .i64 0)] h_6 fun t50 h_7 =>
  pField 0 first5 fun t51 =>
  pLoad h_7 t51 fun t52 =>
  pField 1 first5 fun t53 =>
  pLoad h_7 t53 fun t54 =>
  K (.tuple #[t52, t54, (.bool true)]) h_7))

set_option maxRecDepth 100000 in
theorem lk_heap_Heap_Pop (h0 : Value) {h : Heap} {K : Value → Heap → Prop} (H : sh_heap_Heap_Pop Tryz.prog h0 h K) : CallsH Tryz.prog F_heap_Heap_Pop [h0].toArray h K :=
  callsH_of (ann := (annG (Tryz.f50.body.getD .skip) 0 []).1) (c := Tryz.f50.body.getD .skip) Tryz.func50 (by kernel_rfl) (by kernel_rfl) (by kernel_rfl) (of_decide_eq_true (by kernel_rfl))
    (Eq.mpr (by kernel_rfl) H)

/-! milestone/flood.arcs -/

def sh_flood_arcs (P : Program) (n0 l1 end2 : Value) (h : Heap) (K : Value → Heap → Prop) : Prop :=
  pBox T_p_net_Net n0 h fun n3 h_1 =>
  pBox T_sl_int l1 h_1 fun l4 h_2 =>
  pBox T_func_api_Arc_int end2 h_2 fun end5 h_3 =>
  K (.func (.func F_flood_arcs_1) #[] #[l4, n3, end5]) h_3

set_option maxRecDepth 100000 in
theorem lk_flood_arcs (n0 l1 end2 : Value) {h : Heap} {K : Value → Heap → Prop} (H : sh_flood_arcs Tryz.prog n0 l1 end2 h K) : CallsH Tryz.prog F_flood_arcs [n0, l1, end2].toArray h K :=
  callsH_of (ann := (annG (Tryz.f51.body.getD .skip) 0 []).1) (c := Tryz.f51.body.getD .skip) Tryz.func51 (by kernel_rfl) (by kernel_rfl) (by kernel_rfl) (of_decide_eq_true (by kernel_rfl))
    (Eq.mpr (by kernel_rfl) H)

/-! (*milestone/flood.run).reach -/

def sh_flood_run_reach_k2 (P : Program) (r0 v1 arc2 : Value) (K : Value → Heap → Prop) (h_4 : Heap) : Prop :=
  pNil r0 fun t52 =>
  pField 1 t52 fun t53 =>
  pField 1 t53 fun t54 =>
  pLoad h_4 t54 fun t55 =>
  pIdx 1 t55 v1 fun t58 =>
  pStore 1 t58 arc2 h_4 fun u h_5 =>
  K (.tuple #[]) h_5

def sh_flood_run_reach_k1 (P : Program) (t18 r0 v1 far3 arc2 : Value) (K : Value → Heap → Prop) (h_2 : Heap) : Prop :=
  ifV t18
  (pNil r0 fun t45 =>
  pField 0 t45 fun t46 =>
  pLoad h_2 t46 fun t47 =>
  callS P F_heap_Heap_Lower [t47, v1, far3] h_2 fun t50 h_3 =>
  sh_flood_run_reach_k2 P r0 v1 arc2 K h_3)
  (pNil r0 fun t20 =>
  pField 0 t20 fun t21 =>
  pLoad h_2 t21 fun t22 =>
  callS P F_heap_Heap_Push [t22, v1, far3] h_2 fun t25 h_6 =>
  sh_flood_run_reach_k2 P r0 v1 arc2 K h_6)

def sh_flood_run_reach (P : Program) (r0 v1 arc2 far3 : Value) (h : Heap) (K : Value → Heap → Prop) : Prop :=
  pNil r0 fun t12 =>
  pField 0 t12 fun t13 =>
  pLoad h t13 fun t14 =>
  callS P F_heap_Heap_Key [t14, v1] h fun t16 h_1 =>
  pExt t16 0 fun t17 =>
  pExt t16 1 fun t18 =>
  pNil r0 fun t28 =>
  pField 4 t28 fun t29 =>
  pLoad h_1 t29 fun t30 =>
  pLook (.int .i64) (.int .i64 0) false h_1 t30 v1 fun t32 =>
  pBin .gtr t32 (.int .i64 0) fun t33 =>
  ifV t33
  (K (.tuple #[]) h_1)
  (ifV t18
  (pBin .leq t17 far3 fun t39 =>
  ifV t39
  (K (.tuple #[]) h_1)
  (sh_flood_run_reach_k1 P t18 r0 v1 far3 arc2 K h_1))
  (sh_flood_run_reach_k1 P t18 r0 v1 far3 arc2 K h_1))

set_option maxRecDepth 100000 in
theorem lk_flood_run_reach (r0 v1 arc2 far3 : Value) {h : Heap} {K : Value → Heap → Prop} (H : sh_flood_run_reach Tryz.prog r0 v1 arc2 far3 h K) : CallsH Tryz.prog F_flood_run_reach [r0, v1, arc2, far3].toArray h K :=
  callsH_of (ann := (annG (Tryz.f52.body.getD .skip) 0 []).1) (c := Tryz.f52.body.getD .skip) Tryz.func52 (by kernel_rfl) (by kernel_rfl) (by kernel_rfl) (of_decide_eq_true (by kernel_rfl))
    (Eq.mpr (by kernel_rfl) H)

/-! milestone/trace.of$1 -/

def sh_trace_of_1_k2 (P : Program) (t9 : Value) (Z : Value → Heap → Prop) (h_5 : Heap) : Prop :=
  pBin .add t9 (.int .i64 1) fun t31 =>
  Z t31 h_5

def sh_trace_of_1_L1 (P : Program) (t8 t7 t2 t3 yield0 : Value) (K : Value → Heap → Prop) (t9 : Value) (h_1 : Heap) (Z : Value → Heap → Prop) : Prop :=
  pBin .lss t9 t8 fun t10 =>
  ifV t10
  (pIdx 4 t7 t9 fun t12 =>
  pLoadN 4 h_1 t12 fun t13 =>
  pBox T_api_Event (.agg #[(.int .i64 0), (.int .i64 0), (.int .i64 0), (.int .i64 0)]) h_1 fun e6 h_2 =>
  pStore 4 e6 t13 h_2 fun u h_3 =>
  pField 0 e6 fun t14 =>
  pLoad h_3 t14 fun t15 =>
  pLoad h_3 t2 fun t16 =>
  pBin .eql t15 t16 fun t17 =>
  ifV t17
  (pField 1 e6 fun t19 =>
  pLoad h_3 t19 fun t20 =>
  pLoad h_3 t3 fun t21 =>
  pBin .eql t20 t21 fun t22 =>
  ifV t22
  (pLoadN 4 h_3 e6 fun t27 =>
  callV P yield0 [t9, t27].toArray h_3 fun t28 h_4 =>
  pUn .not t28 fun t29 =>
  ifV t29
  (K (.tuple #[]) h_4)
  (sh_trace_of_1_k2 P t9 Z h_4))
  (sh_trace_of_1_k2 P t9 Z h_3))
  (sh_trace_of_1_k2 P t9 Z h_3))
  (K (.tuple #[]) h_1)

def sh_trace_of_1 (P : Program) (yield0 t1 t2 t3 : Value) (h : Heap) (K : Value → Heap → Prop) : Prop :=
  pLoad h t1 fun t7 =>
  pLen t7 fun t8 =>
  LoopH (σ := Vals [9]) (fun x hh ZZ => sh_trace_of_1_L1 P t8 t7 t2 t3 yield0 K x.1 hh (fun a0 hz => ZZ (a0, ()) hz)) ((.int .i64 0), ()) h

set_option maxRecDepth 100000 in
theorem lk_trace_of_1 (yield0 t1 t2 t3 : Value) {h : Heap} {K : Value → Heap → Prop} (H : sh_trace_of_1 Tryz.prog yield0 t1 t2 t3 h K) : CallsH Tryz.prog F_trace_of_1 [yield0, t1, t2, t3].toArray h K :=
  callsH_of (ann := (annG (Tryz.f53.body.getD .skip) 0 [(1, [9])]).1) (c := Tryz.f53.body.getD .skip) Tryz.func53 (by kernel_rfl) (by kernel_rfl) (by kernel_rfl) (of_decide_eq_true (by kernel_rfl))
    (Eq.mpr (by kernel_rfl) H)

/-! (*milestone/milestoneref07.Draft).Next -/

def sh_milestoneref07_Draft_Next_k1 (P : Program) (K : Value → Heap → Prop) (h_1 : Heap) : Prop :=
  K (.int .i64 0) h_1

def sh_milestoneref07_Draft_Next (P : Program) (d0 n1 : Value) (h : Heap) (K : Value → Heap → Prop) : Prop :=
  pNil d0 fun t6 =>
  pField 0 t6 fun t7 =>
  pLoad h t7 fun t8 =>
  pLen t8 fun t9 =>
  pBin .eql t9 (.int .i64 0) fun t10 =>
  ifV t10
  (sh_milestoneref07_Draft_Next_k1 P K h)
  (pBin .lss n1 (.int .i64 1) fun t13 =>
  ifV t13
  (sh_milestoneref07_Draft_Next_k1 P K h)
  (pNil d0 fun t16 =>
  pField 1 t16 fun t17 =>
  pLoad h t17 fun t18 =>
  pBin .add t18 (.int .i64 1) fun t19 =>
  pNil d0 fun t20 =>
  pField 1 t20 fun t21 =>
  pStore 1 t21 t19 h fun u h_2 =>
  pNil d0 fun t23 =>
  pField 0 t23 fun t24 =>
  pLoad h_2 t24 fun t25 =>
  pNil d0 fun t27 =>
  pField 1 t27 fun t28 =>
  pLoad h_2 t28 fun t29 =>
  pBin .sub t29 (.int .i64 1) fun t30 =>
  pNil d0 fun t32 =>
  pField 0 t32 fun t33 =>
  pLoad h_2 t33 fun t34 =>
  pLen t34 fun t35 =>
  pBin .rem t30 t35 fun t36 =>
  pIdx 1 t25 t36 fun t37 =>
  pLoad h_2 t37 fun t38 =>
  pNil d0 fun t40 =>
  pField 1 t40 fun t41 =>
  pLoad h_2 t41 fun t42 =>
  pBin .sub t42 (.int .i64 1) fun t43 =>
  pNil d0 fun t45 =>
  pField 0 t45 fun t46 =>
  pLoad h_2 t46 fun t47 =>
  pLen t47 fun t48 =>
  pBin .quo t43 t48 fun t49 =>
  pConv .u8 t49 fun t50 =>
  pBin .add t38 t50 fun t51 =>
  pConv .i64 t51 fun t52 =>
  pBin .rem t52 n1 fun t54 =>
  K t54 h_2))

set_option maxRecDepth 100000 in
theorem lk_milestoneref07_Draft_Next (d0 n1 : Value) {h : Heap} {K : Value → Heap → Prop} (H : sh_milestoneref07_Draft_Next Tryz.prog d0 n1 h K) : CallsH Tryz.prog F_milestoneref07_Draft_Next [d0, n1].toArray h K :=
  callsH_of (ann := (annG (Tryz.f54.body.getD .skip) 0 []).1) (c := Tryz.f54.body.getD .skip) Tryz.func54 (by kernel_rfl) (by kernel_rfl) (by kernel_rfl) (of_decide_eq_true (by kernel_rfl))
    (Eq.mpr (by kernel_rfl) H)

/-! (*milestone/milestoneref07.Draft).Weight -/

def sh_milestoneref07_Draft_Weight (P : Program) (d0 : Value) (h : Heap) (K : Value → Heap → Prop) : Prop :=
  callS P F_milestoneref07_Draft_Next [d0, (.int .i64 12)] h fun t5 h_1 =>
  pBin .lss t5 (.int .i64 3) fun t8 =>
  ifV t8
  (K (.int .i64 0) h_1)
  (pBin .lss t5 (.int .i64 10) fun t11 =>
  ifV t11
  (callS P F_milestoneref07_Draft_Next [d0, (.int .i64 9)] h_1 fun t13 h_2 =>
  pBin .add (.int .i64 1) t13 fun t14 =>
  K t14 h_2)
  (pBin .lss t5 (.int .i64 11) fun t17 =>
  ifV t17
  (callS P F_milestoneref07_Draft_Next [d0, (.int .i64 20)] h_1 fun t19 h_3 =>
  pBin .mul (.int .i64 100) t19 fun t20 =>
  K t20 h_3)
  (callS P F_milestoneref07_Draft_Next [d0, (.int .i64 2)] h_1 fun t22 h_4 =>
  pBin .sub (.int .i64 2147483647) t22 fun t23 =>
  K t23 h_4)))

set_option maxRecDepth 100000 in
theorem lk_milestoneref07_Draft_Weight (d0 : Value) {h : Heap} {K : Value → Heap → Prop} (H : sh_milestoneref07_Draft_Weight Tryz.prog d0 h K) : CallsH Tryz.prog F_milestoneref07_Draft_Weight [d0].toArray h K :=
  callsH_of (ann := (annG (Tryz.f55.body.getD .skip) 0 []).1) (c := Tryz.f55.body.getD .skip) Tryz.func55 (by kernel_rfl) (by kernel_rfl) (by kernel_rfl) (of_decide_eq_true (by kernel_rfl))
    (Eq.mpr (by kernel_rfl) H)

end Go.Proofs.YtgefabaobhendaaGreatDoor

namespace Go.Proofs.YtgefabaobhendaaGreatDoor
open Go Go.Mh
set_option maxHeartbeats 0
set_option linter.unusedVariables false

/-! milestone/graph.look -/

def sh_graph_look_k3 (P : Program) (p4 phase2 : Value) (h_11 : Heap) : Prop :=
  pField 2 p4 fun t32 =>
  pLoad h_11 t32 fun t33 =>
  pLoad h_11 phase2 fun t34 =>
  pField 0 p4 fun t35 =>
  pLoad h_11 t35 fun t36 =>
  pField 1 p4 fun t37 =>
  pLoad h_11 t37 fun t38 =>
  pBuild [(.int .i64 0), (.int .i64 0), (.int .i64 0), (.int .i64 0)] [(0, 1, t33), (1, 1, t34), (2, 1, t36), (3, 1, t38)] fun t39 =>
  pBox T_api_Fault t39 h_11 fun t40 h_12 =>
  pBuild [(.pointer none)] [(0, 1, t40)] fun t41 =>
  False

def sh_graph_look_B2 (P : Program) (h_6 : Heap) (phase2 : Value) (L : Loop) (t19 : Value) (h_7 : Heap) (R : Exit → Heap → Prop) : Prop :=
  pBox T_graph_place (.agg #[(.int .i64 0), (.int .i64 0), (.int .i64 0), (.int .i64 0), (.int .i64 0), (.int .i64 0)]) h_7 fun p4 h_8 =>
  pStore 6 p4 t19 h_8 fun u_1 h_9 =>
  beginR (h_6.size + 1) L h_9 fun h_10 =>
  pField 3 p4 fun t20 =>
  pLoad h_10 t20 fun t21 =>
  pField 4 p4 fun t22 =>
  pLoad h_10 t22 fun t23 =>
  pBin .lss t21 t23 fun t24 =>
  ifV t24
  (sh_graph_look_k3 P p4 phase2 h_10)
  (pField 3 p4 fun t26 =>
  pLoad h_10 t26 fun t27 =>
  pField 5 p4 fun t28 =>
  pLoad h_10 t28 fun t29 =>
  pBin .geq t27 t29 fun t30 =>
  ifV t30
  (sh_graph_look_k3 P p4 phase2 h_10)
  (R .normal h_10))

def sh_graph_look_L1 (P : Program) (t11 t10 : Value) (K : Value → Heap → Prop) (m : List Nat) (t12 : Value) (h_3 : Heap) (Z : List Nat → Value → Heap → Prop) : Prop :=
  pBin .lss t12 t11 fun t13 =>
  ifV t13
  (pIdx 1 t10 t12 fun t15 =>
  pLoad h_3 t15 fun t16 =>
  pBox T_int (.int .i64 0) h_3 fun phase2 h_4 =>
  pStore 1 phase2 t12 h_4 fun u h_5 =>
  callV P t16 [].toArray h_5 fun t18 h_6 =>
  rangeH P t18 [19] (h_6.size + 1) (h_6.push (.deferred (some []))) (fun L x hh R => sh_graph_look_B2 P h_6 phase2 L x.1 hh R)
  (fun h_13 => pBin .add t12 (.int .i64 1) fun t43 =>
  Z (h_6.size :: m) t43 h_13)
  (fun h_14 => takeM (h_6.size :: m) h_14 fun h_15 =>
  K (.tuple #[]) h_15)
  [])
  (takeM m h_3 fun h_16 =>
  K (.tuple #[]) h_16)

def sh_graph_look (P : Program) (r0 : Value) (h : Heap) (K : Value → Heap → Prop) : Prop :=
  pBox T_api_Raw r0 h fun r1 h_1 =>
  pBuildSlice T_func_iter_Seq_graph_place (zerosL [.nilFunc] 5) [(0, 1, (.func (.func F_graph_look_1) #[] #[r1])), (1, 1, (.func (.func F_graph_look_2) #[] #[r1])), (2, 1, (.func (.func F_graph_look_3) #[] #[r1])), (3, 1, (.func (.func F_graph_look_4) #[] #[r1])), (4, 1, (.func (.func F_graph_look_5) #[] #[r1]))] 5 h_1 fun t10 h_2 =>
  pLen t10 fun t11 =>
  LoopH (σ := List Nat × Vals [12]) (fun x hh ZZ => sh_graph_look_L1 P t11 t10 K x.1 x.2.1 hh (fun mz a0 hz => ZZ (mz, (a0, ())) hz)) ([], ((.int .i64 0), ())) h_2

set_option maxRecDepth 100000 in
theorem lk_graph_look (r0 : Value) {h : Heap} {K : Value → Heap → Prop} (H : sh_graph_look Tryz.prog r0 h K) : CallsH Tryz.prog F_graph_look [r0].toArray h K :=
  callsH_of (ann := (annG (Tryz.f57.body.getD .skip) 0 [(2, [12])]).1) (c := Tryz.f57.body.getD .skip) Tryz.func57 (by kernel_rfl) (by kernel_rfl) (by kernel_rfl) (of_decide_eq_true (by kernel_rfl))
    (Eq.mpr (by kernel_rfl) H)

/-! milestone/net.of$1 -/

def sh_net_of_1_C5 (P : Program) (t64 : Value) (Z_2 : Value → Heap → Prop) (h_31 : Heap) : Prop :=
  pBin .add t64 (.int .i64 1) fun t83 =>
  Z_2 t83 h_31

def sh_net_of_1_L4 (P : Program) (t63 t62 end0 rows8 : Value) (K : Value → Heap → Prop) (t64 : Value) (h_14 : Heap) (Z_2 : Value → Heap → Prop) : Prop :=
  pBin .lss t64 t63 fun t65 =>
  ifV t65
  (cutP (σ := Vals []) (fun J_1 =>
  pIdx 3 t62 t64 fun t67 =>
  pLoadN 3 h_14 t67 fun t68 =>
  pBox T_api_Arc (.agg #[(.int .i64 0), (.int .i64 0), (.int .i64 0)]) h_14 fun a13 h_15 =>
  pStore 3 a13 t68 h_15 fun u_3 h_16 =>
  pLoadN 3 h_16 a13 fun t71 =>
  pLoadN 3 h_16 a13 fun t75 =>
  (callV P end0 [t71].toArray h_16 fun t72 h_17 =>
  (pLoadN 3 h_17 a13 fun t75_1 =>
  t75_1 = t75) ∧
  ((callV P end0 [t75].toArray h_17 fun t76 h_18 =>
  pIdx 1 rows8 t76 fun t77 =>
  pLoad h_18 t77 fun t78 =>
  pBuildSlice T_int (zerosL [(.int .i64 0)] 1) [(0, 1, t64)] 1 h_18 fun t80 h_19 =>
  pAppend T_int 1 8 [(.int .i64 0)] t78 t80 h_19 fun t81 h_20 =>
  pIdx 1 rows8 t72 fun t82 =>
  pStore 1 t82 t81 h_20 fun u_4 h_21 =>
  J_1 () h_21) ∧
  (pBuildSlice T_int (zerosL [(.int .i64 0)] 1) [(0, 1, t64)] 1 h_17 fun t80_1 h_22 =>
  callV P end0 [t75].toArray h_22 fun t76_1 h_23 =>
  pIdx 1 rows8 t76_1 fun t77_1 =>
  pLoad h_23 t77_1 fun t78_1 =>
  pAppend T_int 1 8 [(.int .i64 0)] t78_1 t80_1 h_23 fun t81_1 h_24 =>
  pIdx 1 rows8 t72 fun t82_1 =>
  pStore 1 t82_1 t81_1 h_24 fun u_5 h_25 =>
  J_1 () h_25))) ∧
  (pBuildSlice T_int (zerosL [(.int .i64 0)] 1) [(0, 1, t64)] 1 h_16 fun t80_2 h_26 =>
  callV P end0 [t71].toArray h_26 fun t72_1 h_27 =>
  (pLoadN 3 h_27 a13 fun t75_2 =>
  t75_2 = t75) ∧
  (callV P end0 [t75].toArray h_27 fun t76_2 h_28 =>
  pIdx 1 rows8 t76_2 fun t77_2 =>
  pLoad h_28 t77_2 fun t78_2 =>
  pAppend T_int 1 8 [(.int .i64 0)] t78_2 t80_2 h_28 fun t81_2 h_29 =>
  pIdx 1 rows8 t72_1 fun t82_2 =>
  pStore 1 t82_2 t81_2 h_29 fun u_6 h_30 =>
  J_1 () h_30)))
  (fun x hh => sh_net_of_1_C5 P t64 Z_2 hh))
  (K rows8 h_14)

def sh_net_of_1_L3 (P : Program) (t41 t16 all7 rows8 t1 end0 : Value) (K : Value → Heap → Prop) (at9 t42 : Value) (h_12 : Heap) (Z_1 : Value → Value → Heap → Prop) : Prop :=
  pBin .lss t42 t41 fun t43 =>
  ifV t43
  (pIdx 1 t16 t42 fun t45 =>
  pLoad h_12 t45 fun t46 =>
  pBin .add at9 t46 fun t54 =>
  pSlice 1 all7 (some at9) (some at9) (some t54) fun t55 =>
  pIdx 1 rows8 t42 fun t56 =>
  pStore 1 t56 t55 h_12 fun u_2 h_13 =>
  pBin .add at9 t46 fun t59 =>
  pBin .add t42 (.int .i64 1) fun t60 =>
  Z_1 t59 t60 h_13)
  (pField 3 t1 fun t61 =>
  pLoad h_12 t61 fun t62 =>
  pLen t62 fun t63 =>
  LoopH (σ := Vals [64]) (fun x hh ZZ => sh_net_of_1_L4 P t63 t62 end0 rows8 K x.1 hh (fun a0 hz => ZZ (a0, ()) hz)) ((.int .i64 0), ()) h_12)

def sh_net_of_1_C2 (P : Program) (t16 t1 end0 : Value) (K : Value → Heap → Prop) (all7 rows8 : Value) (h_11 : Heap) : Prop :=
  pLen t16 fun t41 =>
  LoopH (σ := Vals [9, 42]) (fun x hh ZZ => sh_net_of_1_L3 P t41 t16 all7 rows8 t1 end0 K x.1 x.2.1 hh (fun a0 a1 hz => ZZ (a0, (a1, ())) hz)) ((.int .i64 0), ((.int .i64 0), ())) h_11

def sh_net_of_1_L1 (P : Program) (t19 t18 end0 t16 t1 : Value) (K : Value → Heap → Prop) (t20 : Value) (h_2 : Heap) (Z : Value → Heap → Prop) : Prop :=
  pBin .lss t20 t19 fun t21 =>
  ifV t21
  (pIdx 3 t18 t20 fun t22 =>
  pLoadN 3 h_2 t22 fun t23 =>
  pBox T_api_Arc (.agg #[(.int .i64 0), (.int .i64 0), (.int .i64 0)]) h_2 fun a6 h_3 =>
  pStore 3 a6 t23 h_3 fun u h_4 =>
  pLoadN 3 h_4 a6 fun t26 =>
  callV P end0 [t26].toArray h_4 fun t27 h_5 =>
  pIdx 1 t16 t27 fun t28 =>
  pLoad h_5 t28 fun t29 =>
  pBin .add t29 (.int .i64 1) fun t30 =>
  pIdx 1 t16 t27 fun t31 =>
  pStore 1 t31 t30 h_5 fun u_1 h_6 =>
  pBin .add t20 (.int .i64 1) fun t32 =>
  Z t32 h_6)
  (cutP (σ := Vals [7, 8]) (fun J =>
  pField 3 t1 fun t33 =>
  pLoad h_2 t33 fun t34 =>
  pLen t34 fun t35 =>
  pField 0 t1 fun t37 =>
  pLoad h_2 t37 fun t38 =>
  (pMakeSlice T_int 8 [(.int .i64 0)] t35 t35 h_2 fun t36 h_7 =>
  pMakeSlice T_sl_int 24 [(.slice none 0 0)] t38 t38 h_7 fun t39 h_8 =>
  J (t36, (t39, ())) h_8) ∧
  (pMakeSlice T_sl_int 24 [(.slice none 0 0)] t38 t38 h_2 fun t39_1 h_9 =>
  pMakeSlice T_int 8 [(.int .i64 0)] t35 t35 h_9 fun t36_1 h_10 =>
  J (t36_1, (t39_1, ())) h_10))
  (fun x hh => sh_net_of_1_C2 P t16 t1 end0 K x.1 x.2.1 hh))

def sh_net_of_1 (P : Program) (end0 t1 : Value) (h : Heap) (K : Value → Heap → Prop) : Prop :=
  pField 0 t1 fun t14 =>
  pLoad h t14 fun t15 =>
  pMakeSlice T_int 8 [(.int .i64 0)] t15 t15 h fun t16 h_1 =>
  pField 3 t1 fun t17 =>
  pLoad h_1 t17 fun t18 =>
  pLen t18 fun t19 =>
  LoopH (σ := Vals [20]) (fun x hh ZZ => sh_net_of_1_L1 P t19 t18 end0 t16 t1 K x.1 hh (fun a0 hz => ZZ (a0, ()) hz)) ((.int .i64 0), ()) h_1

set_option maxRecDepth 100000 in
theorem lk_net_of_1 (end0 t1 : Value) {h : Heap} {K : Value → Heap → Prop} (H : sh_net_of_1 Tryz.prog end0 t1 h K) : CallsH Tryz.prog F_net_of_1 [end0, t1].toArray h K :=
  callsH_of (ann := (annG (Tryz.f59.body.getD .skip) 0 [(4, [20]), (9, [7, 8]), (13, [9, 42]), (21, [64]), (24, [])]).1) (c := Tryz.f59.body.getD .skip) Tryz.func59 (by kernel_rfl) (by kernel_rfl) (by kernel_rfl) (of_decide_eq_true (by kernel_rfl))
    (Eq.mpr (by kernel_rfl) H)

/-! milestone/net.of$2 -/

def sh_net_of_2 (P : Program) (a0 : Value) (h : Heap) (K : Value → Heap → Prop) : Prop :=
  pBox T_api_Arc a0 h fun a1 h_1 =>
  pField 0 a1 fun t3 =>
  pLoad h_1 t3 fun t4 =>
  K t4 h_1

set_option maxRecDepth 100000 in
theorem lk_net_of_2 (a0 : Value) {h : Heap} {K : Value → Heap → Prop} (H : sh_net_of_2 Tryz.prog a0 h K) : CallsH Tryz.prog F_net_of_2 [a0].toArray h K :=
  callsH_of (ann := (annG (Tryz.f60.body.getD .skip) 0 []).1) (c := Tryz.f60.body.getD .skip) Tryz.func60 (by kernel_rfl) (by kernel_rfl) (by kernel_rfl) (of_decide_eq_true (by kernel_rfl))
    (Eq.mpr (by kernel_rfl) H)

/-! milestone/net.of$3 -/

def sh_net_of_3 (P : Program) (a0 : Value) (h : Heap) (K : Value → Heap → Prop) : Prop :=
  pBox T_api_Arc a0 h fun a1 h_1 =>
  pField 1 a1 fun t3 =>
  pLoad h_1 t3 fun t4 =>
  K t4 h_1

set_option maxRecDepth 100000 in
theorem lk_net_of_3 (a0 : Value) {h : Heap} {K : Value → Heap → Prop} (H : sh_net_of_3 Tryz.prog a0 h K) : CallsH Tryz.prog F_net_of_3 [a0].toArray h K :=
  callsH_of (ann := (annG (Tryz.f61.body.getD .skip) 0 []).1) (c := Tryz.f61.body.getD .skip) Tryz.func61 (by kernel_rfl) (by kernel_rfl) (by kernel_rfl) (of_decide_eq_true (by kernel_rfl))
    (Eq.mpr (by kernel_rfl) H)

/-! slices.Clone[[]int64,int64] -/

def sh_slices_Clone_sl_int64_int64 (P : Program) (s0 : Value) (h : Heap) (K : Value → Heap → Prop) : Prop :=
  pEq false .slice s0 (.slice none 0 0) fun t4 =>
  ifV t4
  (K (.slice none 0 0) h)
  (pBuildSlice T_int64 (zerosL [(.int .i64 0)] 0) [] 0 h fun t5 h_1 =>
  pAppend T_int64 1 8 [(.int .i64 0)] t5 s0 h_1 fun t7 h_2 =>
  K t7 h_2)

set_option maxRecDepth 100000 in
theorem lk_slices_Clone_sl_int64_int64 (s0 : Value) {h : Heap} {K : Value → Heap → Prop} (H : sh_slices_Clone_sl_int64_int64 Tryz.prog s0 h K) : CallsH Tryz.prog F_slices_Clone_sl_int64_int64 [s0].toArray h K :=
  callsH_of (ann := (annG (Tryz.f62.body.getD .skip) 0 []).1) (c := Tryz.f62.body.getD .skip) Tryz.func62 (by kernel_rfl) (by kernel_rfl) (by kernel_rfl) (of_decide_eq_true (by kernel_rfl))
    (Eq.mpr (by kernel_rfl) H)

/-! slices.Clone[[]milestone/api.Arc,milestone/api.Arc] -/

def sh_slices_Clone_sl_api_Arc_api_Arc (P : Program) (s0 : Value) (h : Heap) (K : Value → Heap → Prop) : Prop :=
  pEq false .slice s0 (.slice none 0 0) fun t4 =>
  ifV t4
  (K (.slice none 0 0) h)
  (pBuildSlice T_api_Arc (zerosL [(.int .i64 0), (.int .i64 0), (.int .i64 0)] 0) [] 0 h fun t5 h_1 =>
  pAppend T_api_Arc 3 24 [(.int .i64 0), (.int .i64 0), (.int .i64 0)] t5 s0 h_1 fun t7 h_2 =>
  K t7 h_2)

set_option maxRecDepth 100000 in
theorem lk_slices_Clone_sl_api_Arc_api_Arc (s0 : Value) {h : Heap} {K : Value → Heap → Prop} (H : sh_slices_Clone_sl_api_Arc_api_Arc Tryz.prog s0 h K) : CallsH Tryz.prog F_slices_Clone_sl_api_Arc_api_Arc [s0].toArray h K :=
  callsH_of (ann := (annG (Tryz.f63.body.getD .skip) 0 []).1) (c := Tryz.f63.body.getD .skip) Tryz.func63 (by kernel_rfl) (by kernel_rfl) (by kernel_rfl) (of_decide_eq_true (by kernel_rfl))
    (Eq.mpr (by kernel_rfl) H)

/-! milestone/net.one[milestone/api.Arc] -/

def sh_net_one_api_Arc_k1 (P : Program) (x4 : Value) (K : Value → Heap → Prop) (h_2 : Heap) : Prop :=
  pLoadN 3 h_2 x4 fun t14 =>
  pStore 3 x4 t14 h_2 fun u h_3 =>
  pLoadN 3 h_3 x4 fun res =>
  K (.tuple #[res, (.bool false)]) h_3

def sh_net_one_api_Arc (P : Program) (l0 i1 : Value) (h : Heap) (K : Value → Heap → Prop) : Prop :=
  pBox T_api_Arc (.agg #[(.int .i64 0), (.int .i64 0), (.int .i64 0)]) h fun x4 h_1 =>
  pBin .lss i1 (.int .i64 0) fun t7 =>
  ifV t7
  (sh_net_one_api_Arc_k1 P x4 K h_1)
  (pLen l0 fun t11 =>
  pBin .geq i1 t11 fun t12 =>
  ifV t12
  (sh_net_one_api_Arc_k1 P x4 K h_1)
  (pIdx 3 l0 i1 fun t17 =>
  pLoadN 3 h_1 t17 fun t18 =>
  pStore 3 x4 t18 h_1 fun u_1 h_4 =>
  pLoadN 3 h_4 x4 fun res_1 =>
  K (.tuple #[res_1, (.bool true)]) h_4))

set_option maxRecDepth 100000 in
theorem lk_net_one_api_Arc (l0 i1 : Value) {h : Heap} {K : Value → Heap → Prop} (H : sh_net_one_api_Arc Tryz.prog l0 i1 h K) : CallsH Tryz.prog F_net_one_api_Arc [l0, i1].toArray h K :=
  callsH_of (ann := (annG (Tryz.f64.body.getD .skip) 0 []).1) (c := Tryz.f64.body.getD .skip) Tryz.func64 (by kernel_rfl) (by kernel_rfl) (by kernel_rfl) (of_decide_eq_true (by kernel_rfl))
    (Eq.mpr (by kernel_rfl) H)

/-! math/bits.Mul -/

def sh_math_bits_Mul (P : Program) (x0 y1 : Value) (h : Heap) (K : Value → Heap → Prop) : Prop :=
  callS P F_math_bits_Mul64 [x0, y1] h fun t25 h_1 =>
  pExt t25 0 fun t26 =>
  pExt t25 1 fun t27 =>
  K (.tuple #[t26, t27]) h_1

set_option maxRecDepth 100000 in
theorem lk_math_bits_Mul (x0 y1 : Value) {h : Heap} {K : Value → Heap → Prop} (H : sh_math_bits_Mul Tryz.prog x0 y1 h K) : CallsH Tryz.prog F_math_bits_Mul [x0, y1].toArray h K :=
  callsH_of (ann := (annG (Tryz.f65.body.getD .skip) 0 []).1) (c := Tryz.f65.body.getD .skip) Tryz.func65 (by kernel_rfl) (by kernel_rfl) (by kernel_rfl) (of_decide_eq_true (by kernel_rfl))
    (Eq.mpr (by kernel_rfl) H)

/-! (*milestone/heap.row).up -/

def sh_heap_row_up_L1 (P : Program) (r0 : Value) (K : Value → Heap → Prop) (i1_1 : Value) (h_1 : Heap) (Z : Value → Heap → Prop) : Prop :=
  pBin .gtr i1_1 (.int .i64 0) fun t5 =>
  ifV t5
  (pBin .sub i1_1 (.int .i64 1) fun t10 =>
  pBin .quo t10 (.int .i64 4) fun t11 =>
  callS P F_heap_row_ahead [r0, i1_1, t11] h_1 fun t12 h_2 =>
  ifV t12
  (pBin .sub i1_1 (.int .i64 1) fun t17 =>
  pBin .quo t17 (.int .i64 4) fun t18 =>
  callS P F_heap_row_swap [r0, i1_1, t18] h_2 fun t19 h_3 =>
  pBin .sub i1_1 (.int .i64 1) fun t21 =>
  pBin .quo t21 (.int .i64 4) fun t22 =>
  Z t22 h_3)
  (K (.tuple #[]) h_2))
  (K (.tuple #[]) h_1)

def sh_heap_row_up (P : Program) (r0 i1 : Value) (h : Heap) (K : Value → Heap → Prop) : Prop :=
  LoopH (σ := Vals [1]) (fun x hh ZZ => sh_heap_row_up_L1 P r0 K x.1 hh (fun a0 hz => ZZ (a0, ()) hz)) (i1, ()) h

set_option maxRecDepth 100000 in
theorem lk_heap_row_up (r0 i1 : Value) {h : Heap} {K : Value → Heap → Prop} (H : sh_heap_row_up Tryz.prog r0 i1 h K) : CallsH Tryz.prog F_heap_row_up [r0, i1].toArray h K :=
  callsH_of (ann := (annG (Tryz.f66.body.getD .skip) 0 [(0, [1])]).1) (c := Tryz.f66.body.getD .skip) Tryz.func66 (by kernel_rfl) (by kernel_rfl) (by kernel_rfl) (of_decide_eq_true (by kernel_rfl))
    (Eq.mpr (by kernel_rfl) H)

/-! (*milestone/heap.Heap).Len -/

def sh_heap_Heap_Len (P : Program) (h0 : Value) (h : Heap) (K : Value → Heap → Prop) : Prop :=
  pEq false .ptr h0 (.pointer none) fun t4 =>
  ifV t4
  (K (.int .i64 0) h)
  (pNil h0 fun t6 =>
  pField 0 t6 fun t7 =>
  pField 0 t7 fun t8 =>
  pLoad h t8 fun t9 =>
  pLen t9 fun t10 =>
  K t10 h)

set_option maxRecDepth 100000 in
theorem lk_heap_Heap_Len (h0 : Value) {h : Heap} {K : Value → Heap → Prop} (H : sh_heap_Heap_Len Tryz.prog h0 h K) : CallsH Tryz.prog F_heap_Heap_Len [h0].toArray h K :=
  callsH_of (ann := (annG (Tryz.f67.body.getD .skip) 0 []).1) (c := Tryz.f67.body.getD .skip) Tryz.func67 (by kernel_rfl) (by kernel_rfl) (by kernel_rfl) (of_decide_eq_true (by kernel_rfl))
    (Eq.mpr (by kernel_rfl) H)

/-! (*milestone/heap.row).swap -/

def sh_heap_row_swap (P : Program) (r0 i1 k2 : Value) (h : Heap) (K : Value → Heap → Prop) : Prop :=
  pNil r0 fun t7 =>
  pField 0 t7 fun t8 =>
  pLoad h t8 fun t9 =>
  pNil r0 fun t12 =>
  pField 0 t12 fun t13 =>
  pLoad h t13 fun t14 =>
  pNil r0 fun t17 =>
  pField 0 t17 fun t18 =>
  pLoad h t18 fun t19 =>
  pIdx 2 t19 k2 fun t21 =>
  pLoadN 2 h t21 fun t22 =>
  pNil r0 fun t24 =>
  pField 0 t24 fun t25 =>
  pLoad h t25 fun t26 =>
  pIdx 2 t26 i1 fun t28 =>
  pLoadN 2 h t28 fun t29 =>
  pIdx 2 t9 i1 fun t30 =>
  pStore 2 t30 t22 h fun u h_1 =>
  pIdx 2 t14 k2 fun t31 =>
  pStore 2 t31 t29 h_1 fun u_1 h_2 =>
  pNil r0 fun t33 =>
  pField 1 t33 fun t34 =>
  pLoad h_2 t34 fun t35 =>
  pNil r0 fun t37 =>
  pField 0 t37 fun t38 =>
  pLoad h_2 t38 fun t39 =>
  pIdx 2 t39 i1 fun t41 =>
  pField 0 t41 fun t42 =>
  pLoad h_2 t42 fun t43 =>
  pNil r0 fun t45 =>
  pField 1 t45 fun t46 =>
  pLoad h_2 t46 fun t47 =>
  pNil r0 fun t49 =>
  pField 0 t49 fun t50 =>
  pLoad h_2 t50 fun t51 =>
  pIdx 2 t51 k2 fun t53 =>
  pField 0 t53 fun t54 =>
  pLoad h_2 t54 fun t55 =>
  pMapEntry (.int .i64) (.int .i64 0) t35 t43 h_2 fun t58 h_3 =>
  pExt t58 1 fun t59 =>
  pEntryStore t35 t59 i1 h_3 fun u_2 h_4 =>
  pMapEntry (.int .i64) (.int .i64 0) t47 t55 h_4 fun t60 h_5 =>
  pExt t60 1 fun t61 =>
  pEntryStore t47 t61 k2 h_5 fun u_3 h_6 =>
  K (.tuple #[]) h_6

set_option maxRecDepth 100000 in
theorem lk_heap_row_swap (r0 i1 k2 : Value) {h : Heap} {K : Value → Heap → Prop} (H : sh_heap_row_swap Tryz.prog r0 i1 k2 h K) : CallsH Tryz.prog F_heap_row_swap [r0, i1, k2].toArray h K :=
  callsH_of (ann := (annG (Tryz.f68.body.getD .skip) 0 []).1) (c := Tryz.f68.body.getD .skip) Tryz.func68 (by kernel_rfl) (by kernel_rfl) (by kernel_rfl) (of_decide_eq_true (by kernel_rfl))
    (Eq.mpr (by kernel_rfl) H)

/-! (*milestone/heap.row).down -/

def sh_heap_row_down_B2 (P : Program) (h_6 : Heap) (first4 best5 : Value) (L : Loop) (t13 : Value) (h_7 : Heap) (R : Exit → Heap → Prop) : Prop :=
  beginR (h_6.size + 1) L h_7 fun h_8 =>
  pLoad h_8 first4 fun t14 =>
  pLoad h_8 best5 fun t16 =>
  callV P t14 [t13, t16].toArray h_8 fun t17 h_9 =>
  ifV t17
  (pStore 1 best5 t13 h_9 fun u_2 h_10 =>
  R .normal h_10)
  (R .normal h_9)

def sh_heap_row_down_L1 (P : Program) (r0 first4 : Value) (K : Value → Heap → Prop) (m : List Nat) (i1_1 : Value) (h_3 : Heap) (Z : List Nat → Value → Heap → Prop) : Prop :=
  pBox T_int (.int .i64 0) h_3 fun best5 h_4 =>
  pStore 1 best5 i1_1 h_4 fun u_1 h_5 =>
  callS P F_heap_row_below [r0, i1_1] h_5 fun t12 h_6 =>
  rangeH P t12 [13] (h_6.size + 1) (h_6.push (.deferred (some []))) (fun L x hh R => sh_heap_row_down_B2 P h_6 first4 best5 L x.1 hh R)
  (fun h_11 => pLoad h_11 best5 fun t19 =>
  pBin .eql t19 i1_1 fun t21 =>
  ifV t21
  (takeM (h_6.size :: m) h_11 fun h_12 =>
  K (.tuple #[]) h_12)
  (pLoad h_11 best5 fun t24 =>
  callS P F_heap_row_swap [r0, i1_1, t24] h_11 fun t25 h_13 =>
  pLoad h_13 best5 fun t26 =>
  Z (h_6.size :: m) t26 h_13))
  (fun h_14 => takeM (h_6.size :: m) h_14 fun h_15 =>
  K (.tuple #[]) h_15)
  []

def sh_heap_row_down (P : Program) (r0 i1 : Value) (h : Heap) (K : Value → Heap → Prop) : Prop :=
  pBox T_func_int_int_bool .nilFunc h fun first4 h_1 =>
  pStore 1 first4 (.func (.func F_heap_row_ahead) #[r0] #[]) h_1 fun u h_2 =>
  LoopH (σ := List Nat × Vals [1]) (fun x hh ZZ => sh_heap_row_down_L1 P r0 first4 K x.1 x.2.1 hh (fun mz a0 hz => ZZ (mz, (a0, ())) hz)) ([], (i1, ())) h_2

set_option maxRecDepth 100000 in
theorem lk_heap_row_down (r0 i1 : Value) {h : Heap} {K : Value → Heap → Prop} (H : sh_heap_row_down Tryz.prog r0 i1 h K) : CallsH Tryz.prog F_heap_row_down [r0, i1].toArray h K :=
  callsH_of (ann := (annG (Tryz.f69.body.getD .skip) 0 [(1, [1])]).1) (c := Tryz.f69.body.getD .skip) Tryz.func69 (by kernel_rfl) (by kernel_rfl) (by kernel_rfl) (of_decide_eq_true (by kernel_rfl))
    (Eq.mpr (by kernel_rfl) H)

/-! milestone/flood.arcs$1 -/

def sh_flood_arcs_1_L1 (P : Program) (t10 t9 t2 t3 yield0 : Value) (K : Value → Heap → Prop) (t11 : Value) (h_1 : Heap) (Z : Value → Heap → Prop) : Prop :=
  pBin .lss t11 t10 fun t12 =>
  ifV t12
  (pIdx 1 t9 t11 fun t13 =>
  pLoad h_1 t13 fun t14 =>
  pLoad h_1 t2 fun t16 =>
  callS P F_net_Net_Arc [t16, t14] h_1 fun t18 h_2 =>
  pExt t18 0 fun t19 =>
  pExt t18 1 fun t20 =>
  pBox T_api_Arc (.agg #[(.int .i64 0), (.int .i64 0), (.int .i64 0)]) h_2 fun a7 h_3 =>
  pStore 3 a7 t19 h_3 fun u h_4 =>
  pLoad h_4 t3 fun t23 =>
  pLoadN 3 h_4 a7 fun t24 =>
  pField 2 a7 fun t26 =>
  pLoad h_4 t26 fun t27 =>
  callV P t23 [t24].toArray h_4 fun t25 h_5 =>
  (pLoad h_5 t26 fun t27_1 =>
  t27_1 = t27) ∧
  (pBuild [(.int .i64 0), (.int .i64 0), (.int .i64 0)] [(1, 1, t25), (2, 1, t27)] fun t28 =>
  callV P yield0 [t14, t28].toArray h_5 fun t29 h_6 =>
  pUn .not t29 fun t30 =>
  ifV t30
  (K (.tuple #[]) h_6)
  (pBin .add t11 (.int .i64 1) fun t31 =>
  Z t31 h_6)))
  (K (.tuple #[]) h_1)

def sh_flood_arcs_1 (P : Program) (yield0 t1 t2 t3 : Value) (h : Heap) (K : Value → Heap → Prop) : Prop :=
  pLoad h t1 fun t9 =>
  pLen t9 fun t10 =>
  LoopH (σ := Vals [11]) (fun x hh ZZ => sh_flood_arcs_1_L1 P t10 t9 t2 t3 yield0 K x.1 hh (fun a0 hz => ZZ (a0, ()) hz)) ((.int .i64 0), ()) h

set_option maxRecDepth 100000 in
theorem lk_flood_arcs_1 (yield0 t1 t2 t3 : Value) {h : Heap} {K : Value → Heap → Prop} (H : sh_flood_arcs_1 Tryz.prog yield0 t1 t2 t3 h K) : CallsH Tryz.prog F_flood_arcs_1 [yield0, t1, t2, t3].toArray h K :=
  callsH_of (ann := (annG (Tryz.f70.body.getD .skip) 0 [(1, [11])]).1) (c := Tryz.f70.body.getD .skip) Tryz.func70 (by kernel_rfl) (by kernel_rfl) (by kernel_rfl) (of_decide_eq_true (by kernel_rfl))
    (Eq.mpr (by kernel_rfl) H)

/-! (*milestone/heap.Heap).Key -/

def sh_heap_Heap_Key (P : Program) (h0 id1 : Value) (h : Heap) (K : Value → Heap → Prop) : Prop :=
  callS P F_heap_Heap_Len [h0] h fun t9 h_1 =>
  pBin .eql t9 (.int .i64 0) fun t10 =>
  ifV t10
  (K (.tuple #[(.int .i64 0), (.bool false)]) h_1)
  (pNil h0 fun t13 =>
  pField 0 t13 fun t14 =>
  pField 1 t14 fun t15 =>
  pLoad h_1 t15 fun t16 =>
  pLook (.int .i64) (.int .i64 0) true h_1 t16 id1 fun t18 =>
  pExt t18 0 fun t19 =>
  pExt t18 1 fun t20 =>
  pUn .not t20 fun t22 =>
  ifV t22
  (K (.tuple #[(.int .i64 0), (.bool false)]) h_1)
  (pNil h0 fun t24 =>
  pField 0 t24 fun t25 =>
  pField 0 t25 fun t26 =>
  pLoad h_1 t26 fun t27 =>
  pIdx 2 t27 t19 fun t29 =>
  pField 1 t29 fun t30 =>
  pLoad h_1 t30 fun t31 =>
  K (.tuple #[t31, (.bool true)]) h_1))

set_option maxRecDepth 100000 in
theorem lk_heap_Heap_Key (h0 id1 : Value) {h : Heap} {K : Value → Heap → Prop} (H : sh_heap_Heap_Key Tryz.prog h0 id1 h K) : CallsH Tryz.prog F_heap_Heap_Key [h0, id1].toArray h K :=
  callsH_of (ann := (annG (Tryz.f71.body.getD .skip) 0 []).1) (c := Tryz.f71.body.getD .skip) Tryz.func71 (by kernel_rfl) (by kernel_rfl) (by kernel_rfl) (of_decide_eq_true (by kernel_rfl))
    (Eq.mpr (by kernel_rfl) H)

/-! (*milestone/heap.Heap).Lower -/

def sh_heap_Heap_Lower_k1 (P : Program) (K : Value → Heap → Prop) (h_1 : Heap) : Prop :=
  K (.int .i64 2) h_1

def sh_heap_Heap_Lower (P : Program) (h0 id1 key2 : Value) (h : Heap) (K : Value → Heap → Prop) : Prop :=
  pEq false .ptr h0 (.pointer none) fun t10 =>
  ifV t10
  (K (.int .i64 1) h)
  (pNil h0 fun t13 =>
  pField 0 t13 fun t14 =>
  pField 1 t14 fun t15 =>
  pLoad h t15 fun t16 =>
  pLook (.int .i64) (.int .i64 0) true h t16 id1 fun t18 =>
  pExt t18 0 fun t19 =>
  pExt t18 1 fun t20 =>
  pBin .lss id1 (.int .i64 0) fun t23 =>
  ifV t23
  (sh_heap_Heap_Lower_k1 P K h)
  (pNil h0 fun t27 =>
  pField 2 t27 fun t28 =>
  pLoad h t28 fun t29 =>
  pBin .geq id1 t29 fun t30 =>
  ifV t30
  (sh_heap_Heap_Lower_k1 P K h)
  (pUn .not t20 fun t34 =>
  ifV t34
  (K (.int .i64 20) h)
  (pNil h0 fun t37 =>
  pField 0 t37 fun t38 =>
  pField 0 t38 fun t39 =>
  pLoad h t39 fun t40 =>
  pIdx 2 t40 t19 fun t42 =>
  pField 1 t42 fun t43 =>
  pLoad h t43 fun t44 =>
  pBin .lss t44 key2 fun t46 =>
  ifV t46
  (K (.int .i64 2) h)
  (pNil h0 fun t48 =>
  pField 0 t48 fun t49 =>
  pField 0 t49 fun t50 =>
  pLoad h t50 fun t51 =>
  pIdx 2 t51 t19 fun t54 =>
  pField 1 t54 fun t55 =>
  pStore 1 t55 key2 h fun u h_2 =>
  pNil h0 fun t57 =>
  pField 0 t57 fun t58 =>
  callS P F_heap_row_up [t58, t19] h_2 fun t60 h_3 =>
  K (.int .i64 0) h_3)))))

set_option maxRecDepth 100000 in
theorem lk_heap_Heap_Lower (h0 id1 key2 : Value) {h : Heap} {K : Value → Heap → Prop} (H : sh_heap_Heap_Lower Tryz.prog h0 id1 key2 h K) : CallsH Tryz.prog F_heap_Heap_Lower [h0, id1, key2].toArray h K :=
  callsH_of (ann := (annG (Tryz.f72.body.getD .skip) 0 []).1) (c := Tryz.f72.body.getD .skip) Tryz.func72 (by kernel_rfl) (by kernel_rfl) (by kernel_rfl) (of_decide_eq_true (by kernel_rfl))
    (Eq.mpr (by kernel_rfl) H)

/-! milestone/graph.look$1 -/

def sh_graph_look_1 (P : Program) (t0 : Value) (h : Heap) (K : Value → Heap → Prop) : Prop :=
  pField 0 t0 fun t2 =>
  pLoad h t2 fun t3 =>
  callS P F_graph_one [(.int .i64 5), t3, (.int .i64 1), (.int .i64 16777217)] h fun t4 h_1 =>
  K t4 h_1

set_option maxRecDepth 100000 in
theorem lk_graph_look_1 (t0 : Value) {h : Heap} {K : Value → Heap → Prop} (H : sh_graph_look_1 Tryz.prog t0 h K) : CallsH Tryz.prog F_graph_look_1 [t0].toArray h K :=
  callsH_of (ann := (annG (Tryz.f73.body.getD .skip) 0 []).1) (c := Tryz.f73.body.getD .skip) Tryz.func73 (by kernel_rfl) (by kernel_rfl) (by kernel_rfl) (of_decide_eq_true (by kernel_rfl))
    (Eq.mpr (by kernel_rfl) H)

/-! milestone/graph.one -/

def sh_graph_one (P : Program) (code0 n1 least2 end3 : Value) (h : Heap) (K : Value → Heap → Prop) : Prop :=
  pBuild [(.int .i64 0), (.int .i64 0), (.int .i64 0), (.int .i64 0), (.int .i64 0), (.int .i64 0)] [(0, 1, (.int .i64 0)), (1, 1, (.int .i64 0)), (2, 1, code0), (3, 1, n1), (4, 1, least2), (5, 1, end3)] fun t13 =>
  pBuildSlice T_graph_place (zerosL [(.int .i64 0), (.int .i64 0), (.int .i64 0), (.int .i64 0), (.int .i64 0), (.int .i64 0)] 1) [(0, 6, t13)] 1 h fun t14 h_1 =>
  callS P F_slices_Values_sl_graph_place_graph_place [t14] h_1 fun t15 h_2 =>
  K t15 h_2

set_option maxRecDepth 100000 in
theorem lk_graph_one (code0 n1 least2 end3 : Value) {h : Heap} {K : Value → Heap → Prop} (H : sh_graph_one Tryz.prog code0 n1 least2 end3 h K) : CallsH Tryz.prog F_graph_one [code0, n1, least2, end3].toArray h K :=
  callsH_of (ann := (annG (Tryz.f74.body.getD .skip) 0 []).1) (c := Tryz.f74.body.getD .skip) Tryz.func74 (by kernel_rfl) (by kernel_rfl) (by kernel_rfl) (of_decide_eq_true (by kernel_rfl))
    (Eq.mpr (by kernel_rfl) H)

/-! milestone/graph.look$2 -/

def sh_graph_look_2 (P : Program) (t0 : Value) (h : Heap) (K : Value → Heap → Prop) : Prop :=
  pLoadN 4 h t0 fun t2 =>
  callS P F_graph_shapes [t2] h fun t3 h_1 =>
  K t3 h_1

set_option maxRecDepth 100000 in
theorem lk_graph_look_2 (t0 : Value) {h : Heap} {K : Value → Heap → Prop} (H : sh_graph_look_2 Tryz.prog t0 h K) : CallsH Tryz.prog F_graph_look_2 [t0].toArray h K :=
  callsH_of (ann := (annG (Tryz.f75.body.getD .skip) 0 []).1) (c := Tryz.f75.body.getD .skip) Tryz.func75 (by kernel_rfl) (by kernel_rfl) (by kernel_rfl) (of_decide_eq_true (by kernel_rfl))
    (Eq.mpr (by kernel_rfl) H)

/-! milestone/graph.shapes -/

def sh_graph_shapes (P : Program) (r0 : Value) (h : Heap) (K : Value → Heap → Prop) : Prop :=
  pBox T_api_Raw r0 h fun r1 h_1 =>
  pField 0 r1 fun t4 =>
  pLoad h_1 t4 fun t5 =>
  pField 1 r1 fun t6 =>
  pLoad h_1 t6 fun t7 =>
  pLen t7 fun t8 =>
  pBin .add t5 (.int .i64 1) fun t11 =>
  pBuild [(.int .i64 0), (.int .i64 0), (.int .i64 0), (.int .i64 0), (.int .i64 0), (.int .i64 0)] [(0, 1, (.int .i64 0)), (1, 1, (.int .i64 0)), (2, 1, (.int .i64 6)), (3, 1, t8), (4, 1, t5), (5, 1, t11)] fun t12 =>
  pField 2 r1 fun t13 =>
  pLoad h_1 t13 fun t14 =>
  pLen t14 fun t15 =>
  pBin .add t5 (.int .i64 1) fun t18 =>
  pBuild [(.int .i64 0), (.int .i64 0), (.int .i64 0), (.int .i64 0), (.int .i64 0), (.int .i64 0)] [(0, 1, (.int .i64 0)), (1, 1, (.int .i64 1)), (2, 1, (.int .i64 6)), (3, 1, t15), (4, 1, t5), (5, 1, t18)] fun t19 =>
  pBuildSlice T_graph_place (zerosL [(.int .i64 0), (.int .i64 0), (.int .i64 0), (.int .i64 0), (.int .i64 0), (.int .i64 0)] 2) [(0, 6, t12), (6, 6, t19)] 2 h_1 fun t20 h_2 =>
  callS P F_slices_Values_sl_graph_place_graph_place [t20] h_2 fun t21 h_3 =>
  K t21 h_3

set_option maxRecDepth 100000 in
theorem lk_graph_shapes (r0 : Value) {h : Heap} {K : Value → Heap → Prop} (H : sh_graph_shapes Tryz.prog r0 h K) : CallsH Tryz.prog F_graph_shapes [r0].toArray h K :=
  callsH_of (ann := (annG (Tryz.f76.body.getD .skip) 0 []).1) (c := Tryz.f76.body.getD .skip) Tryz.func76 (by kernel_rfl) (by kernel_rfl) (by kernel_rfl) (of_decide_eq_true (by kernel_rfl))
    (Eq.mpr (by kernel_rfl) H)

/-! milestone/graph.look$3 -/

def sh_graph_look_3 (P : Program) (t0 : Value) (h : Heap) (K : Value → Heap → Prop) : Prop :=
  pLoadN 4 h t0 fun t2 =>
  callS P F_graph_nodes [t2] h fun t3 h_1 =>
  K t3 h_1

set_option maxRecDepth 100000 in
theorem lk_graph_look_3 (t0 : Value) {h : Heap} {K : Value → Heap → Prop} (H : sh_graph_look_3 Tryz.prog t0 h K) : CallsH Tryz.prog F_graph_look_3 [t0].toArray h K :=
  callsH_of (ann := (annG (Tryz.f77.body.getD .skip) 0 []).1) (c := Tryz.f77.body.getD .skip) Tryz.func77 (by kernel_rfl) (by kernel_rfl) (by kernel_rfl) (of_decide_eq_true (by kernel_rfl))
    (Eq.mpr (by kernel_rfl) H)

/-! milestone/graph.nodes -/

def sh_graph_nodes (P : Program) (r0 : Value) (h : Heap) (K : Value → Heap → Prop) : Prop :=
  pBox T_api_Raw r0 h fun r1 h_1 =>
  K (.func (.func F_graph_nodes_1) #[] #[r1]) h_1

set_option maxRecDepth 100000 in
theorem lk_graph_nodes (r0 : Value) {h : Heap} {K : Value → Heap → Prop} (H : sh_graph_nodes Tryz.prog r0 h K) : CallsH Tryz.prog F_graph_nodes [r0].toArray h K :=
  callsH_of (ann := (annG (Tryz.f78.body.getD .skip) 0 []).1) (c := Tryz.f78.body.getD .skip) Tryz.func78 (by kernel_rfl) (by kernel_rfl) (by kernel_rfl) (of_decide_eq_true (by kernel_rfl))
    (Eq.mpr (by kernel_rfl) H)

/-! milestone/graph.look$4 -/

def sh_graph_look_4 (P : Program) (t0 : Value) (h : Heap) (K : Value → Heap → Prop) : Prop :=
  pField 3 t0 fun t2 =>
  pLoad h t2 fun t3 =>
  pLen t3 fun t4 =>
  callS P F_graph_one [(.int .i64 8), t4, (.int .i64 0), (.int .i64 67108865)] h fun t5 h_1 =>
  K t5 h_1

set_option maxRecDepth 100000 in
theorem lk_graph_look_4 (t0 : Value) {h : Heap} {K : Value → Heap → Prop} (H : sh_graph_look_4 Tryz.prog t0 h K) : CallsH Tryz.prog F_graph_look_4 [t0].toArray h K :=
  callsH_of (ann := (annG (Tryz.f79.body.getD .skip) 0 []).1) (c := Tryz.f79.body.getD .skip) Tryz.func79 (by kernel_rfl) (by kernel_rfl) (by kernel_rfl) (of_decide_eq_true (by kernel_rfl))
    (Eq.mpr (by kernel_rfl) H)

end Go.Proofs.YtgefabaobhendaaGreatDoor

namespace Go.Proofs.YtgefabaobhendaaGreatDoor
open Go Go.Mh
set_option maxHeartbeats 0
set_option linter.unusedVariables false

/-! milestone/graph.look$5 -/

def sh_graph_look_5 (P : Program) (t0 : Value) (h : Heap) (K : Value → Heap → Prop) : Prop :=
  pLoadN 4 h t0 fun t2 =>
  callS P F_graph_arcs [t2] h fun t3 h_1 =>
  K t3 h_1

set_option maxRecDepth 100000 in
theorem lk_graph_look_5 (t0 : Value) {h : Heap} {K : Value → Heap → Prop} (H : sh_graph_look_5 Tryz.prog t0 h K) : CallsH Tryz.prog F_graph_look_5 [t0].toArray h K :=
  callsH_of (ann := (annG (Tryz.f80.body.getD .skip) 0 []).1) (c := Tryz.f80.body.getD .skip) Tryz.func80 (by kernel_rfl) (by kernel_rfl) (by kernel_rfl) (of_decide_eq_true (by kernel_rfl))
    (Eq.mpr (by kernel_rfl) H)

/-! milestone/graph.arcs -/

def sh_graph_arcs (P : Program) (r0 : Value) (h : Heap) (K : Value → Heap → Prop) : Prop :=
  pBox T_api_Raw r0 h fun r1 h_1 =>
  K (.func (.func F_graph_arcs_1) #[] #[r1]) h_1

set_option maxRecDepth 100000 in
theorem lk_graph_arcs (r0 : Value) {h : Heap} {K : Value → Heap → Prop} (H : sh_graph_arcs Tryz.prog r0 h K) : CallsH Tryz.prog F_graph_arcs [r0].toArray h K :=
  callsH_of (ann := (annG (Tryz.f81.body.getD .skip) 0 []).1) (c := Tryz.f81.body.getD .skip) Tryz.func81 (by kernel_rfl) (by kernel_rfl) (by kernel_rfl) (of_decide_eq_true (by kernel_rfl))
    (Eq.mpr (by kernel_rfl) H)

/-! math/bits.Mul32 -/

def sh_math_bits_Mul32 (P : Program) (x0 y1 : Value) (h : Heap) (K : Value → Heap → Prop) : Prop :=
  pConv .u64 x0 fun t8 =>
  pConv .u64 y1 fun t10 =>
  pBin .mul t8 t10 fun t11 =>
  pBin .shr t11 (.int .u64 32) fun t13 =>
  pConv .u32 t13 fun t14 =>
  pConv .u32 t11 fun t16 =>
  K (.tuple #[t14, t16]) h

set_option maxRecDepth 100000 in
theorem lk_math_bits_Mul32 (x0 y1 : Value) {h : Heap} {K : Value → Heap → Prop} (H : sh_math_bits_Mul32 Tryz.prog x0 y1 h K) : CallsH Tryz.prog F_math_bits_Mul32 [x0, y1].toArray h K :=
  callsH_of (ann := (annG (Tryz.f86.body.getD .skip) 0 []).1) (c := Tryz.f86.body.getD .skip) Tryz.func86 (by kernel_rfl) (by kernel_rfl) (by kernel_rfl) (of_decide_eq_true (by kernel_rfl))
    (Eq.mpr (by kernel_rfl) H)

/-! math/bits.Mul64 -/

def sh_math_bits_Mul64 (P : Program) (x0 y1 : Value) (h : Heap) (K : Value → Heap → Prop) : Prop :=
  pBin .and x0 (.int .u64 4294967295) fun t15 =>
  pBin .shr x0 (.int .u64 32) fun t17 =>
  pBin .and y1 (.int .u64 4294967295) fun t19 =>
  pBin .shr y1 (.int .u64 32) fun t21 =>
  pBin .mul t15 t19 fun t24 =>
  pBin .mul t17 t19 fun t27 =>
  pBin .shr t24 (.int .u64 32) fun t29 =>
  pBin .add t27 t29 fun t30 =>
  pBin .and t30 (.int .u64 4294967295) fun t32 =>
  pBin .shr t30 (.int .u64 32) fun t34 =>
  pBin .mul t15 t21 fun t38 =>
  pBin .add t32 t38 fun t39 =>
  pBin .mul t17 t21 fun t42 =>
  pBin .add t42 t34 fun t44 =>
  pBin .shr t39 (.int .u64 32) fun t46 =>
  pBin .add t44 t46 fun t47 =>
  pBin .mul x0 y1 fun t50 =>
  K (.tuple #[t47, t50]) h

set_option maxRecDepth 100000 in
theorem lk_math_bits_Mul64 (x0 y1 : Value) {h : Heap} {K : Value → Heap → Prop} (H : sh_math_bits_Mul64 Tryz.prog x0 y1 h K) : CallsH Tryz.prog F_math_bits_Mul64 [x0, y1].toArray h K :=
  callsH_of (ann := (annG (Tryz.f87.body.getD .skip) 0 []).1) (c := Tryz.f87.body.getD .skip) Tryz.func87 (by kernel_rfl) (by kernel_rfl) (by kernel_rfl) (of_decide_eq_true (by kernel_rfl))
    (Eq.mpr (by kernel_rfl) H)

/-! (*milestone/heap.row).ahead -/

def sh_heap_row_ahead (P : Program) (r0 i1 k2 : Value) (h : Heap) (K : Value → Heap → Prop) : Prop :=
  pNil r0 fun t8 =>
  pField 0 t8 fun t9 =>
  pLoad h t9 fun t10 =>
  pIdx 2 t10 i1 fun t12 =>
  pField 1 t12 fun t13 =>
  pLoad h t13 fun t14 =>
  pNil r0 fun t16 =>
  pField 0 t16 fun t17 =>
  pLoad h t17 fun t18 =>
  pIdx 2 t18 k2 fun t20 =>
  pField 1 t20 fun t21 =>
  pLoad h t21 fun t22 =>
  pNil r0 fun t25 =>
  pField 0 t25 fun t26 =>
  pLoad h t26 fun t27 =>
  pIdx 2 t27 i1 fun t29 =>
  pField 0 t29 fun t30 =>
  pLoad h t30 fun t31 =>
  pNil r0 fun t33 =>
  pField 0 t33 fun t34 =>
  pLoad h t34 fun t35 =>
  pIdx 2 t35 k2 fun t37 =>
  pField 0 t37 fun t38 =>
  pLoad h t38 fun t39 =>
  callS P F_cmp_Compare_int64 [t14, t22] h fun t23 h_1 =>
  (pLoad h_1 t26 fun t27_1 =>
  t27_1 = t27) ∧
  (pLoad h_1 t30 fun t31_1 =>
  t31_1 = t31) ∧
  (pLoad h_1 t34 fun t35_1 =>
  t35_1 = t35) ∧
  (pLoad h_1 t38 fun t39_1 =>
  t39_1 = t39) ∧
  (callS P F_cmp_Compare_int [t31, t39] h_1 fun t40 h_2 =>
  pBuildSlice T_int (zerosL [(.int .i64 0)] 2) [(0, 1, t23), (1, 1, t40)] 2 h_2 fun t41 h_3 =>
  callS P F_cmp_Or_int [t41] h_3 fun t42 h_4 =>
  pBin .lss t42 (.int .i64 0) fun t43 =>
  K t43 h_4)

set_option maxRecDepth 100000 in
theorem lk_heap_row_ahead (r0 i1 k2 : Value) {h : Heap} {K : Value → Heap → Prop} (H : sh_heap_row_ahead Tryz.prog r0 i1 k2 h K) : CallsH Tryz.prog F_heap_row_ahead [r0, i1, k2].toArray h K :=
  callsH_of (ann := (annG (Tryz.f88.body.getD .skip) 0 []).1) (c := Tryz.f88.body.getD .skip) Tryz.func88 (by kernel_rfl) (by kernel_rfl) (by kernel_rfl) (of_decide_eq_true (by kernel_rfl))
    (Eq.mpr (by kernel_rfl) H)

/-! (*milestone/heap.row).below -/

def sh_heap_row_below (P : Program) (r0 i1 : Value) (h : Heap) (K : Value → Heap → Prop) : Prop :=
  pBox T_p_heap_row r0 h fun r2 h_1 =>
  pBox T_int i1 h_1 fun i3 h_2 =>
  K (.func (.func F_heap_row_below_1) #[] #[i3, r2]) h_2

set_option maxRecDepth 100000 in
theorem lk_heap_row_below (r0 i1 : Value) {h : Heap} {K : Value → Heap → Prop} (H : sh_heap_row_below Tryz.prog r0 i1 h K) : CallsH Tryz.prog F_heap_row_below [r0, i1].toArray h K :=
  callsH_of (ann := (annG (Tryz.f89.body.getD .skip) 0 []).1) (c := Tryz.f89.body.getD .skip) Tryz.func89 (by kernel_rfl) (by kernel_rfl) (by kernel_rfl) (of_decide_eq_true (by kernel_rfl))
    (Eq.mpr (by kernel_rfl) H)

/-! slices.Values[[]milestone/graph.place,milestone/graph.place] -/

def sh_slices_Values_sl_graph_place_graph_place (P : Program) (s0 : Value) (h : Heap) (K : Value → Heap → Prop) : Prop :=
  pBox T_sl_graph_place s0 h fun s1 h_1 =>
  K (.func (.func F_slices_Values_sl_graph_place_graph_place_1) #[] #[s1]) h_1

set_option maxRecDepth 100000 in
theorem lk_slices_Values_sl_graph_place_graph_place (s0 : Value) {h : Heap} {K : Value → Heap → Prop} (H : sh_slices_Values_sl_graph_place_graph_place Tryz.prog s0 h K) : CallsH Tryz.prog F_slices_Values_sl_graph_place_graph_place [s0].toArray h K :=
  callsH_of (ann := (annG (Tryz.f90.body.getD .skip) 0 []).1) (c := Tryz.f90.body.getD .skip) Tryz.func90 (by kernel_rfl) (by kernel_rfl) (by kernel_rfl) (of_decide_eq_true (by kernel_rfl))
    (Eq.mpr (by kernel_rfl) H)

/-! milestone/graph.nodes$1 -/

def sh_graph_nodes_1_L2 (P : Program) (t23 t22 t9 yield0 : Value) (K Z : Value → Heap → Prop) (t24 : Value) (h_3 : Heap) (Z_1 : Value → Heap → Prop) : Prop :=
  pBin .lss t24 t23 fun t25 =>
  ifV t25
  (pIdx 1 t22 t24 fun t27 =>
  pLoad h_3 t27 fun t28 =>
  pBuild [(.int .i64 0), (.int .i64 0), (.int .i64 0), (.int .i64 0), (.int .i64 0), (.int .i64 0)] [(0, 1, t9), (1, 1, t24), (2, 1, (.int .i64 7)), (3, 1, t28), (4, 1, (.int .i64 (-2147483648))), (5, 1, (.int .i64 2147483648))] fun t33 =>
  callV P yield0 [t33].toArray h_3 fun t34 h_4 =>
  pUn .not t34 fun t35 =>
  ifV t35
  (K (.tuple #[]) h_4)
  (pBin .add t24 (.int .i64 1) fun t36 =>
  Z_1 t36 h_4))
  (pBin .add t9 (.int .i64 1) fun t37 =>
  Z t37 h_3)

def sh_graph_nodes_1_L1 (P : Program) (t8 t1 yield0 : Value) (K : Value → Heap → Prop) (t9 : Value) (h_1 : Heap) (Z : Value → Heap → Prop) : Prop :=
  pBin .lss t9 t8 fun t10 =>
  ifV t10
  (pField 1 t1 fun t12 =>
  pLoad h_1 t12 fun t13 =>
  pIdx 1 t13 t9 fun t15 =>
  pLoad h_1 t15 fun t16 =>
  pField 2 t1 fun t17 =>
  pLoad h_1 t17 fun t18 =>
  pIdx 1 t18 t9 fun t20 =>
  pLoad h_1 t20 fun t21 =>
  pBuildSlice T_int64 (zerosL [(.int .i64 0)] 2) [(0, 1, t16), (1, 1, t21)] 2 h_1 fun t22 h_2 =>
  pLen t22 fun t23 =>
  LoopH (σ := Vals [24]) (fun x hh ZZ => sh_graph_nodes_1_L2 P t23 t22 t9 yield0 K Z x.1 hh (fun a0 hz => ZZ (a0, ()) hz)) ((.int .i64 0), ()) h_2)
  (K (.tuple #[]) h_1)

def sh_graph_nodes_1 (P : Program) (yield0 t1 : Value) (h : Heap) (K : Value → Heap → Prop) : Prop :=
  pField 1 t1 fun t6 =>
  pLoad h t6 fun t7 =>
  pLen t7 fun t8 =>
  LoopH (σ := Vals [9]) (fun x hh ZZ => sh_graph_nodes_1_L1 P t8 t1 yield0 K x.1 hh (fun a0 hz => ZZ (a0, ()) hz)) ((.int .i64 0), ()) h

set_option maxRecDepth 100000 in
theorem lk_graph_nodes_1 (yield0 t1 : Value) {h : Heap} {K : Value → Heap → Prop} (H : sh_graph_nodes_1 Tryz.prog yield0 t1 h K) : CallsH Tryz.prog F_graph_nodes_1 [yield0, t1].toArray h K :=
  callsH_of (ann := (annG (Tryz.f91.body.getD .skip) 0 [(1, [9]), (7, [24])]).1) (c := Tryz.f91.body.getD .skip) Tryz.func91 (by kernel_rfl) (by kernel_rfl) (by kernel_rfl) (of_decide_eq_true (by kernel_rfl))
    (Eq.mpr (by kernel_rfl) H)

/-! milestone/graph.arcs$1 -/

def sh_graph_arcs_1_L2 (P : Program) (t33 t32 yield0 : Value) (K : Value → Heap → Prop) (t13 : Value) (Z : Value → Heap → Prop) (t34 : Value) (h_5 : Heap) (Z_1 : Value → Heap → Prop) : Prop :=
  pBin .lss t34 t33 fun t35 =>
  ifV t35
  (pIdx 6 t32 t34 fun t36 =>
  pLoadN 6 h_5 t36 fun t37 =>
  pBox T_graph_place (.agg #[(.int .i64 0), (.int .i64 0), (.int .i64 0), (.int .i64 0), (.int .i64 0), (.int .i64 0)]) h_5 fun p7 h_6 =>
  pStore 6 p7 t37 h_6 fun u_1 h_7 =>
  pLoadN 6 h_7 p7 fun t39 =>
  callV P yield0 [t39].toArray h_7 fun t40 h_8 =>
  pUn .not t40 fun t41 =>
  ifV t41
  (K (.tuple #[]) h_8)
  (pBin .add t34 (.int .i64 1) fun t42 =>
  Z_1 t42 h_8))
  (pBin .add t13 (.int .i64 1) fun t43 =>
  Z t43 h_5)

def sh_graph_arcs_1_L1 (P : Program) (t12 t11 t9 yield0 : Value) (K : Value → Heap → Prop) (t13 : Value) (h_1 : Heap) (Z : Value → Heap → Prop) : Prop :=
  pBin .lss t13 t12 fun t14 =>
  ifV t14
  (pIdx 3 t11 t13 fun t16 =>
  pLoadN 3 h_1 t16 fun t17 =>
  pBox T_api_Arc (.agg #[(.int .i64 0), (.int .i64 0), (.int .i64 0)]) h_1 fun a5 h_2 =>
  pStore 3 a5 t17 h_2 fun u h_3 =>
  pField 0 a5 fun t19 =>
  pLoad h_3 t19 fun t20 =>
  pBuild [(.int .i64 0), (.int .i64 0), (.int .i64 0), (.int .i64 0), (.int .i64 0), (.int .i64 0)] [(0, 1, t13), (1, 1, (.int .i64 0)), (2, 1, (.int .i64 9)), (3, 1, t20), (4, 1, (.int .i64 0)), (5, 1, t9)] fun t22 =>
  pField 1 a5 fun t24 =>
  pLoad h_3 t24 fun t25 =>
  pBuild [(.int .i64 0), (.int .i64 0), (.int .i64 0), (.int .i64 0), (.int .i64 0), (.int .i64 0)] [(0, 1, t13), (1, 1, (.int .i64 1)), (2, 1, (.int .i64 9)), (3, 1, t25), (4, 1, (.int .i64 0)), (5, 1, t9)] fun t27 =>
  pField 2 a5 fun t29 =>
  pLoad h_3 t29 fun t30 =>
  pBuild [(.int .i64 0), (.int .i64 0), (.int .i64 0), (.int .i64 0), (.int .i64 0), (.int .i64 0)] [(0, 1, t13), (1, 1, (.int .i64 2)), (2, 1, (.int .i64 10)), (3, 1, t30), (4, 1, (.int .i64 0)), (5, 1, (.int .i64 2147483648))] fun t31 =>
  pBuildSlice T_graph_place (zerosL [(.int .i64 0), (.int .i64 0), (.int .i64 0), (.int .i64 0), (.int .i64 0), (.int .i64 0)] 3) [(0, 6, t22), (6, 6, t27), (12, 6, t31)] 3 h_3 fun t32 h_4 =>
  pLen t32 fun t33 =>
  LoopH (σ := Vals [34]) (fun x hh ZZ => sh_graph_arcs_1_L2 P t33 t32 yield0 K t13 Z x.1 hh (fun a0 hz => ZZ (a0, ()) hz)) ((.int .i64 0), ()) h_4)
  (K (.tuple #[]) h_1)

def sh_graph_arcs_1 (P : Program) (yield0 t1 : Value) (h : Heap) (K : Value → Heap → Prop) : Prop :=
  pField 0 t1 fun t8 =>
  pLoad h t8 fun t9 =>
  pField 3 t1 fun t10 =>
  pLoad h t10 fun t11 =>
  pLen t11 fun t12 =>
  LoopH (σ := Vals [13]) (fun x hh ZZ => sh_graph_arcs_1_L1 P t12 t11 t9 yield0 K x.1 hh (fun a0 hz => ZZ (a0, ()) hz)) ((.int .i64 0), ()) h

set_option maxRecDepth 100000 in
theorem lk_graph_arcs_1 (yield0 t1 : Value) {h : Heap} {K : Value → Heap → Prop} (H : sh_graph_arcs_1 Tryz.prog yield0 t1 h K) : CallsH Tryz.prog F_graph_arcs_1 [yield0, t1].toArray h K :=
  callsH_of (ann := (annG (Tryz.f92.body.getD .skip) 0 [(2, [13]), (8, [34])]).1) (c := Tryz.f92.body.getD .skip) Tryz.func92 (by kernel_rfl) (by kernel_rfl) (by kernel_rfl) (of_decide_eq_true (by kernel_rfl))
    (Eq.mpr (by kernel_rfl) H)

/-! cmp.Or[int] -/

def sh_cmp_Or_int_L1 (P : Program) (t7 vals0 : Value) (K : Value → Heap → Prop) (t8 : Value) (h_1 : Heap) (Z : Value → Heap → Prop) : Prop :=
  pBin .lss t8 t7 fun t9 =>
  ifV t9
  (pIdx 1 vals0 t8 fun t10 =>
  pLoad h_1 t10 fun t11 =>
  pBin .neq t11 (.int .i64 0) fun t14 =>
  ifV t14
  (K t11 h_1)
  (pBin .add t8 (.int .i64 1) fun t16 =>
  Z t16 h_1))
  (K (.int .i64 0) h_1)

def sh_cmp_Or_int (P : Program) (vals0 : Value) (h : Heap) (K : Value → Heap → Prop) : Prop :=
  pLen vals0 fun t7 =>
  LoopH (σ := Vals [8]) (fun x hh ZZ => sh_cmp_Or_int_L1 P t7 vals0 K x.1 hh (fun a0 hz => ZZ (a0, ()) hz)) ((.int .i64 0), ()) h

set_option maxRecDepth 100000 in
theorem lk_cmp_Or_int (vals0 : Value) {h : Heap} {K : Value → Heap → Prop} (H : sh_cmp_Or_int Tryz.prog vals0 h K) : CallsH Tryz.prog F_cmp_Or_int [vals0].toArray h K :=
  callsH_of (ann := (annG (Tryz.f96.body.getD .skip) 0 [(4, [8])]).1) (c := Tryz.f96.body.getD .skip) Tryz.func96 (by kernel_rfl) (by kernel_rfl) (by kernel_rfl) (of_decide_eq_true (by kernel_rfl))
    (Eq.mpr (by kernel_rfl) H)

/-! cmp.Compare[int64] -/

def sh_cmp_Compare_int64 (P : Program) (x0 y1 : Value) (h : Heap) (K : Value → Heap → Prop) : Prop :=
  callS P F_cmp_isNaN_int64 [x0] h fun t8 h_1 =>
  callS P F_cmp_isNaN_int64 [y1] h_1 fun t10 h_2 =>
  ifV t8
  (ifV t10
  (K (.int .i64 0) h_2)
  (K (.int .i64 (-1)) h_2))
  (ifV t10
  (K (.int .i64 1) h_2)
  (pBin .lss x0 y1 fun t16 =>
  ifV t16
  (K (.int .i64 (-1)) h_2)
  (pBin .gtr x0 y1 fun t19 =>
  ifV t19
  (K (.int .i64 1) h_2)
  (K (.int .i64 0) h_2))))

set_option maxRecDepth 100000 in
theorem lk_cmp_Compare_int64 (x0 y1 : Value) {h : Heap} {K : Value → Heap → Prop} (H : sh_cmp_Compare_int64 Tryz.prog x0 y1 h K) : CallsH Tryz.prog F_cmp_Compare_int64 [x0, y1].toArray h K :=
  callsH_of (ann := (annG (Tryz.f97.body.getD .skip) 0 []).1) (c := Tryz.f97.body.getD .skip) Tryz.func97 (by kernel_rfl) (by kernel_rfl) (by kernel_rfl) (of_decide_eq_true (by kernel_rfl))
    (Eq.mpr (by kernel_rfl) H)

/-! cmp.Compare[int] -/

def sh_cmp_Compare_int (P : Program) (x0 y1 : Value) (h : Heap) (K : Value → Heap → Prop) : Prop :=
  callS P F_cmp_isNaN_int [x0] h fun t8 h_1 =>
  callS P F_cmp_isNaN_int [y1] h_1 fun t10 h_2 =>
  ifV t8
  (ifV t10
  (K (.int .i64 0) h_2)
  (K (.int .i64 (-1)) h_2))
  (ifV t10
  (K (.int .i64 1) h_2)
  (pBin .lss x0 y1 fun t16 =>
  ifV t16
  (K (.int .i64 (-1)) h_2)
  (pBin .gtr x0 y1 fun t19 =>
  ifV t19
  (K (.int .i64 1) h_2)
  (K (.int .i64 0) h_2))))

set_option maxRecDepth 100000 in
theorem lk_cmp_Compare_int (x0 y1 : Value) {h : Heap} {K : Value → Heap → Prop} (H : sh_cmp_Compare_int Tryz.prog x0 y1 h K) : CallsH Tryz.prog F_cmp_Compare_int [x0, y1].toArray h K :=
  callsH_of (ann := (annG (Tryz.f98.body.getD .skip) 0 []).1) (c := Tryz.f98.body.getD .skip) Tryz.func98 (by kernel_rfl) (by kernel_rfl) (by kernel_rfl) (of_decide_eq_true (by kernel_rfl))
    (Eq.mpr (by kernel_rfl) H)

/-! (*milestone/heap.row).below$1 -/

def sh_heap_row_below_1_L1 (P : Program) (t1 t2 yield0 : Value) (K : Value → Heap → Prop) (k4 : Value) (h_1 : Heap) (Z : Value → Heap → Prop) : Prop :=
  pLoad h_1 t1 fun t9 =>
  pBin .mul (.int .i64 4) t9 fun t10 =>
  pBin .add t10 (.int .i64 4) fun t11 =>
  pBin .leq k4 t11 fun t12 =>
  ifV t12
  (pLoad h_1 t2 fun t15 =>
  pNil t15 fun t16 =>
  pField 0 t16 fun t17 =>
  pLoad h_1 t17 fun t18 =>
  pLen t18 fun t19 =>
  pBin .lss k4 t19 fun t20 =>
  ifV t20
  (callV P yield0 [k4].toArray h_1 fun t26 h_2 =>
  pUn .not t26 fun t27 =>
  ifV t27
  (K (.tuple #[]) h_2)
  (pBin .add k4 (.int .i64 1) fun t23 =>
  Z t23 h_2))
  (K (.tuple #[]) h_1))
  (K (.tuple #[]) h_1)

def sh_heap_row_below_1 (P : Program) (yield0 t1 t2 : Value) (h : Heap) (K : Value → Heap → Prop) : Prop :=
  pLoad h t1 fun t5 =>
  pBin .mul (.int .i64 4) t5 fun t6 =>
  pBin .add t6 (.int .i64 1) fun t7 =>
  LoopH (σ := Vals [4]) (fun x hh ZZ => sh_heap_row_below_1_L1 P t1 t2 yield0 K x.1 hh (fun a0 hz => ZZ (a0, ()) hz)) (t7, ()) h

set_option maxRecDepth 100000 in
theorem lk_heap_row_below_1 (yield0 t1 t2 : Value) {h : Heap} {K : Value → Heap → Prop} (H : sh_heap_row_below_1 Tryz.prog yield0 t1 t2 h K) : CallsH Tryz.prog F_heap_row_below_1 [yield0, t1, t2].toArray h K :=
  callsH_of (ann := (annG (Tryz.f99.body.getD .skip) 0 [(1, [4])]).1) (c := Tryz.f99.body.getD .skip) Tryz.func99 (by kernel_rfl) (by kernel_rfl) (by kernel_rfl) (of_decide_eq_true (by kernel_rfl))
    (Eq.mpr (by kernel_rfl) H)

/-! slices.Values[[]milestone/graph.place,milestone/graph.place]$1 -/

def sh_slices_Values_sl_graph_place_graph_place_1_L1 (P : Program) (t6 t5 yield0 : Value) (K : Value → Heap → Prop) (t7 : Value) (h_1 : Heap) (Z : Value → Heap → Prop) : Prop :=
  pBin .lss t7 t6 fun t8 =>
  ifV t8
  (pIdx 6 t5 t7 fun t9 =>
  pLoadN 6 h_1 t9 fun t10 =>
  pBox T_graph_place (.agg #[(.int .i64 0), (.int .i64 0), (.int .i64 0), (.int .i64 0), (.int .i64 0), (.int .i64 0)]) h_1 fun v4 h_2 =>
  pStore 6 v4 t10 h_2 fun u h_3 =>
  pLoadN 6 h_3 v4 fun t12 =>
  callV P yield0 [t12].toArray h_3 fun t13 h_4 =>
  pUn .not t13 fun t14 =>
  ifV t14
  (K (.tuple #[]) h_4)
  (pBin .add t7 (.int .i64 1) fun t15 =>
  Z t15 h_4))
  (K (.tuple #[]) h_1)

def sh_slices_Values_sl_graph_place_graph_place_1 (P : Program) (yield0 t1 : Value) (h : Heap) (K : Value → Heap → Prop) : Prop :=
  pLoad h t1 fun t5 =>
  pLen t5 fun t6 =>
  LoopH (σ := Vals [7]) (fun x hh ZZ => sh_slices_Values_sl_graph_place_graph_place_1_L1 P t6 t5 yield0 K x.1 hh (fun a0 hz => ZZ (a0, ()) hz)) ((.int .i64 0), ()) h

set_option maxRecDepth 100000 in
theorem lk_slices_Values_sl_graph_place_graph_place_1 (yield0 t1 : Value) {h : Heap} {K : Value → Heap → Prop} (H : sh_slices_Values_sl_graph_place_graph_place_1 Tryz.prog yield0 t1 h K) : CallsH Tryz.prog F_slices_Values_sl_graph_place_graph_place_1 [yield0, t1].toArray h K :=
  callsH_of (ann := (annG (Tryz.f100.body.getD .skip) 0 [(1, [7])]).1) (c := Tryz.f100.body.getD .skip) Tryz.func100 (by kernel_rfl) (by kernel_rfl) (by kernel_rfl) (of_decide_eq_true (by kernel_rfl))
    (Eq.mpr (by kernel_rfl) H)

/-! cmp.isNaN[int64] -/

def sh_cmp_isNaN_int64 (P : Program) (x0 : Value) (h : Heap) (K : Value → Heap → Prop) : Prop :=
  pBin .neq x0 x0 fun t5 =>
  K t5 h

set_option maxRecDepth 100000 in
theorem lk_cmp_isNaN_int64 (x0 : Value) {h : Heap} {K : Value → Heap → Prop} (H : sh_cmp_isNaN_int64 Tryz.prog x0 h K) : CallsH Tryz.prog F_cmp_isNaN_int64 [x0].toArray h K :=
  callsH_of (ann := (annG (Tryz.f101.body.getD .skip) 0 []).1) (c := Tryz.f101.body.getD .skip) Tryz.func101 (by kernel_rfl) (by kernel_rfl) (by kernel_rfl) (of_decide_eq_true (by kernel_rfl))
    (Eq.mpr (by kernel_rfl) H)

/-! cmp.isNaN[int] -/

def sh_cmp_isNaN_int (P : Program) (x0 : Value) (h : Heap) (K : Value → Heap → Prop) : Prop :=
  pBin .neq x0 x0 fun t5 =>
  K t5 h

set_option maxRecDepth 100000 in
theorem lk_cmp_isNaN_int (x0 : Value) {h : Heap} {K : Value → Heap → Prop} (H : sh_cmp_isNaN_int Tryz.prog x0 h K) : CallsH Tryz.prog F_cmp_isNaN_int [x0].toArray h K :=
  callsH_of (ann := (annG (Tryz.f102.body.getD .skip) 0 []).1) (c := Tryz.f102.body.getD .skip) Tryz.func102 (by kernel_rfl) (by kernel_rfl) (by kernel_rfl) (of_decide_eq_true (by kernel_rfl))
    (Eq.mpr (by kernel_rfl) H)

end Go.Proofs.YtgefabaobhendaaGreatDoor


