/- Texts of the proofs of seat YtlkcpceobicoiaaGreatDoor, joined: Ids, Gen1, Gen2, Gen3, Gen4, Gen5. They have no conditions of their own. -/
import Derived.Test.YtlkcpceobicoiaaGreatDoorMb
import Derived.Test.YtlkcpceobicoiaaGreatDoorChecked
import Derived.KernelRfl
set_option linter.unusedVariables false
set_option linter.unusedSimpArgs false

namespace Go.Proofs.YtlkcpceobicoiaaGreatDoor
abbrev F_gosem_cut_init : Nat := 2
abbrev F_milestonelaw24_TightLeast : Nat := 3
abbrev F_milestonelaw24_TightAny : Nat := 4
abbrev F_milestonelaw24_TightKnown : Nat := 5
abbrev F_milestonelaw24_TightTells : Nat := 6
abbrev F_milestonelaw24_TightWalks : Nat := 7
abbrev F_milestonelaw24_works : Nat := 8
abbrev F_milestonelaw24_drawn : Nat := 9
abbrev F_milestonelaw24_made : Nat := 10
abbrev F_flood_To : Nat := 11
abbrev F_tight_Arcs : Nat := 12
abbrev F_dist_Add : Nat := 13
abbrev F_milestonelaw24_truths : Nat := 14
abbrev F_tight_Any : Nat := 15
abbrev F_tight_Walk : Nat := 16
abbrev F_milestoneref24_Any : Nat := 17
abbrev F_milestoneref24_Arcs : Nat := 18
abbrev F_milestoneref24_Reach : Nat := 19
abbrev F_walk_Check : Nat := 20
abbrev F_milestoneref07_Draft_Raw : Nat := 21
abbrev F_net_New : Nat := 22
abbrev F_flood_flood : Nat := 23
abbrev F_net_Net_In : Nat := 24
abbrev F_flood_To_1 : Nat := 25
abbrev F_dist_folded : Nat := 26
abbrev F_dist_way : Nat := 27
abbrev F_net_Net_Arcs : Nat := 28
abbrev F_tight_there : Nat := 29
abbrev F_tight_put_bool : Nat := 30
abbrev F_tight_marked : Nat := 31
abbrev F_tight_tells : Nat := 32
abbrev F_net_Net_Out : Nat := 33
abbrev F_net_Net_Arc : Nat := 34
abbrev F_slices_Reverse_sl_int_int : Nat := 35
abbrev F_milestoneref10_Least : Nat := 36
abbrev F_milestoneref07_Turned : Nat := 37
abbrev F_walk_node : Nat := 38
abbrev F_walk_steps : Nat := 39
abbrev F_milestoneref07_Draft_Next : Nat := 40
abbrev F_milestoneref07_Draft_Weight : Nat := 41
abbrev F_graph_Check : Nat := 42
abbrev F_api_Told : Nat := 43
abbrev F_net_of : Nat := 44
abbrev F_net_own : Nat := 45
abbrev F_net_Net_Nodes : Nat := 46
abbrev F_heap_New : Nat := 47
abbrev F_slices_Repeat_sl_int64_int64 : Nat := 48
abbrev F_slices_Repeat_sl_int_int : Nat := 49
abbrev F_heap_Heap_Push : Nat := 50
abbrev F_heap_Heap_Pop : Nat := 51
abbrev F_flood_arcs : Nat := 52
abbrev F_flood_run_reach : Nat := 53
abbrev F_net_one_sl_int : Nat := 54
abbrev F_slices_Clone_sl_int_int : Nat := 55
abbrev F_dist_between_int64 : Nat := 56
abbrev F_tight_marked_1 : Nat := 57
abbrev F_tight_tells_1 : Nat := 58
abbrev F_dist_Finite : Nat := 59
abbrev F_net_one_api_Arc : Nat := 60
abbrev F_milestoneref07_Copy : Nat := 61
abbrev F_walk_steps_1 : Nat := 62
abbrev F_graph_Check_1 : Nat := 63
abbrev F_graph_look : Nat := 64
abbrev F_errors_As : Nat := 65
abbrev F_net_of_1 : Nat := 66
abbrev F_net_of_2 : Nat := 67
abbrev F_net_of_3 : Nat := 68
abbrev F_slices_Clone_sl_int64_int64 : Nat := 69
abbrev F_slices_Clone_sl_api_Arc_api_Arc : Nat := 70
abbrev F_math_bits_Mul : Nat := 71
abbrev F_heap_row_up : Nat := 72
abbrev F_heap_Heap_Len : Nat := 73
abbrev F_heap_row_swap : Nat := 74
abbrev F_heap_row_down : Nat := 75
abbrev F_flood_arcs_1 : Nat := 76
abbrev F_heap_Heap_Key : Nat := 77
abbrev F_heap_Heap_Lower : Nat := 78
abbrev F_dist_between_int64_1 : Nat := 79
abbrev F_graph_look_1 : Nat := 80
abbrev F_graph_one : Nat := 81
abbrev F_graph_look_2 : Nat := 82
abbrev F_graph_shapes : Nat := 83
abbrev F_graph_look_3 : Nat := 84
abbrev F_graph_nodes : Nat := 85
abbrev F_graph_look_4 : Nat := 86
abbrev F_graph_look_5 : Nat := 87
abbrev F_graph_arcs : Nat := 88
abbrev F_errors_as : Nat := 92
abbrev F_math_bits_Mul32 : Nat := 93
abbrev F_math_bits_Mul64 : Nat := 94
abbrev F_heap_row_ahead : Nat := 95
abbrev F_heap_row_below : Nat := 96
abbrev F_slices_Values_sl_graph_place_graph_place : Nat := 97
abbrev F_graph_nodes_1 : Nat := 98
abbrev F_graph_arcs_1 : Nat := 99
abbrev F_cmp_Or_int : Nat := 103
abbrev F_cmp_Compare_int64 : Nat := 104
abbrev F_cmp_Compare_int : Nat := 105
abbrev F_heap_row_below_1 : Nat := 106
abbrev F_slices_Values_sl_graph_place_graph_place_1 : Nat := 107
abbrev F_cmp_isNaN_int64 : Nat := 108
abbrev F_cmp_isNaN_int : Nat := 109
abbrev F_api_Fault_Unwrap : Nat := 129
abbrev F_net_trouble_Unwrap : Nat := 130
abbrev F_graph_trouble_Unwrap : Nat := 131
abbrev F_gosem_cut_vars : Nat := 150
abbrev T_ : Nat := 0
abbrev T_func : Nat := 1
abbrev T_int64 : Nat := 2
abbrev T_int : Nat := 3
abbrev T_bool : Nat := 4
abbrev T_uint8 : Nat := 5
abbrev T_abi_BoundsErrorCode : Nat := 6
abbrev T_struct_x_int64_y_int_signed_bool_code_abi_BoundsErrorCode : Nat := 7
abbrev T_runtime_boundsError : Nat := 8
abbrev T_string : Nat := 9
abbrev T_runtime_errorString : Nat := 10
abbrev T_runtime_plainError : Nat := 11
abbrev T_uintptr : Nat := 12
abbrev T_struct_msg_string_addr_uintptr : Nat := 13
abbrev T_runtime_errorAddressString : Nat := 14
abbrev T_p_runtime_TypeAssertionError : Nat := 15
abbrev T_p_runtime_PanicNilError : Nat := 16
abbrev T_p_abi_Type : Nat := 17
abbrev T_struct_typ_p_abi_Type : Nat := 18
abbrev T_maps_unhashableTypeError : Nat := 19
abbrev T_interface : Nat := 20
abbrev T_int32 : Nat := 21
abbrev T_sl_uint8 : Nat := 22
abbrev T_func_bool : Nat := 23
abbrev T_sl_int64 : Nat := 24
abbrev T_sl_api_Arc : Nat := 25
abbrev T_struct_Nodes_int_X_sl_int64_Y_sl_int64_Arcs_sl_api_Arc : Nat := 26
abbrev T_api_Raw : Nat := 27
abbrev T_func_sl_uint8_api_Raw : Nat := 28
abbrev T_p_net_Net : Nat := 29
abbrev T_func_api_Raw_p_net_Net : Nat := 30
abbrev T_sl_int : Nat := 31
abbrev T_struct_Dist_sl_int64_Arc_sl_int_Order_sl_int : Nat := 32
abbrev T_flood_Tree : Nat := 33
abbrev T_funcnet_Net_int_flood_Tree : Nat := 34
abbrev T_sl_bool : Nat := 35
abbrev T_funcnet_Net_int_sl_bool : Nat := 36
abbrev T_struct_From_int_To_int_Weight_int64 : Nat := 37
abbrev T_api_Arc : Nat := 38
abbrev T_func_int64_int64_int64 : Nat := 39
abbrev T_func_sl_uint8_uint8_bool : Nat := 40
abbrev T_func_sl_bool_sl_bool_bool : Nat := 41
abbrev T_funcnet_Net_sl_int_sl_bool : Nat := 42
abbrev T_func_sl_uint8_sl_uint8_int_bool : Nat := 43
abbrev T_sl_int_bool : Nat := 44
abbrev T_funcnet_Net_sl_bool_int_int_sl_int_bool : Nat := 45
abbrev T_sl_int8 : Nat := 46
abbrev T_int8 : Nat := 47
abbrev T_func_api_Raw_sl_int_sl_bool : Nat := 48
abbrev T_func_api_Raw_int_sl_bool : Nat := 49
abbrev T_func_api_Raw_sl_bool_int_int_bool : Nat := 50
abbrev T_int64_bool : Nat := 51
abbrev T_funcnet_Net_int_int_sl_int_int64_bool : Nat := 52
abbrev T_func_sl_uint8_sl_int8_sl_bool_bool : Nat := 53
abbrev T_p_milestoneref07_Draft : Nat := 54
abbrev T_struct_B_sl_uint8_At_int : Nat := 55
abbrev T_milestoneref07_Draft : Nat := 56
abbrev T_func_api_Raw : Nat := 57
abbrev T_interface_Error_string : Nat := 58
abbrev T_error : Nat := 59
abbrev T_net_Net_error : Nat := 60
abbrev T_func_api_Raw_net_Net_error : Nat := 61
abbrev T_funcnet_Net_int_func_int_sl_int_func_api_Arc_int_flood_Tree : Nat := 62
abbrev T_func_int_sl_int : Nat := 63
abbrev T_func_api_Arc_int : Nat := 64
abbrev T_func_func_int64_int64_int64_int64 : Nat := 65
abbrev T_func_int64_int64 : Nat := 66
abbrev T_func_int : Nat := 67
abbrev T_funcnet_Net_int_bool : Nat := 68
abbrev T_func_sl_bool_iter_Seq_int_bool_sl_bool : Nat := 69
abbrev T_func_func_int_bool : Nat := 70
abbrev T_iter_Seq_int : Nat := 71
abbrev T_func_int_func_int_bool_iter_Seq_int : Nat := 72
abbrev T_func_int_bool : Nat := 73
abbrev T_funcnet_Net_int_func_int_bool : Nat := 74
abbrev T_map_int_int : Nat := 75
abbrev T_api_Arc_bool : Nat := 76
abbrev T_func_int_api_Arc_bool : Nat := 77
abbrev T_int_bool : Nat := 78
abbrev T_func_sl_int : Nat := 79
abbrev T_func_api_Raw_int_sl_int64 : Nat := 80
abbrev T_func_api_Raw_api_Raw : Nat := 81
abbrev T_func_func_api_Arc_bool_bool : Nat := 82
abbrev T_iter_Seq2_api_Arc_bool : Nat := 83
abbrev T_funcnet_Net_int_sl_int_iter_Seq2_api_Arc_bool : Nat := 84
abbrev T_func_int_int : Nat := 85
abbrev T_func_int64 : Nat := 86
abbrev T_func_api_Raw_error : Nat := 87
abbrev T_api_Errno : Nat := 88
abbrev T_struct_Code_api_Errno_Phase_int_Index_int_Field_int : Nat := 89
abbrev T_api_Fault : Nat := 90
abbrev T_func_error_api_Fault : Nat := 91
abbrev T_p_api_Fault : Nat := 92
abbrev T_struct_p_api_Fault : Nat := 93
abbrev T_net_trouble : Nat := 94
abbrev T_p_flood_run : Nat := 95
abbrev T_p_heap_Heap : Nat := 96
abbrev T_func_int_p_heap_Heap : Nat := 97
abbrev T_func_sl_int64_int_sl_int64 : Nat := 98
abbrev T_func_sl_int_int_sl_int : Nat := 99
abbrev T_struct_p_heap_Heap_flood_Tree_closed_map_int_int : Nat := 100
abbrev T_flood_run : Nat := 101
abbrev T_func_int_int64_api_Errno : Nat := 102
abbrev T_int_int64_bool : Nat := 103
abbrev T_func_int_int64_bool : Nat := 104
abbrev T_func_func_int_api_Arc_bool : Nat := 105
abbrev T_iter_Seq2_int_api_Arc : Nat := 106
abbrev T_funcnet_Net_sl_int_func_api_Arc_int_iter_Seq2_int_api_Arc : Nat := 107
abbrev T_func_int_int_int64 : Nat := 108
abbrev T_func_sl_sl_int_int_sl_int_bool : Nat := 109
abbrev T_sl_sl_int : Nat := 110
abbrev T_struct_raw_api_Raw_out_sl_sl_int_in_sl_sl_int : Nat := 111
abbrev T_net_Net : Nat := 112
abbrev T_func_sl_int_sl_int : Nat := 113
abbrev T_func_int64_int64_func_int64_int64 : Nat := 114
abbrev T_func_int64_bool : Nat := 115
abbrev T_func_sl_api_Arc_int_api_Arc_bool : Nat := 116
abbrev T_func_api_Arc_bool_bool : Nat := 117
abbrev T_graph_trouble : Nat := 118
abbrev T_graph_trouble_bool : Nat := 119
abbrev T_func_api_Raw_v2 : Nat := 120
abbrev T_func_error_interface_bool : Nat := 121
abbrev T_p_p_api_Fault : Nat := 122
abbrev T_p_api_Errno : Nat := 123
abbrev T_func_func_api_Arc_int_sl_sl_int : Nat := 124
abbrev T_func_sl_int64_sl_int64 : Nat := 125
abbrev T_func_sl_api_Arc_sl_api_Arc : Nat := 126
abbrev T_sl_heap_held : Nat := 127
abbrev T_struct_l_sl_heap_held_at_map_int_int : Nat := 128
abbrev T_heap_row : Nat := 129
abbrev T_struct_heap_row_n_int : Nat := 130
abbrev T_heap_Heap : Nat := 131
abbrev T_uint : Nat := 132
abbrev T_uint_uint : Nat := 133
abbrev T_func_uint_uint_uint_uint : Nat := 134
abbrev T_struct_id_int_key_int64 : Nat := 135
abbrev T_heap_held : Nat := 136
abbrev T_func_int_v2 : Nat := 137
abbrev T_func_int_int_v2 : Nat := 138
abbrev T_func_int_api_Arc_bool_v2 : Nat := 139
abbrev T_func_int_int64_bool_v2 : Nat := 140
abbrev T_func_func_graph_place_bool : Nat := 141
abbrev T_iter_Seq_graph_place : Nat := 142
abbrev T_func_api_Errno_int_int_int_iter_Seq_graph_place : Nat := 143
abbrev T_func_iter_Seq_graph_place : Nat := 144
abbrev T_func_api_Raw_iter_Seq_graph_place : Nat := 145
abbrev T_sl_func_iter_Seq_graph_place : Nat := 146
abbrev T_struct_index_int_field_int_code_api_Errno_n_int64_least_int64_end_int64 : Nat := 147
abbrev T_graph_place : Nat := 148
abbrev T_unsafe_Pointer : Nat := 149
abbrev T_reflectlite_flag : Nat := 150
abbrev T_struct_typ_p_abi_Type_ptr_unsafe_Pointer_reflectlite_flag : Nat := 151
abbrev T_reflectlite_Value : Nat := 152
abbrev T_func_interface_reflectlite_Value : Nat := 153
abbrev T_interface_AssignableTo_reflectlite_Type_bool_Comparable_bool_Elem_reflectlite_Type_Implements_reflectlite_Type_bool_Kind_abi_Kind_Name_string_PkgPath_string_Size_uintptr_String_string_reflectlite_common_p_abi_Type_reflectlite_uncommon_p_abi_UncommonType : Nat := 154
abbrev T_reflectlite_Type : Nat := 155
abbrev T_func_reflectlite_Type : Nat := 156
abbrev T_abi_Kind : Nat := 157
abbrev T_func_abi_Kind : Nat := 158
abbrev T_func_reflectlite_Type_bool : Nat := 159
abbrev T_func_error_interface_reflectlite_Value_reflectlite_Type_bool : Nat := 160
abbrev T_uint32 : Nat := 161
abbrev T_uint32_uint32 : Nat := 162
abbrev T_func_uint32_uint32_uint32_uint32 : Nat := 163
abbrev T_uint64 : Nat := 164
abbrev T_uint64_uint64 : Nat := 165
abbrev T_func_uint64_uint64_uint64_uint64 : Nat := 166
abbrev T_p_heap_row : Nat := 167
abbrev T_func_int_int_bool : Nat := 168
abbrev T_func_int_iter_Seq_int : Nat := 169
abbrev T_func_sl_graph_place_iter_Seq_graph_place : Nat := 170
abbrev T_sl_graph_place : Nat := 171
abbrev T_func_graph_place_bool : Nat := 172
abbrev T_struct_p_abi_Type : Nat := 173
abbrev T_reflectlite_rtype : Nat := 174
abbrev T_p_reflectlite_ValueError : Nat := 175
abbrev T_func_interface_reflectlite_Type : Nat := 176
abbrev T_func_reflectlite_Value : Nat := 177
abbrev T_func_reflectlite_Value_v2 : Nat := 178
abbrev T_interface_As_interface_bool : Nat := 179
abbrev T_interface_As_interface_bool_bool : Nat := 180
abbrev T_func_interface_bool : Nat := 181
abbrev T_interface_Unwrap_error : Nat := 182
abbrev T_func_error : Nat := 183
abbrev T_interface_Unwrap_sl_error : Nat := 184
abbrev T_sl_error : Nat := 185
abbrev T_func_sl_error : Nat := 186
abbrev T_func_int_int_v3 : Nat := 187
abbrev T_func_int64_int64_int : Nat := 188
abbrev T_func_int_int_int : Nat := 189
abbrev T_func_string : Nat := 190
abbrev T_struct_interface_p_abi_Type_concrete_p_abi_Type_asserted_p_abi_Type_missingMethod_string : Nat := 191
abbrev T_runtime_TypeAssertionError : Nat := 192
abbrev T_0_p_runtime_PanicNilError : Nat := 193
abbrev T_struct_0_p_runtime_PanicNilError : Nat := 194
abbrev T_runtime_PanicNilError : Nat := 195
abbrev T_func_p_abi_Type : Nat := 196
abbrev T_abi_TFlag : Nat := 197
abbrev T_func_unsafe_Pointer_unsafe_Pointer_bool : Nat := 198
abbrev T_p_uint8 : Nat := 199
abbrev T_abi_NameOff : Nat := 200
abbrev T_abi_TypeOff : Nat := 201
abbrev T_struct_Size_uintptr_PtrBytes_uintptr_Hash_uint32_TFlag_abi_TFlag_Align_uint8_FieldAlign_uint8_Kind_abi_Kind_Equal_func_unsafe_Pointer_unsafe_Pointer_bool_GCData_p_uint8_Str_abi_NameOff_PtrToThis_abi_TypeOff : Nat := 202
abbrev T_abi_Type : Nat := 203
abbrev T_func_uintptr : Nat := 204
abbrev T_func_p_abi_UncommonType : Nat := 205
abbrev T_struct_Method_string_Kind_abi_Kind : Nat := 206
abbrev T_reflectlite_ValueError : Nat := 207
abbrev T_p_abi_UncommonType : Nat := 208
abbrev T_func_sl_abi_Method : Nat := 209
abbrev T_uint16 : Nat := 210
abbrev T_struct_PkgPath_abi_NameOff_Mcount_uint16_Xcount_uint16_Moff_uint32_uint32 : Nat := 211
abbrev T_abi_UncommonType : Nat := 212
abbrev T_sl_abi_Method : Nat := 213
abbrev T_abi_TextOff : Nat := 214
abbrev T_struct_Name_abi_NameOff_Mtyp_abi_TypeOff_Ifn_abi_TextOff_Tfn_abi_TextOff : Nat := 215
abbrev T_abi_Method : Nat := 216
abbrev T_p_error : Nat := 217
abbrev G_errors_errorType : Nat := 0
end Go.Proofs.YtlkcpceobicoiaaGreatDoor

namespace Go.Proofs.YtlkcpceobicoiaaGreatDoor
open Go Go.Mh
set_option maxHeartbeats 0
set_option linter.unusedVariables false

/-! milestone/milestonelaw24.TightLeast -/

def sh_milestonelaw24_TightLeast_k1 (P : Program) (K : Value → Heap → Prop) (h_10 : Heap) : Prop :=
  K (.bool false) h_10

def sh_milestonelaw24_TightLeast_C3 (P : Program) (K : Value → Heap → Prop) (i10 : Value) (Z : Value → Heap → Prop) (t84_2 : Value) (h_15 : Heap) : Prop :=
  ifV t84_2
  (K (.bool false) h_15)
  (pBin .add i10 (.int .i64 1) fun t53 =>
  Z t53 h_15)

def sh_milestonelaw24_TightLeast_k5 (P : Program) (s13 : Value) (Z_1 : Value → Heap → Prop) (h_17 : Heap) : Prop :=
  pBin .add s13 (.int .i64 1) fun t90 =>
  Z_1 t90 h_17

def sh_milestonelaw24_TightLeast_L4 (P : Program) (g5 x8 t32 : Value) (K : Value → Heap → Prop) (s13 : Value) (h_16 : Heap) (Z_1 : Value → Heap → Prop) : Prop :=
  pField 0 g5 fun t86 =>
  pLoad h_16 t86 fun t87 =>
  pBin .lss s13 t87 fun t88 =>
  ifV t88
  (pField 1 x8 fun t91 =>
  pLoad h_16 t91 fun t92 =>
  pIdx 1 t92 s13 fun t94 =>
  pLoad h_16 t94 fun t95 =>
  pBin .geq t95 (.int .i64 0) fun t96 =>
  ifV t96
  (pField 1 x8 fun t99 =>
  pLoad h_16 t99 fun t100 =>
  pIdx 1 t100 s13 fun t102 =>
  pLoad h_16 t102 fun t103 =>
  pIdx 1 t32 t103 fun t104 =>
  pLoad h_16 t104 fun t105 =>
  pUn .not t105 fun t106 =>
  ifV t106
  (K (.bool false) h_16)
  (sh_milestonelaw24_TightLeast_k5 P s13 Z_1 h_16))
  (sh_milestonelaw24_TightLeast_k5 P s13 Z_1 h_16))
  (K (.bool true) h_16)

def sh_milestonelaw24_TightLeast_L2 (P : Program) (g5 x8 t32 : Value) (K : Value → Heap → Prop) (i10 : Value) (h_11 : Heap) (Z : Value → Heap → Prop) : Prop :=
  pField 3 g5 fun t48 =>
  pLoad h_11 t48 fun t49 =>
  pLen t49 fun t50 =>
  pBin .lss i10 t50 fun t51 =>
  ifV t51
  (pField 3 g5 fun t54 =>
  pLoad h_11 t54 fun t55 =>
  pIdx 3 t55 i10 fun t57 =>
  pLoadN 3 h_11 t57 fun t58 =>
  pBox T_api_Arc (.agg #[(.int .i64 0), (.int .i64 0), (.int .i64 0)]) h_11 fun a11 h_12 =>
  pStore 3 a11 t58 h_12 fun u_2 h_13 =>
  pField 0 x8 fun t59 =>
  pLoad h_13 t59 fun t60 =>
  pField 1 a11 fun t61 =>
  pLoad h_13 t61 fun t62 =>
  pIdx 1 t60 t62 fun t63 =>
  pLoad h_13 t63 fun t64 =>
  pField 2 a11 fun t65 =>
  pLoad h_13 t65 fun t66 =>
  callS P F_dist_Add [t64, t66] h_13 fun t67 h_14 =>
  cutP (σ := Vals [84]) (fun J =>
  pIdx 1 t32 i10 fun t70 =>
  pLoad h_14 t70 fun t71 =>
  pBin .lss t67 (.int .i64 72057594037927936) fun t73 =>
  ifV t73
  (pField 0 x8 fun t76 =>
  pLoad h_14 t76 fun t77 =>
  pField 0 a11 fun t78 =>
  pLoad h_14 t78 fun t79 =>
  pIdx 1 t77 t79 fun t80 =>
  pLoad h_14 t80 fun t81 =>
  pBin .eql t67 t81 fun t82 =>
  pEq true .bool t71 t82 fun t84 =>
  J (t84, ()) h_14)
  (pEq true .bool t71 (.bool false) fun t84_1 =>
  J (t84_1, ()) h_14))
  (fun x hh => sh_milestonelaw24_TightLeast_C3 P K i10 Z x.1 hh))
  (LoopH (σ := Vals [13]) (fun x hh ZZ => sh_milestonelaw24_TightLeast_L4 P g5 x8 t32 K x.1 hh (fun a0 hz => ZZ (a0, ()) hz)) ((.int .i64 0), ()) h_11)

def sh_milestonelaw24_TightLeast (P : Program) (b0 v1 : Value) (h : Heap) (K : Value → Heap → Prop) : Prop :=
  callS P F_milestonelaw24_works [] h fun t14 h_1 =>
  pUn .not t14 fun t15 =>
  ifV t15
  (K (.bool false) h_1)
  (callS P F_milestonelaw24_drawn [b0] h_1 fun t17 h_2 =>
  pBox T_api_Raw (.agg #[(.int .i64 0), (.slice none 0 0), (.slice none 0 0), (.slice none 0 0)]) h_2 fun g5 h_3 =>
  pStore 4 g5 t17 h_3 fun u h_4 =>
  pLoadN 4 h_4 g5 fun t18 =>
  callS P F_milestonelaw24_made [t18] h_4 fun t19 h_5 =>
  pEq false .ptr t19 (.pointer none) fun t21 =>
  ifV t21
  (K (.bool false) h_5)
  (pConv .i64 v1 fun t23 =>
  pField 0 g5 fun t24 =>
  pLoad h_5 t24 fun t25 =>
  pBin .rem t23 t25 fun t26 =>
  callS P F_flood_To [t19, t26] h_5 fun t29 h_6 =>
  pBox T_flood_Tree (.agg #[(.slice none 0 0), (.slice none 0 0), (.slice none 0 0)]) h_6 fun x8 h_7 =>
  pStore 3 x8 t29 h_7 fun u_1 h_8 =>
  callS P F_tight_Arcs [t19, t26] h_8 fun t32 h_9 =>
  pLen t32 fun t34 =>
  pField 3 g5 fun t35 =>
  pLoad h_9 t35 fun t36 =>
  pLen t36 fun t37 =>
  pBin .neq t34 t37 fun t38 =>
  ifV t38
  (sh_milestonelaw24_TightLeast_k1 P K h_9)
  (pField 0 x8 fun t40 =>
  pLoad h_9 t40 fun t41 =>
  pLen t41 fun t42 =>
  pField 0 g5 fun t43 =>
  pLoad h_9 t43 fun t44 =>
  pBin .neq t42 t44 fun t45 =>
  ifV t45
  (sh_milestonelaw24_TightLeast_k1 P K h_9)
  (LoopH (σ := Vals [10]) (fun x hh ZZ => sh_milestonelaw24_TightLeast_L2 P g5 x8 t32 K x.1 hh (fun a0 hz => ZZ (a0, ()) hz)) ((.int .i64 0), ()) h_9))))

set_option maxRecDepth 100000 in
theorem lk_milestonelaw24_TightLeast (b0 v1 : Value) {h : Heap} {K : Value → Heap → Prop} (H : sh_milestonelaw24_TightLeast Tryz.prog b0 v1 h K) : CallsH Tryz.prog F_milestonelaw24_TightLeast [b0, v1].toArray h K :=
  callsH_of (ann := (annG (Tryz.f3.body.getD .skip) 0 [(17, [10]), (23, [84]), (27, [13])]).1) (c := Tryz.f3.body.getD .skip) Tryz.func3 (by kernel_rfl) (by kernel_rfl) (by kernel_rfl) (of_decide_eq_true (by kernel_rfl))
    (Eq.mpr (by kernel_rfl) H)

/-! milestone/milestonelaw24.TightAny -/

def sh_milestonelaw24_TightAny_k3 (P : Program) (k13 : Value) (Z_1 : Value → Heap → Prop) (h_13 : Heap) : Prop :=
  pBin .add k13 (.int .i64 1) fun t63 =>
  Z_1 t63 h_13

def sh_milestonelaw24_TightAny_L2 (P : Program) (t25 t52 t19 t46 : Value) (K : Value → Heap → Prop) (i11 : Value) (Z : Value → Value → Heap → Prop) (k13 : Value) (h_11 : Heap) (Z_1 : Value → Heap → Prop) : Prop :=
  pLen t25 fun t60 =>
  pBin .lss k13 t60 fun t61 =>
  ifV t61
  (pIdx 1 t25 k13 fun t68 =>
  pLoad h_11 t68 fun t69 =>
  ifV t69
  (pIdx 1 t25 k13 fun t76 =>
  pStore 1 t76 (.bool true) h_11 fun u_1 h_12 =>
  sh_milestonelaw24_TightAny_k3 P k13 Z_1 h_12)
  (pIdx 1 t52 k13 fun t73 =>
  pLoad h_11 t73 fun t74 =>
  pIdx 1 t25 k13 fun t76_1 =>
  pStore 1 t76_1 t74 h_11 fun u_2 h_14 =>
  sh_milestonelaw24_TightAny_k3 P k13 Z_1 h_14))
  (callS P F_tight_Any [t19, t46] h_11 fun t79 h_15 =>
  callS P F_milestonelaw24_truths [t79, t25] h_15 fun t81 h_16 =>
  pUn .not t81 fun t82 =>
  ifV t82
  (K (.bool false) h_16)
  (pBin .add i11 (.int .i64 1) fun t35 =>
  Z t46 t35 h_16))

def sh_milestonelaw24_TightAny_k5 (P : Program) (other2 l10 t19 t25 : Value) (K : Value → Heap → Prop) (h_18 : Heap) : Prop :=
  pBuildSlice T_int (zerosL [(.int .i64 0)] 1) [(0, 1, other2)] 1 h_18 fun t94 h_19 =>
  pAppend T_int 1 8 [(.int .i64 0)] l10 t94 h_19 fun t95 h_20 =>
  callS P F_tight_Any [t19, t95] h_20 fun t96 h_21 =>
  callS P F_milestonelaw24_truths [t96, t25] h_21 fun t98 h_22 =>
  K t98 h_22

def sh_milestonelaw24_TightAny_k4 (P : Program) (other2 l10 t19 t25 : Value) (K : Value → Heap → Prop) (g7 : Value) (h_17 : Heap) : Prop :=
  pBin .lss other2 (.int .i64 0) fun t84 =>
  ifV t84
  (sh_milestonelaw24_TightAny_k5 P other2 l10 t19 t25 K h_17)
  (pField 0 g7 fun t87 =>
  pLoad h_17 t87 fun t88 =>
  pBin .geq other2 t88 fun t89 =>
  ifV t89
  (sh_milestonelaw24_TightAny_k5 P other2 l10 t19 t25 K h_17)
  (K (.bool true) h_17))

def sh_milestonelaw24_TightAny_L1 (P : Program) (nodes1 g7 t19 t25 : Value) (K : Value → Heap → Prop) (other2 l10 i11 : Value) (h_7 : Heap) (Z : Value → Value → Heap → Prop) : Prop :=
  pLen nodes1 fun t28 =>
  pBin .lss i11 t28 fun t29 =>
  ifV t29
  (pBin .lss i11 (.int .i64 8) fun t32 =>
  ifV t32
  (pIdx 1 nodes1 i11 fun t39 =>
  pLoad h_7 t39 fun t40 =>
  pConv .i64 t40 fun t41 =>
  pField 0 g7 fun t42 =>
  pLoad h_7 t42 fun t43 =>
  pBin .rem t41 t43 fun t44 =>
  pBuildSlice T_int (zerosL [(.int .i64 0)] 1) [(0, 1, t44)] 1 h_7 fun t45 h_8 =>
  pAppend T_int 1 8 [(.int .i64 0)] l10 t45 h_8 fun t46 h_9 =>
  pIdx 1 t46 i11 fun t50 =>
  pLoad h_9 t50 fun t51 =>
  callS P F_tight_Arcs [t19, t51] h_9 fun t52 h_10 =>
  pLen t52 fun t54 =>
  pLen t25 fun t56 =>
  pBin .neq t54 t56 fun t57 =>
  ifV t57
  (K (.bool false) h_10)
  (LoopH (σ := Vals [13]) (fun x hh ZZ => sh_milestonelaw24_TightAny_L2 P t25 t52 t19 t46 K i11 Z x.1 hh (fun a0 hz => ZZ (a0, ()) hz)) ((.int .i64 0), ()) h_10))
  (sh_milestonelaw24_TightAny_k4 P other2 l10 t19 t25 K g7 h_7))
  (sh_milestonelaw24_TightAny_k4 P other2 l10 t19 t25 K g7 h_7)

def sh_milestonelaw24_TightAny (P : Program) (b0 nodes1 other2 : Value) (h : Heap) (K : Value → Heap → Prop) : Prop :=
  callS P F_milestonelaw24_works [] h fun t14 h_1 =>
  pUn .not t14 fun t15 =>
  ifV t15
  (K (.bool false) h_1)
  (callS P F_milestonelaw24_drawn [b0] h_1 fun t17 h_2 =>
  pBox T_api_Raw (.agg #[(.int .i64 0), (.slice none 0 0), (.slice none 0 0), (.slice none 0 0)]) h_2 fun g7 h_3 =>
  pStore 4 g7 t17 h_3 fun u h_4 =>
  pLoadN 4 h_4 g7 fun t18 =>
  callS P F_milestonelaw24_made [t18] h_4 fun t19 h_5 =>
  pEq false .ptr t19 (.pointer none) fun t21 =>
  ifV t21
  (K (.bool false) h_5)
  (pField 3 g7 fun t22 =>
  pLoad h_5 t22 fun t23 =>
  pLen t23 fun t24 =>
  pMakeSlice T_bool 1 [(.bool false)] t24 t24 h_5 fun t25 h_6 =>
  LoopH (σ := Vals [10, 11]) (fun x hh ZZ => sh_milestonelaw24_TightAny_L1 P nodes1 g7 t19 t25 K other2 x.1 x.2.1 hh (fun a0 a1 hz => ZZ (a0, (a1, ())) hz)) ((.slice none 0 0), ((.int .i64 0), ())) h_6))

set_option maxRecDepth 100000 in
theorem lk_milestonelaw24_TightAny (b0 nodes1 other2 : Value) {h : Heap} {K : Value → Heap → Prop} (H : sh_milestonelaw24_TightAny Tryz.prog b0 nodes1 other2 h K) : CallsH Tryz.prog F_milestonelaw24_TightAny [b0, nodes1, other2].toArray h K :=
  callsH_of (ann := (annG (Tryz.f4.body.getD .skip) 0 [(13, [10, 11]), (24, [13])]).1) (c := Tryz.f4.body.getD .skip) Tryz.func4 (by kernel_rfl) (by kernel_rfl) (by kernel_rfl) (of_decide_eq_true (by kernel_rfl))
    (Eq.mpr (by kernel_rfl) H)

/-! milestone/milestonelaw24.TightKnown -/

def sh_milestonelaw24_TightKnown_C1 (P : Program) (K : Value → Heap → Prop) (t0 : Value) (h_63 : Heap) : Prop :=
  K t0 h_63

def sh_milestonelaw24_TightKnown (P : Program) (h : Heap) (K : Value → Heap → Prop) : Prop :=
  pBuildSlice T_int64 (zerosL [(.int .i64 0)] 3) [(0, 1, (.int .i64 0)), (1, 1, (.int .i64 0)), (2, 1, (.int .i64 0))] 3 h fun t14 h_1 =>
  pBuild [(.int .i64 0), (.int .i64 0), (.int .i64 0)] [(0, 1, (.int .i64 0)), (1, 1, (.int .i64 1))] fun t17 =>
  pBuild [(.int .i64 0), (.int .i64 0), (.int .i64 0)] [(0, 1, (.int .i64 1)), (1, 1, (.int .i64 0))] fun t18 =>
  pBuild [(.int .i64 0), (.int .i64 0), (.int .i64 0)] [(0, 1, (.int .i64 1)), (1, 1, (.int .i64 2)), (2, 1, (.int .i64 2147483647))] fun t19 =>
  pBuild [(.int .i64 0), (.int .i64 0), (.int .i64 0)] [(0, 1, (.int .i64 0)), (1, 1, (.int .i64 2)), (2, 1, (.int .i64 2147483647))] fun t20 =>
  pBuildSlice T_api_Arc (zerosL [(.int .i64 0), (.int .i64 0), (.int .i64 0)] 4) [(0, 3, t17), (3, 3, t18), (6, 3, t19), (9, 3, t20)] 4 h_1 fun t21 h_2 =>
  pBuild [(.int .i64 0), (.slice none 0 0), (.slice none 0 0), (.slice none 0 0)] [(0, 1, (.int .i64 3)), (1, 1, t14), (2, 1, t14), (3, 1, t21)] fun t22 =>
  callS P F_milestonelaw24_made [t22] h_2 fun t23 h_3 =>
  pEq false .ptr t23 (.pointer none) fun t25 =>
  ifV t25
  (K (.bool false) h_3)
  (pBuildSlice T_bool (zerosL [(.bool false)] 4) [(0, 1, (.bool true)), (1, 1, (.bool true)), (2, 1, (.bool true)), (3, 1, (.bool true))] 4 h_3 fun t26 h_4 =>
  callS P F_tight_Walk [t23, t26, (.int .i64 0), (.int .i64 2)] h_4 fun t30 h_5 =>
  pExt t30 0 fun t31 =>
  pExt t30 1 fun t32 =>
  callS P F_tight_Walk [t23, t26, (.int .i64 2), (.int .i64 2)] h_5 fun t36 h_6 =>
  pExt t36 0 fun t37 =>
  pExt t36 1 fun t38 =>
  callS P F_tight_Walk [t23, t26, (.int .i64 2), (.int .i64 0)] h_6 fun t42 h_7 =>
  pExt t42 0 fun t43 =>
  pExt t42 1 fun t44 =>
  callS P F_tight_Walk [(.pointer none), t26, (.int .i64 0), (.int .i64 0)] h_7 fun t47 h_8 =>
  pExt t47 0 fun t48 =>
  pExt t47 1 fun t49 =>
  pSlice 1 t26 none (some (.int .i64 2)) none fun t53 =>
  callS P F_tight_Walk [t23, t53, (.int .i64 0), (.int .i64 2)] h_8 fun t54 h_9 =>
  pExt t54 0 fun t55 =>
  pExt t54 1 fun t56 =>
  cutP (σ := Vals [0]) (fun J =>
  callS P F_milestonelaw24_works [] h_9 fun t57 h_10 =>
  ifV t57
  (callS P F_tight_Arcs [t23, (.int .i64 2)] h_10 fun t60 h_11 =>
  callS P F_milestonelaw24_truths [t60, t26] h_11 fun t62 h_12 =>
  ifV t62
  ((callS P F_tight_Arcs [t23, (.int .i64 0)] h_12 fun t66 h_13 =>
  pBuildSlice T_bool (zerosL [(.bool false)] 4) [(0, 1, (.bool true)), (1, 1, (.bool true)), (2, 1, (.bool false)), (3, 1, (.bool false))] 4 h_13 fun t67 h_14 =>
  callS P F_milestonelaw24_truths [t66, t67] h_14 fun t68 h_15 =>
  ifV t68
  ((callS P F_tight_Arcs [t23, (.int .i64 9)] h_15 fun t72 h_16 =>
  pMakeSlice T_bool 1 [(.bool false)] (.int .i64 4) (.int .i64 4) h_16 fun t73 h_17 =>
  callS P F_milestonelaw24_truths [t72, t73] h_17 fun t74 h_18 =>
  ifV t74
  (callS P F_tight_Arcs [(.pointer none), (.int .i64 0)] h_18 fun t77 h_19 =>
  pLen t77 fun t78 =>
  pBin .eql t78 (.int .i64 0) fun t79 =>
  ifV t79
  (callS P F_tight_Any [(.pointer none), (.slice none 0 0)] h_19 fun t82 h_20 =>
  pLen t82 fun t83 =>
  pBin .eql t83 (.int .i64 0) fun t84 =>
  ifV t84
  ((callS P F_tight_Any [t23, (.slice none 0 0)] h_20 fun t88 h_21 =>
  pMakeSlice T_bool 1 [(.bool false)] (.int .i64 4) (.int .i64 4) h_21 fun t89 h_22 =>
  callS P F_milestonelaw24_truths [t88, t89] h_22 fun t90 h_23 =>
  ifV t90
  (ifV t32
  (pLen t31 fun t97 =>
  pBin .gtr t97 (.int .i64 0) fun t98 =>
  ifV t98
  (ifV t38
  (pLen t37 fun t105 =>
  pBin .eql t105 (.int .i64 0) fun t106 =>
  ifV t106
  (pUn .not t44 fun t110 =>
  ifV t110
  (pUn .not t49 fun t114 =>
  ifV t114
  (pUn .not t56 fun t118 =>
  J (t118, ()) h_23)
  (J ((.bool false), ()) h_23))
  (J ((.bool false), ()) h_23))
  (J ((.bool false), ()) h_23))
  (J ((.bool false), ()) h_23))
  (J ((.bool false), ()) h_23))
  (J ((.bool false), ()) h_23))
  (J ((.bool false), ()) h_23)) ∧
  (pMakeSlice T_bool 1 [(.bool false)] (.int .i64 4) (.int .i64 4) h_20 fun t89_1 h_24 =>
  callS P F_tight_Any [t23, (.slice none 0 0)] h_24 fun t88_1 h_25 =>
  callS P F_milestonelaw24_truths [t88_1, t89_1] h_25 fun t90_1 h_26 =>
  ifV t90_1
  (ifV t32
  (pLen t31 fun t97_1 =>
  pBin .gtr t97_1 (.int .i64 0) fun t98_1 =>
  ifV t98_1
  (ifV t38
  (pLen t37 fun t105_1 =>
  pBin .eql t105_1 (.int .i64 0) fun t106_1 =>
  ifV t106_1
  (pUn .not t44 fun t110_1 =>
  ifV t110_1
  (pUn .not t49 fun t114_1 =>
  ifV t114_1
  (pUn .not t56 fun t118_1 =>
  J (t118_1, ()) h_26)
  (J ((.bool false), ()) h_26))
  (J ((.bool false), ()) h_26))
  (J ((.bool false), ()) h_26))
  (J ((.bool false), ()) h_26))
  (J ((.bool false), ()) h_26))
  (J ((.bool false), ()) h_26))
  (J ((.bool false), ()) h_26)))
  ((J ((.bool false), ()) h_20) ∧
  (J ((.bool false), ()) h_20)))
  ((J ((.bool false), ()) h_19) ∧
  (J ((.bool false), ()) h_19)))
  ((J ((.bool false), ()) h_18) ∧
  (J ((.bool false), ()) h_18))) ∧
  (pMakeSlice T_bool 1 [(.bool false)] (.int .i64 4) (.int .i64 4) h_15 fun t73_1 h_27 =>
  callS P F_tight_Arcs [t23, (.int .i64 9)] h_27 fun t72_1 h_28 =>
  callS P F_milestonelaw24_truths [t72_1, t73_1] h_28 fun t74_1 h_29 =>
  ifV t74_1
  (callS P F_tight_Arcs [(.pointer none), (.int .i64 0)] h_29 fun t77_1 h_30 =>
  pLen t77_1 fun t78_1 =>
  pBin .eql t78_1 (.int .i64 0) fun t79_1 =>
  ifV t79_1
  (callS P F_tight_Any [(.pointer none), (.slice none 0 0)] h_30 fun t82_1 h_31 =>
  pLen t82_1 fun t83_1 =>
  pBin .eql t83_1 (.int .i64 0) fun t84_1 =>
  ifV t84_1
  ((callS P F_tight_Any [t23, (.slice none 0 0)] h_31 fun t88_2 h_32 =>
  pMakeSlice T_bool 1 [(.bool false)] (.int .i64 4) (.int .i64 4) h_32 fun t89_2 h_33 =>
  callS P F_milestonelaw24_truths [t88_2, t89_2] h_33 fun t90_2 h_34 =>
  ifV t90_2
  (ifV t32
  (pLen t31 fun t97_2 =>
  pBin .gtr t97_2 (.int .i64 0) fun t98_2 =>
  ifV t98_2
  (ifV t38
  (pLen t37 fun t105_2 =>
  pBin .eql t105_2 (.int .i64 0) fun t106_2 =>
  ifV t106_2
  (pUn .not t44 fun t110_2 =>
  ifV t110_2
  (pUn .not t49 fun t114_2 =>
  ifV t114_2
  (pUn .not t56 fun t118_2 =>
  J (t118_2, ()) h_34)
  (J ((.bool false), ()) h_34))
  (J ((.bool false), ()) h_34))
  (J ((.bool false), ()) h_34))
  (J ((.bool false), ()) h_34))
  (J ((.bool false), ()) h_34))
  (J ((.bool false), ()) h_34))
  (J ((.bool false), ()) h_34)) ∧
  (pMakeSlice T_bool 1 [(.bool false)] (.int .i64 4) (.int .i64 4) h_31 fun t89_3 h_35 =>
  callS P F_tight_Any [t23, (.slice none 0 0)] h_35 fun t88_3 h_36 =>
  callS P F_milestonelaw24_truths [t88_3, t89_3] h_36 fun t90_3 h_37 =>
  ifV t90_3
  (ifV t32
  (pLen t31 fun t97_3 =>
  pBin .gtr t97_3 (.int .i64 0) fun t98_3 =>
  ifV t98_3
  (ifV t38
  (pLen t37 fun t105_3 =>
  pBin .eql t105_3 (.int .i64 0) fun t106_3 =>
  ifV t106_3
  (pUn .not t44 fun t110_3 =>
  ifV t110_3
  (pUn .not t49 fun t114_3 =>
  ifV t114_3
  (pUn .not t56 fun t118_3 =>
  J (t118_3, ()) h_37)
  (J ((.bool false), ()) h_37))
  (J ((.bool false), ()) h_37))
  (J ((.bool false), ()) h_37))
  (J ((.bool false), ()) h_37))
  (J ((.bool false), ()) h_37))
  (J ((.bool false), ()) h_37))
  (J ((.bool false), ()) h_37)))
  ((J ((.bool false), ()) h_31) ∧
  (J ((.bool false), ()) h_31)))
  ((J ((.bool false), ()) h_30) ∧
  (J ((.bool false), ()) h_30)))
  ((J ((.bool false), ()) h_29) ∧
  (J ((.bool false), ()) h_29))))
  (((J ((.bool false), ()) h_15) ∧
  (J ((.bool false), ()) h_15)) ∧
  ((J ((.bool false), ()) h_15) ∧
  (J ((.bool false), ()) h_15)))) ∧
  (pBuildSlice T_bool (zerosL [(.bool false)] 4) [(0, 1, (.bool true)), (1, 1, (.bool true)), (2, 1, (.bool false)), (3, 1, (.bool false))] 4 h_12 fun t67_1 h_38 =>
  callS P F_tight_Arcs [t23, (.int .i64 0)] h_38 fun t66_1 h_39 =>
  callS P F_milestonelaw24_truths [t66_1, t67_1] h_39 fun t68_1 h_40 =>
  ifV t68_1
  ((callS P F_tight_Arcs [t23, (.int .i64 9)] h_40 fun t72_2 h_41 =>
  pMakeSlice T_bool 1 [(.bool false)] (.int .i64 4) (.int .i64 4) h_41 fun t73_2 h_42 =>
  callS P F_milestonelaw24_truths [t72_2, t73_2] h_42 fun t74_2 h_43 =>
  ifV t74_2
  (callS P F_tight_Arcs [(.pointer none), (.int .i64 0)] h_43 fun t77_2 h_44 =>
  pLen t77_2 fun t78_2 =>
  pBin .eql t78_2 (.int .i64 0) fun t79_2 =>
  ifV t79_2
  (callS P F_tight_Any [(.pointer none), (.slice none 0 0)] h_44 fun t82_2 h_45 =>
  pLen t82_2 fun t83_2 =>
  pBin .eql t83_2 (.int .i64 0) fun t84_2 =>
  ifV t84_2
  ((callS P F_tight_Any [t23, (.slice none 0 0)] h_45 fun t88_4 h_46 =>
  pMakeSlice T_bool 1 [(.bool false)] (.int .i64 4) (.int .i64 4) h_46 fun t89_4 h_47 =>
  callS P F_milestonelaw24_truths [t88_4, t89_4] h_47 fun t90_4 h_48 =>
  ifV t90_4
  (ifV t32
  (pLen t31 fun t97_4 =>
  pBin .gtr t97_4 (.int .i64 0) fun t98_4 =>
  ifV t98_4
  (ifV t38
  (pLen t37 fun t105_4 =>
  pBin .eql t105_4 (.int .i64 0) fun t106_4 =>
  ifV t106_4
  (pUn .not t44 fun t110_4 =>
  ifV t110_4
  (pUn .not t49 fun t114_4 =>
  ifV t114_4
  (pUn .not t56 fun t118_4 =>
  J (t118_4, ()) h_48)
  (J ((.bool false), ()) h_48))
  (J ((.bool false), ()) h_48))
  (J ((.bool false), ()) h_48))
  (J ((.bool false), ()) h_48))
  (J ((.bool false), ()) h_48))
  (J ((.bool false), ()) h_48))
  (J ((.bool false), ()) h_48)) ∧
  (pMakeSlice T_bool 1 [(.bool false)] (.int .i64 4) (.int .i64 4) h_45 fun t89_5 h_49 =>
  callS P F_tight_Any [t23, (.slice none 0 0)] h_49 fun t88_5 h_50 =>
  callS P F_milestonelaw24_truths [t88_5, t89_5] h_50 fun t90_5 h_51 =>
  ifV t90_5
  (ifV t32
  (pLen t31 fun t97_5 =>
  pBin .gtr t97_5 (.int .i64 0) fun t98_5 =>
  ifV t98_5
  (ifV t38
  (pLen t37 fun t105_5 =>
  pBin .eql t105_5 (.int .i64 0) fun t106_5 =>
  ifV t106_5
  (pUn .not t44 fun t110_5 =>
  ifV t110_5
  (pUn .not t49 fun t114_5 =>
  ifV t114_5
  (pUn .not t56 fun t118_5 =>
  J (t118_5, ()) h_51)
  (J ((.bool false), ()) h_51))
  (J ((.bool false), ()) h_51))
  (J ((.bool false), ()) h_51))
  (J ((.bool false), ()) h_51))
  (J ((.bool false), ()) h_51))
  (J ((.bool false), ()) h_51))
  (J ((.bool false), ()) h_51)))
  ((J ((.bool false), ()) h_45) ∧
  (J ((.bool false), ()) h_45)))
  ((J ((.bool false), ()) h_44) ∧
  (J ((.bool false), ()) h_44)))
  ((J ((.bool false), ()) h_43) ∧
  (J ((.bool false), ()) h_43))) ∧
  (pMakeSlice T_bool 1 [(.bool false)] (.int .i64 4) (.int .i64 4) h_40 fun t73_3 h_52 =>
  callS P F_tight_Arcs [t23, (.int .i64 9)] h_52 fun t72_3 h_53 =>
  callS P F_milestonelaw24_truths [t72_3, t73_3] h_53 fun t74_3 h_54 =>
  ifV t74_3
  (callS P F_tight_Arcs [(.pointer none), (.int .i64 0)] h_54 fun t77_3 h_55 =>
  pLen t77_3 fun t78_3 =>
  pBin .eql t78_3 (.int .i64 0) fun t79_3 =>
  ifV t79_3
  (callS P F_tight_Any [(.pointer none), (.slice none 0 0)] h_55 fun t82_3 h_56 =>
  pLen t82_3 fun t83_3 =>
  pBin .eql t83_3 (.int .i64 0) fun t84_3 =>
  ifV t84_3
  ((callS P F_tight_Any [t23, (.slice none 0 0)] h_56 fun t88_6 h_57 =>
  pMakeSlice T_bool 1 [(.bool false)] (.int .i64 4) (.int .i64 4) h_57 fun t89_6 h_58 =>
  callS P F_milestonelaw24_truths [t88_6, t89_6] h_58 fun t90_6 h_59 =>
  ifV t90_6
  (ifV t32
  (pLen t31 fun t97_6 =>
  pBin .gtr t97_6 (.int .i64 0) fun t98_6 =>
  ifV t98_6
  (ifV t38
  (pLen t37 fun t105_6 =>
  pBin .eql t105_6 (.int .i64 0) fun t106_6 =>
  ifV t106_6
  (pUn .not t44 fun t110_6 =>
  ifV t110_6
  (pUn .not t49 fun t114_6 =>
  ifV t114_6
  (pUn .not t56 fun t118_6 =>
  J (t118_6, ()) h_59)
  (J ((.bool false), ()) h_59))
  (J ((.bool false), ()) h_59))
  (J ((.bool false), ()) h_59))
  (J ((.bool false), ()) h_59))
  (J ((.bool false), ()) h_59))
  (J ((.bool false), ()) h_59))
  (J ((.bool false), ()) h_59)) ∧
  (pMakeSlice T_bool 1 [(.bool false)] (.int .i64 4) (.int .i64 4) h_56 fun t89_7 h_60 =>
  callS P F_tight_Any [t23, (.slice none 0 0)] h_60 fun t88_7 h_61 =>
  callS P F_milestonelaw24_truths [t88_7, t89_7] h_61 fun t90_7 h_62 =>
  ifV t90_7
  (ifV t32
  (pLen t31 fun t97_7 =>
  pBin .gtr t97_7 (.int .i64 0) fun t98_7 =>
  ifV t98_7
  (ifV t38
  (pLen t37 fun t105_7 =>
  pBin .eql t105_7 (.int .i64 0) fun t106_7 =>
  ifV t106_7
  (pUn .not t44 fun t110_7 =>
  ifV t110_7
  (pUn .not t49 fun t114_7 =>
  ifV t114_7
  (pUn .not t56 fun t118_7 =>
  J (t118_7, ()) h_62)
  (J ((.bool false), ()) h_62))
  (J ((.bool false), ()) h_62))
  (J ((.bool false), ()) h_62))
  (J ((.bool false), ()) h_62))
  (J ((.bool false), ()) h_62))
  (J ((.bool false), ()) h_62))
  (J ((.bool false), ()) h_62)))
  ((J ((.bool false), ()) h_56) ∧
  (J ((.bool false), ()) h_56)))
  ((J ((.bool false), ()) h_55) ∧
  (J ((.bool false), ()) h_55)))
  ((J ((.bool false), ()) h_54) ∧
  (J ((.bool false), ()) h_54))))
  (((J ((.bool false), ()) h_40) ∧
  (J ((.bool false), ()) h_40)) ∧
  ((J ((.bool false), ()) h_40) ∧
  (J ((.bool false), ()) h_40)))))
  ((((J ((.bool false), ()) h_12) ∧
  (J ((.bool false), ()) h_12)) ∧
  ((J ((.bool false), ()) h_12) ∧
  (J ((.bool false), ()) h_12))) ∧
  (((J ((.bool false), ()) h_12) ∧
  (J ((.bool false), ()) h_12)) ∧
  ((J ((.bool false), ()) h_12) ∧
  (J ((.bool false), ()) h_12)))))
  ((((J ((.bool false), ()) h_10) ∧
  (J ((.bool false), ()) h_10)) ∧
  ((J ((.bool false), ()) h_10) ∧
  (J ((.bool false), ()) h_10))) ∧
  (((J ((.bool false), ()) h_10) ∧
  (J ((.bool false), ()) h_10)) ∧
  ((J ((.bool false), ()) h_10) ∧
  (J ((.bool false), ()) h_10)))))
  (fun x hh => sh_milestonelaw24_TightKnown_C1 P K x.1 hh))

set_option maxRecDepth 100000 in
theorem lk_milestonelaw24_TightKnown {h : Heap} {K : Value → Heap → Prop} (H : sh_milestonelaw24_TightKnown Tryz.prog h K) : CallsH Tryz.prog F_milestonelaw24_TightKnown [].toArray h K :=
  callsH_of (ann := (annG (Tryz.f5.body.getD .skip) 0 [(12, [0])]).1) (c := Tryz.f5.body.getD .skip) Tryz.func5 (by kernel_rfl) (by kernel_rfl) (by kernel_rfl) (of_decide_eq_true (by kernel_rfl))
    (Eq.mpr (by kernel_rfl) H)

/-! milestone/milestonelaw24.TightTells -/

def sh_milestonelaw24_TightTells_k5 (P : Program) (s12 : Value) (Z_2 : Value → Heap → Prop) (h_19 : Heap) : Prop :=
  pBin .add s12 (.int .i64 1) fun t78 =>
  Z_2 t78 h_19

def sh_milestonelaw24_TightTells_k6 (P : Program) (K : Value → Heap → Prop) (h_21 : Heap) : Prop :=
  K (.bool false) h_21

def sh_milestonelaw24_TightTells_k9 (P : Program) (K : Value → Heap → Prop) (h_24 : Heap) : Prop :=
  K (.bool false) h_24

def sh_milestonelaw24_TightTells_L8 (P : Program) (t85 t58 : Value) (K : Value → Heap → Prop) (s12 : Value) (Z_2 : Value → Heap → Prop) (k17 : Value) (h_23 : Heap) (Z_3 : Value → Heap → Prop) : Prop :=
  pLen t85 fun t121 =>
  pBin .lss k17 t121 fun t122 =>
  ifV t122
  (pIdx 1 t85 k17 fun t127 =>
  pLoad h_23 t127 fun t128 =>
  pLen t58 fun t130 =>
  pBin .geq t128 t130 fun t131 =>
  ifV t131
  (sh_milestonelaw24_TightTells_k9 P K h_23)
  (pIdx 1 t85 k17 fun t136 =>
  pLoad h_23 t136 fun t137 =>
  pIdx 1 t58 t137 fun t138 =>
  pLoad h_23 t138 fun t139 =>
  pUn .not t139 fun t140 =>
  ifV t140
  (sh_milestonelaw24_TightTells_k9 P K h_23)
  (pBin .add k17 (.int .i64 1) fun t124 =>
  Z_3 t124 h_23)))
  (sh_milestonelaw24_TightTells_k5 P s12 Z_2 h_23)

def sh_milestonelaw24_TightTells_k7 (P : Program) (t85 t58 : Value) (K : Value → Heap → Prop) (s12 : Value) (Z_2 : Value → Heap → Prop) (h_22 : Heap) : Prop :=
  LoopH (σ := Vals [17]) (fun x hh ZZ => sh_milestonelaw24_TightTells_L8 P t85 t58 K s12 Z_2 x.1 hh (fun a0 hz => ZZ (a0, ()) hz)) ((.int .i64 0), ()) h_22

def sh_milestonelaw24_TightTells_L4 (P : Program) (g7 t21 t58 v11 : Value) (K Z_1 : Value → Heap → Prop) (s12 : Value) (h_16 : Heap) (Z_2 : Value → Heap → Prop) : Prop :=
  pField 0 g7 fun t74 =>
  pLoad h_16 t74 fun t75 =>
  pBin .leq s12 t75 fun t76 =>
  ifV t76
  (callS P F_tight_Walk [t21, t58, s12, v11] h_16 fun t84 h_17 =>
  pExt t84 0 fun t85 =>
  pExt t84 1 fun t86 =>
  pLoadN 4 h_17 g7 fun t88 =>
  callS P F_milestoneref24_Reach [t88, t58, s12, v11] h_17 fun t92 h_18 =>
  pEq true .bool t86 t92 fun t93 =>
  ifV t93
  (K (.bool false) h_18)
  (pUn .not t86 fun t95 =>
  ifV t95
  (pLen t85 fun t97 =>
  pBin .gtr t97 (.int .i64 0) fun t98 =>
  ifV t98
  (K (.bool false) h_18)
  (sh_milestonelaw24_TightTells_k5 P s12 Z_2 h_18))
  (callS P F_walk_Check [t21, s12, v11, t85] h_18 fun t104 h_20 =>
  pExt t104 0 fun t105 =>
  pExt t104 1 fun t106 =>
  pUn .not t106 fun t108 =>
  ifV t108
  (sh_milestonelaw24_TightTells_k6 P K h_20)
  (pBin .eql s12 v11 fun t112 =>
  ifV t112
  (pLen t85 fun t115 =>
  pBin .gtr t115 (.int .i64 0) fun t116 =>
  ifV t116
  (sh_milestonelaw24_TightTells_k6 P K h_20)
  (sh_milestonelaw24_TightTells_k7 P t85 t58 K s12 Z_2 h_20))
  (sh_milestonelaw24_TightTells_k7 P t85 t58 K s12 Z_2 h_20)))))
  (pBin .add v11 (.int .i64 1) fun t64 =>
  Z_1 t64 h_16)

def sh_milestonelaw24_TightTells_L3 (P : Program) (g7 t21 : Value) (K : Value → Heap → Prop) (t58 v11 : Value) (h_12 : Heap) (Z_1 : Value → Heap → Prop) : Prop :=
  pField 0 g7 fun t60 =>
  pLoad h_12 t60 fun t61 =>
  pBin .leq v11 t61 fun t62 =>
  ifV t62
  (pLoadN 4 h_12 g7 fun t68 =>
  callS P F_tight_Arcs [t21, v11] h_12 fun t67 h_13 =>
  (pLoadN 4 h_13 g7 fun t68_1 =>
  t68_1 = t68) ∧
  (callS P F_milestoneref24_Arcs [t68, v11] h_13 fun t70 h_14 =>
  callS P F_milestonelaw24_truths [t67, t70] h_14 fun t71 h_15 =>
  pUn .not t71 fun t72 =>
  ifV t72
  (K (.bool false) h_15)
  (LoopH (σ := Vals [12]) (fun x hh ZZ => sh_milestonelaw24_TightTells_L4 P g7 t21 t58 v11 K Z_1 x.1 hh (fun a0 hz => ZZ (a0, ()) hz)) ((.int .i64 (-1)), ()) h_15)))
  (callS P F_milestonelaw24_works [] h_12 fun t142 h_25 =>
  K t142 h_25)

def sh_milestonelaw24_TightTells_k2 (P : Program) (g7 t21 l9 : Value) (K : Value → Heap → Prop) (marks2 : Value) (h_8 : Heap) : Prop :=
  pLoadN 4 h_8 g7 fun t46 =>
  callS P F_tight_Any [t21, l9] h_8 fun t45 h_9 =>
  (pLoadN 4 h_9 g7 fun t46_1 =>
  t46_1 = t46) ∧
  (callS P F_milestoneref24_Any [t46, l9] h_9 fun t48 h_10 =>
  callS P F_milestonelaw24_truths [t45, t48] h_10 fun t49 h_11 =>
  pUn .not t49 fun t50 =>
  ifV t50
  (K (.bool false) h_11)
  (pLen marks2 fun t53 =>
  pField 3 g7 fun t54 =>
  pLoad h_11 t54 fun t55 =>
  pLen t55 fun t56 =>
  pMin t53 t56 fun t57 =>
  pSlice 1 marks2 none (some t57) none fun t58 =>
  LoopH (σ := Vals [11]) (fun x hh ZZ => sh_milestonelaw24_TightTells_L3 P g7 t21 K t58 x.1 hh (fun a0 hz => ZZ (a0, ()) hz)) ((.int .i64 (-1)), ()) h_11))

def sh_milestonelaw24_TightTells_L1 (P : Program) (nodes1 g7 t21 : Value) (K : Value → Heap → Prop) (marks2 l9 i10 : Value) (h_5 : Heap) (Z : Value → Value → Heap → Prop) : Prop :=
  pLen nodes1 fun t26 =>
  pBin .lss i10 t26 fun t27 =>
  ifV t27
  (pBin .lss i10 (.int .i64 6) fun t30 =>
  ifV t30
  (pIdx 1 nodes1 i10 fun t37 =>
  pLoad h_5 t37 fun t38 =>
  pConv .i64 t38 fun t39 =>
  pBin .rem t39 (.int .i64 16) fun t40 =>
  pBuildSlice T_int (zerosL [(.int .i64 0)] 1) [(0, 1, t40)] 1 h_5 fun t41 h_6 =>
  pAppend T_int 1 8 [(.int .i64 0)] l9 t41 h_6 fun t42 h_7 =>
  pBin .add i10 (.int .i64 1) fun t33 =>
  Z t42 t33 h_7)
  (sh_milestonelaw24_TightTells_k2 P g7 t21 l9 K marks2 h_5))
  (sh_milestonelaw24_TightTells_k2 P g7 t21 l9 K marks2 h_5)

def sh_milestonelaw24_TightTells (P : Program) (b0 nodes1 marks2 : Value) (h : Heap) (K : Value → Heap → Prop) : Prop :=
  callS P F_milestonelaw24_drawn [b0] h fun t19 h_1 =>
  pBox T_api_Raw (.agg #[(.int .i64 0), (.slice none 0 0), (.slice none 0 0), (.slice none 0 0)]) h_1 fun g7 h_2 =>
  pStore 4 g7 t19 h_2 fun u h_3 =>
  pLoadN 4 h_3 g7 fun t20 =>
  callS P F_milestonelaw24_made [t20] h_3 fun t21 h_4 =>
  pEq false .ptr t21 (.pointer none) fun t23 =>
  ifV t23
  (K (.bool false) h_4)
  (LoopH (σ := Vals [9, 10]) (fun x hh ZZ => sh_milestonelaw24_TightTells_L1 P nodes1 g7 t21 K marks2 x.1 x.2.1 hh (fun a0 a1 hz => ZZ (a0, (a1, ())) hz)) ((.slice none 0 0), ((.int .i64 0), ())) h_4)

set_option maxRecDepth 100000 in
theorem lk_milestonelaw24_TightTells (b0 nodes1 marks2 : Value) {h : Heap} {K : Value → Heap → Prop} (H : sh_milestonelaw24_TightTells Tryz.prog b0 nodes1 marks2 h K) : CallsH Tryz.prog F_milestonelaw24_TightTells [b0, nodes1, marks2].toArray h K :=
  callsH_of (ann := (annG (Tryz.f6.body.getD .skip) 0 [(9, [9, 10]), (19, [11]), (27, [12]), (45, [17])]).1) (c := Tryz.f6.body.getD .skip) Tryz.func6 (by kernel_rfl) (by kernel_rfl) (by kernel_rfl) (of_decide_eq_true (by kernel_rfl))
    (Eq.mpr (by kernel_rfl) H)

/-! milestone/milestonelaw24.TightWalks -/

def sh_milestonelaw24_TightWalks_k1 (P : Program) (K : Value → Heap → Prop) (h_10 : Heap) : Prop :=
  K (.bool false) h_10

def sh_milestonelaw24_TightWalks_k3 (P : Program) (K : Value → Heap → Prop) (h_14 : Heap) : Prop :=
  K (.bool false) h_14

def sh_milestonelaw24_TightWalks_k4 (P : Program) (s10 : Value) (Z : Value → Heap → Prop) (h_15 : Heap) : Prop :=
  pBin .add s10 (.int .i64 1) fun t53 =>
  Z t53 h_15

def sh_milestonelaw24_TightWalks_L2 (P : Program) (g5 t20 t33 t27 x8 : Value) (K : Value → Heap → Prop) (s10 : Value) (h_11 : Heap) (Z : Value → Heap → Prop) : Prop :=
  pField 0 g5 fun t49 =>
  pLoad h_11 t49 fun t50 =>
  pBin .lss s10 t50 fun t51 =>
  ifV t51
  (callS P F_tight_Walk [t20, t33, s10, t27] h_11 fun t59 h_12 =>
  pExt t59 0 fun t60 =>
  pExt t59 1 fun t61 =>
  pField 0 x8 fun t63 =>
  pLoad h_12 t63 fun t64 =>
  pIdx 1 t64 s10 fun t66 =>
  pLoad h_12 t66 fun t67 =>
  pBin .lss t67 (.int .i64 72057594037927936) fun t68 =>
  pEq true .bool t61 t68 fun t69 =>
  ifV t69
  (K (.bool false) h_12)
  (callS P F_walk_Check [t20, s10, t27, t60] h_12 fun t75 h_13 =>
  pExt t75 0 fun t76 =>
  pExt t75 1 fun t77 =>
  ifV t61
  (pUn .not t77 fun t81 =>
  ifV t81
  (sh_milestonelaw24_TightWalks_k3 P K h_13)
  (pField 0 x8 fun t84 =>
  pLoad h_13 t84 fun t85 =>
  pIdx 1 t85 s10 fun t87 =>
  pLoad h_13 t87 fun t88 =>
  pBin .neq t76 t88 fun t89 =>
  ifV t89
  (sh_milestonelaw24_TightWalks_k3 P K h_13)
  (sh_milestonelaw24_TightWalks_k4 P s10 Z h_13)))
  (sh_milestonelaw24_TightWalks_k4 P s10 Z h_13)))
  (K (.bool true) h_11)

def sh_milestonelaw24_TightWalks (P : Program) (b0 v1 : Value) (h : Heap) (K : Value → Heap → Prop) : Prop :=
  callS P F_milestonelaw24_works [] h fun t15 h_1 =>
  pUn .not t15 fun t16 =>
  ifV t16
  (K (.bool false) h_1)
  (callS P F_milestonelaw24_drawn [b0] h_1 fun t18 h_2 =>
  pBox T_api_Raw (.agg #[(.int .i64 0), (.slice none 0 0), (.slice none 0 0), (.slice none 0 0)]) h_2 fun g5 h_3 =>
  pStore 4 g5 t18 h_3 fun u h_4 =>
  pLoadN 4 h_4 g5 fun t19 =>
  callS P F_milestonelaw24_made [t19] h_4 fun t20 h_5 =>
  pEq false .ptr t20 (.pointer none) fun t22 =>
  ifV t22
  (K (.bool false) h_5)
  (pConv .i64 v1 fun t24 =>
  pField 0 g5 fun t25 =>
  pLoad h_5 t25 fun t26 =>
  pBin .rem t24 t26 fun t27 =>
  callS P F_flood_To [t20, t27] h_5 fun t30 h_6 =>
  pBox T_flood_Tree (.agg #[(.slice none 0 0), (.slice none 0 0), (.slice none 0 0)]) h_6 fun x8 h_7 =>
  pStore 3 x8 t30 h_7 fun u_1 h_8 =>
  callS P F_tight_Arcs [t20, t27] h_8 fun t33 h_9 =>
  pLen t33 fun t35 =>
  pField 3 g5 fun t36 =>
  pLoad h_9 t36 fun t37 =>
  pLen t37 fun t38 =>
  pBin .neq t35 t38 fun t39 =>
  ifV t39
  (sh_milestonelaw24_TightWalks_k1 P K h_9)
  (pField 0 x8 fun t41 =>
  pLoad h_9 t41 fun t42 =>
  pLen t42 fun t43 =>
  pField 0 g5 fun t44 =>
  pLoad h_9 t44 fun t45 =>
  pBin .neq t43 t45 fun t46 =>
  ifV t46
  (sh_milestonelaw24_TightWalks_k1 P K h_9)
  (LoopH (σ := Vals [10]) (fun x hh ZZ => sh_milestonelaw24_TightWalks_L2 P g5 t20 t33 t27 x8 K x.1 hh (fun a0 hz => ZZ (a0, ()) hz)) ((.int .i64 0), ()) h_9))))

set_option maxRecDepth 100000 in
theorem lk_milestonelaw24_TightWalks (b0 v1 : Value) {h : Heap} {K : Value → Heap → Prop} (H : sh_milestonelaw24_TightWalks Tryz.prog b0 v1 h K) : CallsH Tryz.prog F_milestonelaw24_TightWalks [b0, v1].toArray h K :=
  callsH_of (ann := (annG (Tryz.f7.body.getD .skip) 0 [(17, [10])]).1) (c := Tryz.f7.body.getD .skip) Tryz.func7 (by kernel_rfl) (by kernel_rfl) (by kernel_rfl) (of_decide_eq_true (by kernel_rfl))
    (Eq.mpr (by kernel_rfl) H)

end Go.Proofs.YtlkcpceobicoiaaGreatDoor

namespace Go.Proofs.YtlkcpceobicoiaaGreatDoor
open Go Go.Mh
set_option maxHeartbeats 0
set_option linter.unusedVariables false

/-! milestone/milestonelaw24.works -/

def sh_milestonelaw24_works_C1 (P : Program) (K : Value → Heap → Prop) (t0 : Value) (h_37 : Heap) : Prop :=
  K t0 h_37

def sh_milestonelaw24_works (P : Program) (h : Heap) (K : Value → Heap → Prop) : Prop :=
  pBuildSlice T_int64 (zerosL [(.int .i64 0)] 4) [(0, 1, (.int .i64 0)), (1, 1, (.int .i64 0)), (2, 1, (.int .i64 0)), (3, 1, (.int .i64 0))] 4 h fun t4 h_1 =>
  pBuild [(.int .i64 0), (.int .i64 0), (.int .i64 0)] [(0, 1, (.int .i64 0)), (1, 1, (.int .i64 1)), (2, 1, (.int .i64 1))] fun t7 =>
  pBuild [(.int .i64 0), (.int .i64 0), (.int .i64 0)] [(0, 1, (.int .i64 0)), (1, 1, (.int .i64 2)), (2, 1, (.int .i64 4))] fun t8 =>
  pBuild [(.int .i64 0), (.int .i64 0), (.int .i64 0)] [(0, 1, (.int .i64 1)), (1, 1, (.int .i64 2)), (2, 1, (.int .i64 3))] fun t9 =>
  pBuild [(.int .i64 0), (.int .i64 0), (.int .i64 0)] [(0, 1, (.int .i64 2)), (1, 1, (.int .i64 2))] fun t10 =>
  pBuild [(.int .i64 0), (.int .i64 0), (.int .i64 0)] [(0, 1, (.int .i64 3)), (1, 1, (.int .i64 0))] fun t11 =>
  pBuild [(.int .i64 0), (.int .i64 0), (.int .i64 0)] [(0, 1, (.int .i64 1)), (1, 1, (.int .i64 2)), (2, 1, (.int .i64 5))] fun t12 =>
  pBuildSlice T_api_Arc (zerosL [(.int .i64 0), (.int .i64 0), (.int .i64 0)] 6) [(0, 3, t7), (3, 3, t8), (6, 3, t9), (9, 3, t10), (12, 3, t11), (15, 3, t12)] 6 h_1 fun t13 h_2 =>
  pBuild [(.int .i64 0), (.slice none 0 0), (.slice none 0 0), (.slice none 0 0)] [(0, 1, (.int .i64 4)), (1, 1, t4), (2, 1, t4), (3, 1, t13)] fun t14 =>
  callS P F_milestonelaw24_made [t14] h_2 fun t15 h_3 =>
  pEq false .ptr t15 (.pointer none) fun t17 =>
  ifV t17
  (K (.bool false) h_3)
  (pBuildSlice T_bool (zerosL [(.bool false)] 6) [(0, 1, (.bool true)), (1, 1, (.bool true)), (2, 1, (.bool true)), (3, 1, (.bool true)), (4, 1, (.bool true)), (5, 1, (.bool false))] 6 h_3 fun t18 h_4 =>
  cutP (σ := Vals [0]) (fun J =>
  callS P F_tight_Arcs [t15, (.int .i64 2)] h_4 fun t20 h_5 =>
  callS P F_milestonelaw24_truths [t20, t18] h_5 fun t22 h_6 =>
  ifV t22
  ((callS P F_tight_Arcs [t15, (.int .i64 1)] h_6 fun t25 h_7 =>
  pBuildSlice T_bool (zerosL [(.bool false)] 6) [(0, 1, (.bool true)), (1, 1, (.bool false)), (2, 1, (.bool false)), (3, 1, (.bool false)), (4, 1, (.bool true)), (5, 1, (.bool false))] 6 h_7 fun t26 h_8 =>
  callS P F_milestonelaw24_truths [t25, t26] h_8 fun t27 h_9 =>
  ifV t27
  ((callS P F_tight_Arcs [t15, (.int .i64 3)] h_9 fun t31 h_10 =>
  pMakeSlice T_bool 1 [(.bool false)] (.int .i64 6) (.int .i64 6) h_10 fun t32 h_11 =>
  callS P F_milestonelaw24_truths [t31, t32] h_11 fun t33 h_12 =>
  ifV t33
  (pBuildSlice T_int (zerosL [(.int .i64 0)] 2) [(0, 1, (.int .i64 1)), (1, 1, (.int .i64 2))] 2 h_12 fun t37 h_13 =>
  callS P F_tight_Any [t15, t37] h_13 fun t38 h_14 =>
  callS P F_milestonelaw24_truths [t38, t18] h_14 fun t40 h_15 =>
  J (t40, ()) h_15)
  (J ((.bool false), ()) h_12)) ∧
  (pMakeSlice T_bool 1 [(.bool false)] (.int .i64 6) (.int .i64 6) h_9 fun t32_1 h_16 =>
  callS P F_tight_Arcs [t15, (.int .i64 3)] h_16 fun t31_1 h_17 =>
  callS P F_milestonelaw24_truths [t31_1, t32_1] h_17 fun t33_1 h_18 =>
  ifV t33_1
  (pBuildSlice T_int (zerosL [(.int .i64 0)] 2) [(0, 1, (.int .i64 1)), (1, 1, (.int .i64 2))] 2 h_18 fun t37_1 h_19 =>
  callS P F_tight_Any [t15, t37_1] h_19 fun t38_1 h_20 =>
  callS P F_milestonelaw24_truths [t38_1, t18] h_20 fun t40_1 h_21 =>
  J (t40_1, ()) h_21)
  (J ((.bool false), ()) h_18)))
  ((J ((.bool false), ()) h_9) ∧
  (J ((.bool false), ()) h_9))) ∧
  (pBuildSlice T_bool (zerosL [(.bool false)] 6) [(0, 1, (.bool true)), (1, 1, (.bool false)), (2, 1, (.bool false)), (3, 1, (.bool false)), (4, 1, (.bool true)), (5, 1, (.bool false))] 6 h_6 fun t26_1 h_22 =>
  callS P F_tight_Arcs [t15, (.int .i64 1)] h_22 fun t25_1 h_23 =>
  callS P F_milestonelaw24_truths [t25_1, t26_1] h_23 fun t27_1 h_24 =>
  ifV t27_1
  ((callS P F_tight_Arcs [t15, (.int .i64 3)] h_24 fun t31_2 h_25 =>
  pMakeSlice T_bool 1 [(.bool false)] (.int .i64 6) (.int .i64 6) h_25 fun t32_2 h_26 =>
  callS P F_milestonelaw24_truths [t31_2, t32_2] h_26 fun t33_2 h_27 =>
  ifV t33_2
  (pBuildSlice T_int (zerosL [(.int .i64 0)] 2) [(0, 1, (.int .i64 1)), (1, 1, (.int .i64 2))] 2 h_27 fun t37_2 h_28 =>
  callS P F_tight_Any [t15, t37_2] h_28 fun t38_2 h_29 =>
  callS P F_milestonelaw24_truths [t38_2, t18] h_29 fun t40_2 h_30 =>
  J (t40_2, ()) h_30)
  (J ((.bool false), ()) h_27)) ∧
  (pMakeSlice T_bool 1 [(.bool false)] (.int .i64 6) (.int .i64 6) h_24 fun t32_3 h_31 =>
  callS P F_tight_Arcs [t15, (.int .i64 3)] h_31 fun t31_3 h_32 =>
  callS P F_milestonelaw24_truths [t31_3, t32_3] h_32 fun t33_3 h_33 =>
  ifV t33_3
  (pBuildSlice T_int (zerosL [(.int .i64 0)] 2) [(0, 1, (.int .i64 1)), (1, 1, (.int .i64 2))] 2 h_33 fun t37_3 h_34 =>
  callS P F_tight_Any [t15, t37_3] h_34 fun t38_3 h_35 =>
  callS P F_milestonelaw24_truths [t38_3, t18] h_35 fun t40_3 h_36 =>
  J (t40_3, ()) h_36)
  (J ((.bool false), ()) h_33)))
  ((J ((.bool false), ()) h_24) ∧
  (J ((.bool false), ()) h_24))))
  (((J ((.bool false), ()) h_6) ∧
  (J ((.bool false), ()) h_6)) ∧
  ((J ((.bool false), ()) h_6) ∧
  (J ((.bool false), ()) h_6))))
  (fun x hh => sh_milestonelaw24_works_C1 P K x.1 hh))

set_option maxRecDepth 100000 in
theorem lk_milestonelaw24_works {h : Heap} {K : Value → Heap → Prop} (H : sh_milestonelaw24_works Tryz.prog h K) : CallsH Tryz.prog F_milestonelaw24_works [].toArray h K :=
  callsH_of (ann := (annG (Tryz.f8.body.getD .skip) 0 [(7, [0])]).1) (c := Tryz.f8.body.getD .skip) Tryz.func8 (by kernel_rfl) (by kernel_rfl) (by kernel_rfl) (of_decide_eq_true (by kernel_rfl))
    (Eq.mpr (by kernel_rfl) H)

/-! milestone/milestonelaw24.drawn -/

def sh_milestonelaw24_drawn (P : Program) (b0 : Value) (h : Heap) (K : Value → Heap → Prop) : Prop :=
  pBox T_api_Raw (.agg #[(.int .i64 0), (.slice none 0 0), (.slice none 0 0), (.slice none 0 0)]) h fun t2 h_1 =>
  pLen b0 fun t6 =>
  pMin t6 (.int .i64 80) fun t7 =>
  pSlice 1 b0 none (some t7) none fun t8 =>
  pBuild [(.slice none 0 0), (.int .i64 0)] [(0, 1, t8)] fun t9 =>
  pBox T_milestoneref07_Draft t9 h_1 fun t10 h_2 =>
  callS P F_milestoneref07_Draft_Raw [t10] h_2 fun t12 h_3 =>
  pStore 4 t2 t12 h_3 fun u h_4 =>
  pLoadN 4 h_4 t2 fun res =>
  K res h_4

set_option maxRecDepth 100000 in
theorem lk_milestonelaw24_drawn (b0 : Value) {h : Heap} {K : Value → Heap → Prop} (H : sh_milestonelaw24_drawn Tryz.prog b0 h K) : CallsH Tryz.prog F_milestonelaw24_drawn [b0].toArray h K :=
  callsH_of (ann := (annG (Tryz.f9.body.getD .skip) 0 []).1) (c := Tryz.f9.body.getD .skip) Tryz.func9 (by kernel_rfl) (by kernel_rfl) (by kernel_rfl) (of_decide_eq_true (by kernel_rfl))
    (Eq.mpr (by kernel_rfl) H)

/-! milestone/milestonelaw24.made -/

def sh_milestonelaw24_made (P : Program) (g0 : Value) (h : Heap) (K : Value → Heap → Prop) : Prop :=
  pBox T_api_Raw g0 h fun g1 h_1 =>
  pLoadN 4 h_1 g1 fun t6 =>
  callS P F_net_New [t6] h_1 fun t7 h_2 =>
  pExt t7 0 fun t8 =>
  pExt t7 1 fun t9 =>
  pEq true .iface t9 .nilIface fun t11 =>
  ifV t11
  (K (.pointer none) h_2)
  (K t8 h_2)

set_option maxRecDepth 100000 in
theorem lk_milestonelaw24_made (g0 : Value) {h : Heap} {K : Value → Heap → Prop} (H : sh_milestonelaw24_made Tryz.prog g0 h K) : CallsH Tryz.prog F_milestonelaw24_made [g0].toArray h K :=
  callsH_of (ann := (annG (Tryz.f10.body.getD .skip) 0 []).1) (c := Tryz.f10.body.getD .skip) Tryz.func10 (by kernel_rfl) (by kernel_rfl) (by kernel_rfl) (of_decide_eq_true (by kernel_rfl))
    (Eq.mpr (by kernel_rfl) H)

/-! milestone/flood.To -/

def sh_flood_To (P : Program) (n0 t1 : Value) (h : Heap) (K : Value → Heap → Prop) : Prop :=
  pBox T_flood_Tree (.agg #[(.slice none 0 0), (.slice none 0 0), (.slice none 0 0)]) h fun t4 h_1 =>
  callS P F_flood_flood [n0, t1, (.func (.func F_net_Net_In) #[n0] #[]), (.func (.func F_flood_To_1) #[] #[])] h_1 fun t9 h_2 =>
  pStore 3 t4 t9 h_2 fun u h_3 =>
  pLoadN 3 h_3 t4 fun res =>
  K res h_3

set_option maxRecDepth 100000 in
theorem lk_flood_To (n0 t1 : Value) {h : Heap} {K : Value → Heap → Prop} (H : sh_flood_To Tryz.prog n0 t1 h K) : CallsH Tryz.prog F_flood_To [n0, t1].toArray h K :=
  callsH_of (ann := (annG (Tryz.f11.body.getD .skip) 0 []).1) (c := Tryz.f11.body.getD .skip) Tryz.func11 (by kernel_rfl) (by kernel_rfl) (by kernel_rfl) (of_decide_eq_true (by kernel_rfl))
    (Eq.mpr (by kernel_rfl) H)

/-! milestone/tight.Arcs -/

def sh_tight_Arcs (P : Program) (n0 b1 : Value) (h : Heap) (K : Value → Heap → Prop) : Prop :=
  pBuildSlice T_int (zerosL [(.int .i64 0)] 1) [(0, 1, b1)] 1 h fun t7 h_1 =>
  callS P F_tight_Any [n0, t7] h_1 fun t8 h_2 =>
  K t8 h_2

set_option maxRecDepth 100000 in
theorem lk_tight_Arcs (n0 b1 : Value) {h : Heap} {K : Value → Heap → Prop} (H : sh_tight_Arcs Tryz.prog n0 b1 h K) : CallsH Tryz.prog F_tight_Arcs [n0, b1].toArray h K :=
  callsH_of (ann := (annG (Tryz.f12.body.getD .skip) 0 []).1) (c := Tryz.f12.body.getD .skip) Tryz.func12 (by kernel_rfl) (by kernel_rfl) (by kernel_rfl) (of_decide_eq_true (by kernel_rfl))
    (Eq.mpr (by kernel_rfl) H)

/-! milestone/dist.Add -/

def sh_dist_Add (P : Program) (a0 b1 : Value) (h : Heap) (K : Value → Heap → Prop) : Prop :=
  pBuildSlice T_int64 (zerosL [(.int .i64 0)] 2) [(0, 1, a0), (1, 1, b1)] 2 h fun t7 h_1 =>
  callS P F_dist_folded [(.func (.func F_dist_way) #[] #[]), t7] h_1 fun t8 h_2 =>
  K t8 h_2

set_option maxRecDepth 100000 in
theorem lk_dist_Add (a0 b1 : Value) {h : Heap} {K : Value → Heap → Prop} (H : sh_dist_Add Tryz.prog a0 b1 h K) : CallsH Tryz.prog F_dist_Add [a0, b1].toArray h K :=
  callsH_of (ann := (annG (Tryz.f13.body.getD .skip) 0 []).1) (c := Tryz.f13.body.getD .skip) Tryz.func13 (by kernel_rfl) (by kernel_rfl) (by kernel_rfl) (of_decide_eq_true (by kernel_rfl))
    (Eq.mpr (by kernel_rfl) H)

/-! milestone/milestonelaw24.truths -/

def sh_milestonelaw24_truths_L1 (P : Program) (a0 b1 : Value) (K : Value → Heap → Prop) (i5 : Value) (h_1 : Heap) (Z : Value → Heap → Prop) : Prop :=
  pLen a0 fun t13 =>
  pBin .lss i5 t13 fun t14 =>
  ifV t14
  (pIdx 1 a0 i5 fun t19 =>
  pLoad h_1 t19 fun t20 =>
  pIdx 1 b1 i5 fun t23 =>
  pLoad h_1 t23 fun t24 =>
  pEq true .bool t20 t24 fun t25 =>
  ifV t25
  (K (.bool false) h_1)
  (pBin .add i5 (.int .i64 1) fun t16 =>
  Z t16 h_1))
  (K (.bool true) h_1)

def sh_milestonelaw24_truths (P : Program) (a0 b1 : Value) (h : Heap) (K : Value → Heap → Prop) : Prop :=
  pLen a0 fun t7 =>
  pLen b1 fun t9 =>
  pBin .neq t7 t9 fun t10 =>
  ifV t10
  (K (.bool false) h)
  (LoopH (σ := Vals [5]) (fun x hh ZZ => sh_milestonelaw24_truths_L1 P a0 b1 K x.1 hh (fun a0 hz => ZZ (a0, ()) hz)) ((.int .i64 0), ()) h)

set_option maxRecDepth 100000 in
theorem lk_milestonelaw24_truths (a0 b1 : Value) {h : Heap} {K : Value → Heap → Prop} (H : sh_milestonelaw24_truths Tryz.prog a0 b1 h K) : CallsH Tryz.prog F_milestonelaw24_truths [a0, b1].toArray h K :=
  callsH_of (ann := (annG (Tryz.f14.body.getD .skip) 0 [(6, [5])]).1) (c := Tryz.f14.body.getD .skip) Tryz.func14 (by kernel_rfl) (by kernel_rfl) (by kernel_rfl) (of_decide_eq_true (by kernel_rfl))
    (Eq.mpr (by kernel_rfl) H)

/-! milestone/tight.Any -/

def sh_tight_Any_k2 (P : Program) (t15 : Value) (Z : Value → Value → Heap → Prop) (l5_1 : Value) (h_8 : Heap) : Prop :=
  pBin .add t15 (.int .i64 1) fun t30 =>
  Z l5_1 t30 h_8

def sh_tight_Any_L1 (P : Program) (t14 nodes1 n0 : Value) (K : Value → Heap → Prop) (l5 t15 : Value) (h_3 : Heap) (Z : Value → Value → Heap → Prop) : Prop :=
  pBin .lss t15 t14 fun t16 =>
  ifV t16
  (pIdx 1 nodes1 t15 fun t17 =>
  pLoad h_3 t17 fun t18 =>
  callS P F_tight_there [n0, t18] h_3 fun t21 h_4 =>
  ifV t21
  (pLen l5 fun t24 =>
  callS P F_tight_tells [n0, t18] h_4 fun t27 h_5 =>
  callS P F_tight_marked [t24, t27] h_5 fun t28 h_6 =>
  callS P F_tight_put_bool [l5, t28, (.bool true)] h_6 fun t29 h_7 =>
  sh_tight_Any_k2 P t15 Z t29 h_7)
  (sh_tight_Any_k2 P t15 Z l5 h_4))
  (K l5 h_3)

def sh_tight_Any (P : Program) (n0 nodes1 : Value) (h : Heap) (K : Value → Heap → Prop) : Prop :=
  pEq false .ptr n0 (.pointer none) fun t9 =>
  ifV t9
  (K (.slice none 0 0) h)
  (callS P F_net_Net_Arcs [n0] h fun t11 h_1 =>
  pMakeSlice T_bool 1 [(.bool false)] t11 t11 h_1 fun t12 h_2 =>
  pLen nodes1 fun t14 =>
  LoopH (σ := Vals [5, 15]) (fun x hh ZZ => sh_tight_Any_L1 P t14 nodes1 n0 K x.1 x.2.1 hh (fun a0 a1 hz => ZZ (a0, (a1, ())) hz)) (t12, ((.int .i64 0), ())) h_2)

set_option maxRecDepth 100000 in
theorem lk_tight_Any (n0 nodes1 : Value) {h : Heap} {K : Value → Heap → Prop} (H : sh_tight_Any Tryz.prog n0 nodes1 h K) : CallsH Tryz.prog F_tight_Any [n0, nodes1].toArray h K :=
  callsH_of (ann := (annG (Tryz.f15.body.getD .skip) 0 [(7, [5, 15])]).1) (c := Tryz.f15.body.getD .skip) Tryz.func15 (by kernel_rfl) (by kernel_rfl) (by kernel_rfl) (of_decide_eq_true (by kernel_rfl))
    (Eq.mpr (by kernel_rfl) H)

/-! milestone/tight.Walk -/

def sh_tight_Walk_k1 (P : Program) (K : Value → Heap → Prop) (h_2 : Heap) : Prop :=
  K (.tuple #[(.slice none 0 0), (.bool false)]) h_2

def sh_tight_Walk_k4 (P : Program) (t47 : Value) (Z_1 : Value → Value → Heap → Prop) (todo11_2 : Value) (h_13 : Heap) : Prop :=
  pBin .add t47 (.int .i64 1) fun t87 =>
  Z_1 todo11_2 t87 h_13

def sh_tight_Walk_L3 (P : Program) (t46 t45 n0 t31 tight1 : Value) (Z : Value → Heap → Prop) (todo11_1 t47 : Value) (h_9 : Heap) (Z_1 : Value → Value → Heap → Prop) : Prop :=
  pBin .lss t47 t46 fun t48 =>
  ifV t48
  (pIdx 1 t45 t47 fun t49 =>
  pLoad h_9 t49 fun t50 =>
  callS P F_net_Net_Arc [n0, t50] h_9 fun t54 h_10 =>
  pExt t54 0 fun t55 =>
  pExt t54 1 fun t56 =>
  pBox T_api_Arc (.agg #[(.int .i64 0), (.int .i64 0), (.int .i64 0)]) h_10 fun a14 h_11 =>
  pStore 3 a14 t55 h_11 fun u_1 h_12 =>
  pField 1 a14 fun t59 =>
  pLoad h_12 t59 fun t60 =>
  pLook (.int .i64) (.int .i64 0) true h_12 t31 t60 fun t61 =>
  pExt t61 0 fun t62 =>
  pExt t61 1 fun t63 =>
  ifV t63
  (sh_tight_Walk_k4 P t47 Z_1 todo11_1 h_12)
  (pLen tight1 fun t68 =>
  pBin .geq t50 t68 fun t69 =>
  ifV t69
  (sh_tight_Walk_k4 P t47 Z_1 todo11_1 h_12)
  (pIdx 1 tight1 t50 fun t74 =>
  pLoad h_12 t74 fun t75 =>
  pUn .not t75 fun t76 =>
  ifV t76
  (sh_tight_Walk_k4 P t47 Z_1 todo11_1 h_12)
  (pField 1 a14 fun t79 =>
  pLoad h_12 t79 fun t80 =>
  pMapSet (.int .i64) t31 t80 t50 h_12 fun u_2 h_14 =>
  pField 1 a14 fun t83 =>
  pLoad h_14 t83 fun t84 =>
  pBuildSlice T_int (zerosL [(.int .i64 0)] 1) [(0, 1, t84)] 1 h_14 fun t85 h_15 =>
  pAppend T_int 1 8 [(.int .i64 0)] todo11_1 t85 h_15 fun t86 h_16 =>
  sh_tight_Walk_k4 P t47 Z_1 t86 h_16))))
  (pSlice 1 todo11_1 (some (.int .i64 1)) none none fun t40 =>
  Z t40 h_9)

def sh_tight_Walk_k6 (P : Program) (arcs8 : Value) (K : Value → Heap → Prop) (t93 : Value) (h_23 : Heap) : Prop :=
  callS P F_slices_Reverse_sl_int_int [arcs8] h_23 fun t114 h_24 =>
  K (.tuple #[arcs8, t93]) h_24

def sh_tight_Walk_L5 (P : Program) (t93 n0 t31 : Value) (K : Value → Heap → Prop) (arcs8 id18 : Value) (h_17 : Heap) (Z_2 : Value → Value → Heap → Prop) : Prop :=
  ifV t93
  (pBin .geq id18 (.int .i64 0) fun t97 =>
  ifV t97
  (pBuildSlice T_int (zerosL [(.int .i64 0)] 1) [(0, 1, id18)] 1 h_17 fun t101 h_18 =>
  pAppend T_int 1 8 [(.int .i64 0)] arcs8 t101 h_18 fun t102 h_19 =>
  callS P F_net_Net_Arc [n0, id18] h_19 fun t106 h_20 =>
  pExt t106 0 fun t107 =>
  pExt t106 1 fun t108 =>
  pBox T_api_Arc (.agg #[(.int .i64 0), (.int .i64 0), (.int .i64 0)]) h_20 fun a19 h_21 =>
  pStore 3 a19 t107 h_21 fun u_3 h_22 =>
  pField 0 a19 fun t110 =>
  pLoad h_22 t110 fun t111 =>
  pLook (.int .i64) (.int .i64 0) false h_22 t31 t111 fun t112 =>
  Z_2 t102 t112 h_22)
  (sh_tight_Walk_k6 P arcs8 K t93 h_17))
  (sh_tight_Walk_k6 P arcs8 K t93 h_17)

def sh_tight_Walk_L2 (P : Program) (n0 t31 tight1 b3 : Value) (K : Value → Heap → Prop) (todo11 : Value) (h_7 : Heap) (Z : Value → Heap → Prop) : Prop :=
  pLen todo11 fun t37 =>
  pBin .gtr t37 (.int .i64 0) fun t38 =>
  ifV t38
  (pIdx 1 todo11 (.int .i64 0) fun t43 =>
  pLoad h_7 t43 fun t44 =>
  callS P F_net_Net_Out [n0, t44] h_7 fun t45 h_8 =>
  pLen t45 fun t46 =>
  LoopH (σ := Vals [11, 47]) (fun x hh ZZ => sh_tight_Walk_L3 P t46 t45 n0 t31 tight1 Z x.1 x.2.1 hh (fun a0 a1 hz => ZZ (a0, (a1, ())) hz)) (todo11, ((.int .i64 0), ())) h_8)
  (pLook (.int .i64) (.int .i64 0) true h_7 t31 b3 fun t91 =>
  pExt t91 0 fun t92 =>
  pExt t91 1 fun t93 =>
  LoopH (σ := Vals [8, 18]) (fun x hh ZZ => sh_tight_Walk_L5 P t93 n0 t31 K x.1 x.2.1 hh (fun a0 a1 hz => ZZ (a0, (a1, ())) hz)) ((.slice none 0 0), (t92, ())) h_7)

def sh_tight_Walk (P : Program) (n0 tight1 s2 b3 : Value) (h : Heap) (K : Value → Heap → Prop) : Prop :=
  callS P F_tight_there [n0, s2] h fun t23 h_1 =>
  pUn .not t23 fun t24 =>
  ifV t24
  (sh_tight_Walk_k1 P K h_1)
  (callS P F_tight_there [n0, b3] h_1 fun t28 h_3 =>
  pUn .not t28 fun t29 =>
  ifV t29
  (sh_tight_Walk_k1 P K h_3)
  (pMakeMap h_3 fun t31 h_4 =>
  pMapSet (.int .i64) t31 s2 (.int .i64 (-1)) h_4 fun u h_5 =>
  pBuildSlice T_int (zerosL [(.int .i64 0)] 1) [(0, 1, s2)] 1 h_5 fun t35 h_6 =>
  LoopH (σ := Vals [11]) (fun x hh ZZ => sh_tight_Walk_L2 P n0 t31 tight1 b3 K x.1 hh (fun a0 hz => ZZ (a0, ()) hz)) (t35, ()) h_6))

set_option maxRecDepth 100000 in
theorem lk_tight_Walk (n0 tight1 s2 b3 : Value) {h : Heap} {K : Value → Heap → Prop} (H : sh_tight_Walk Tryz.prog n0 tight1 s2 b3 h K) : CallsH Tryz.prog F_tight_Walk [n0, tight1, s2, b3].toArray h K :=
  callsH_of (ann := (annG (Tryz.f16.body.getD .skip) 0 [(7, [11]), (12, [11, 47]), (24, [8, 18])]).1) (c := Tryz.f16.body.getD .skip) Tryz.func16 (by kernel_rfl) (by kernel_rfl) (by kernel_rfl) (of_decide_eq_true (by kernel_rfl))
    (Eq.mpr (by kernel_rfl) H)

/-! milestone/milestoneref24.Any -/

def sh_milestoneref24_Any_k3 (P : Program) (k8 : Value) (Z_1 : Value → Heap → Prop) (h_7 : Heap) : Prop :=
  pBin .add k8 (.int .i64 1) fun t30 =>
  Z_1 t30 h_7

def sh_milestoneref24_Any_L2 (P : Program) (t24 t12 i6 : Value) (Z : Value → Heap → Prop) (k8 : Value) (h_5 : Heap) (Z_1 : Value → Heap → Prop) : Prop :=
  pLen t24 fun t27 =>
  pBin .lss k8 t27 fun t28 =>
  ifV t28
  (pIdx 1 t12 k8 fun t35 =>
  pLoad h_5 t35 fun t36 =>
  ifV t36
  (pIdx 1 t12 k8 fun t43 =>
  pStore 1 t43 (.bool true) h_5 fun u h_6 =>
  sh_milestoneref24_Any_k3 P k8 Z_1 h_6)
  (pIdx 1 t24 k8 fun t40 =>
  pLoad h_5 t40 fun t41 =>
  pIdx 1 t12 k8 fun t43_1 =>
  pStore 1 t43_1 t41 h_5 fun u_1 h_8 =>
  sh_milestoneref24_Any_k3 P k8 Z_1 h_8))
  (pBin .add i6 (.int .i64 1) fun t18 =>
  Z t18 h_5)

def sh_milestoneref24_Any_L1 (P : Program) (nodes1 g2 t12 : Value) (K : Value → Heap → Prop) (i6 : Value) (h_3 : Heap) (Z : Value → Heap → Prop) : Prop :=
  pLen nodes1 fun t15 =>
  pBin .lss i6 t15 fun t16 =>
  ifV t16
  (pLoadN 4 h_3 g2 fun t19 =>
  pIdx 1 nodes1 i6 fun t22 =>
  pLoad h_3 t22 fun t23 =>
  callS P F_milestoneref24_Arcs [t19, t23] h_3 fun t24 h_4 =>
  LoopH (σ := Vals [8]) (fun x hh ZZ => sh_milestoneref24_Any_L2 P t24 t12 i6 Z x.1 hh (fun a0 hz => ZZ (a0, ()) hz)) ((.int .i64 0), ()) h_4)
  (K t12 h_3)

def sh_milestoneref24_Any (P : Program) (g0 nodes1 : Value) (h : Heap) (K : Value → Heap → Prop) : Prop :=
  pBox T_api_Raw g0 h fun g2 h_1 =>
  pField 3 g2 fun t9 =>
  pLoad h_1 t9 fun t10 =>
  pLen t10 fun t11 =>
  pMakeSlice T_bool 1 [(.bool false)] t11 t11 h_1 fun t12 h_2 =>
  LoopH (σ := Vals [6]) (fun x hh ZZ => sh_milestoneref24_Any_L1 P nodes1 g2 t12 K x.1 hh (fun a0 hz => ZZ (a0, ()) hz)) ((.int .i64 0), ()) h_2

set_option maxRecDepth 100000 in
theorem lk_milestoneref24_Any (g0 nodes1 : Value) {h : Heap} {K : Value → Heap → Prop} (H : sh_milestoneref24_Any Tryz.prog g0 nodes1 h K) : CallsH Tryz.prog F_milestoneref24_Any [g0, nodes1].toArray h K :=
  callsH_of (ann := (annG (Tryz.f17.body.getD .skip) 0 [(4, [6]), (10, [8])]).1) (c := Tryz.f17.body.getD .skip) Tryz.func17 (by kernel_rfl) (by kernel_rfl) (by kernel_rfl) (of_decide_eq_true (by kernel_rfl))
    (Eq.mpr (by kernel_rfl) H)

/-! milestone/milestoneref24.Arcs -/

def sh_milestoneref24_Arcs_C2 (P : Program) (i7 : Value) (Z : Value → Value → Heap → Prop) (out6_1 : Value) (h_15 : Heap) : Prop :=
  pBin .add i7 (.int .i64 1) fun t19 =>
  Z out6_1 t19 h_15

def sh_milestoneref24_Arcs_L1 (P : Program) (g2 b1 t12 : Value) (K : Value → Heap → Prop) (out6 i7 : Value) (h_4 : Heap) (Z : Value → Value → Heap → Prop) : Prop :=
  pField 3 g2 fun t14 =>
  pLoad h_4 t14 fun t15 =>
  pLen t15 fun t16 =>
  pBin .lss i7 t16 fun t17 =>
  ifV t17
  (cutP (σ := Vals [6]) (fun J =>
  pField 3 g2 fun t20 =>
  pLoad h_4 t20 fun t21 =>
  pIdx 3 t21 i7 fun t23 =>
  pLoadN 3 h_4 t23 fun t24 =>
  pBox T_api_Arc (.agg #[(.int .i64 0), (.int .i64 0), (.int .i64 0)]) h_4 fun a8 h_5 =>
  pStore 3 a8 t24 h_5 fun u h_6 =>
  pBin .geq b1 (.int .i64 0) fun t27 =>
  ifV t27
  (pField 0 g2 fun t30 =>
  pLoad h_6 t30 fun t31 =>
  pBin .lss b1 t31 fun t32 =>
  ifV t32
  (pField 1 a8 fun t36 =>
  pLoad h_6 t36 fun t37 =>
  pIdx 1 t12 t37 fun t38 =>
  pLoad h_6 t38 fun t39 =>
  pBin .lss t39 (.int .i64 72057594037927936) fun t40 =>
  ifV t40
  (pField 0 a8 fun t44 =>
  pLoad h_6 t44 fun t45 =>
  pIdx 1 t12 t45 fun t46 =>
  pLoad h_6 t46 fun t47 =>
  pField 1 a8 fun t49 =>
  pLoad h_6 t49 fun t50 =>
  pIdx 1 t12 t50 fun t51 =>
  pLoad h_6 t51 fun t52 =>
  pField 2 a8 fun t53 =>
  pLoad h_6 t53 fun t54 =>
  pBin .add t52 t54 fun t55 =>
  pBin .eql t47 t55 fun t56 =>
  pBuildSlice T_bool (zerosL [(.bool false)] 1) [(0, 1, t56)] 1 h_6 fun t58 h_7 =>
  pAppend T_bool 1 1 [(.bool false)] out6 t58 h_7 fun t59 h_8 =>
  J (t59, ()) h_8)
  (pBuildSlice T_bool (zerosL [(.bool false)] 1) [(0, 1, (.bool false))] 1 h_6 fun t58_1 h_9 =>
  pAppend T_bool 1 1 [(.bool false)] out6 t58_1 h_9 fun t59_1 h_10 =>
  J (t59_1, ()) h_10))
  (pBuildSlice T_bool (zerosL [(.bool false)] 1) [(0, 1, (.bool false))] 1 h_6 fun t58_2 h_11 =>
  pAppend T_bool 1 1 [(.bool false)] out6 t58_2 h_11 fun t59_2 h_12 =>
  J (t59_2, ()) h_12))
  (pBuildSlice T_bool (zerosL [(.bool false)] 1) [(0, 1, (.bool false))] 1 h_6 fun t58_3 h_13 =>
  pAppend T_bool 1 1 [(.bool false)] out6 t58_3 h_13 fun t59_3 h_14 =>
  J (t59_3, ()) h_14))
  (fun x hh => sh_milestoneref24_Arcs_C2 P i7 Z x.1 hh))
  (K out6 h_4)

def sh_milestoneref24_Arcs (P : Program) (g0 b1 : Value) (h : Heap) (K : Value → Heap → Prop) : Prop :=
  pBox T_api_Raw g0 h fun g2 h_1 =>
  pLoadN 4 h_1 g2 fun t9 =>
  callS P F_milestoneref07_Turned [t9] h_1 fun t10 h_2 =>
  callS P F_milestoneref10_Least [t10, b1] h_2 fun t12 h_3 =>
  LoopH (σ := Vals [6, 7]) (fun x hh ZZ => sh_milestoneref24_Arcs_L1 P g2 b1 t12 K x.1 x.2.1 hh (fun a0 a1 hz => ZZ (a0, (a1, ())) hz)) ((.slice none 0 0), ((.int .i64 0), ())) h_3

set_option maxRecDepth 100000 in
theorem lk_milestoneref24_Arcs (g0 b1 : Value) {h : Heap} {K : Value → Heap → Prop} (H : sh_milestoneref24_Arcs Tryz.prog g0 b1 h K) : CallsH Tryz.prog F_milestoneref24_Arcs [g0, b1].toArray h K :=
  callsH_of (ann := (annG (Tryz.f18.body.getD .skip) 0 [(5, [6, 7]), (8, [6])]).1) (c := Tryz.f18.body.getD .skip) Tryz.func18 (by kernel_rfl) (by kernel_rfl) (by kernel_rfl) (of_decide_eq_true (by kernel_rfl))
    (Eq.mpr (by kernel_rfl) H)

/-! milestone/milestoneref24.Reach -/

def sh_milestoneref24_Reach_k1 (P : Program) (K : Value → Heap → Prop) (h_2 : Heap) : Prop :=
  K (.bool false) h_2

def sh_milestoneref24_Reach_k4 (P : Program) (i11 : Value) (Z_1 : Value → Value → Heap → Prop) (more10_2 : Value) (h_10 : Heap) : Prop :=
  pBin .add i11 (.int .i64 1) fun t50 =>
  Z_1 more10_2 t50 h_10

def sh_milestoneref24_Reach_L3 (P : Program) (g4 tight1 t33 : Value) (Z : Value → Heap → Prop) (more10_1 i11 : Value) (h_6 : Heap) (Z_1 : Value → Value → Heap → Prop) : Prop :=
  pField 3 g4 fun t39 =>
  pLoad h_6 t39 fun t40 =>
  pLen t40 fun t41 =>
  pBin .lss i11 t41 fun t42 =>
  ifV t42
  (pLen tight1 fun t46 =>
  pBin .lss i11 t46 fun t47 =>
  ifV t47
  (pField 3 g4 fun t51 =>
  pLoad h_6 t51 fun t52 =>
  pIdx 3 t52 i11 fun t54 =>
  pLoadN 3 h_6 t54 fun t55 =>
  pBox T_api_Arc (.agg #[(.int .i64 0), (.int .i64 0), (.int .i64 0)]) h_6 fun a12 h_7 =>
  pStore 3 a12 t55 h_7 fun u_1 h_8 =>
  pIdx 1 tight1 i11 fun t58 =>
  pLoad h_8 t58 fun t59 =>
  ifV t59
  (pField 0 a12 fun t62 =>
  pLoad h_8 t62 fun t63 =>
  pIdx 1 t33 t63 fun t64 =>
  pLoad h_8 t64 fun t65 =>
  ifV t65
  (pField 1 a12 fun t69 =>
  pLoad h_8 t69 fun t70 =>
  pIdx 1 t33 t70 fun t71 =>
  pLoad h_8 t71 fun t72 =>
  pUn .not t72 fun t73 =>
  ifV t73
  (pField 1 a12 fun t76 =>
  pLoad h_8 t76 fun t77 =>
  pIdx 1 t33 t77 fun t78 =>
  pStore 1 t78 (.bool true) h_8 fun u_2 h_9 =>
  sh_milestoneref24_Reach_k4 P i11 Z_1 (.bool true) h_9)
  (sh_milestoneref24_Reach_k4 P i11 Z_1 more10_1 h_8))
  (sh_milestoneref24_Reach_k4 P i11 Z_1 more10_1 h_8))
  (sh_milestoneref24_Reach_k4 P i11 Z_1 more10_1 h_8))
  (Z more10_1 h_6))
  (Z more10_1 h_6)

def sh_milestoneref24_Reach_L2 (P : Program) (g4 tight1 t33 b3 : Value) (K : Value → Heap → Prop) (more10 : Value) (h_5 : Heap) (Z : Value → Heap → Prop) : Prop :=
  ifV more10
  (LoopH (σ := Vals [10, 11]) (fun x hh ZZ => sh_milestoneref24_Reach_L3 P g4 tight1 t33 Z x.1 x.2.1 hh (fun a0 a1 hz => ZZ (a0, (a1, ())) hz)) ((.bool false), ((.int .i64 0), ())) h_5)
  (pIdx 1 t33 b3 fun t81 =>
  pLoad h_5 t81 fun t82 =>
  K t82 h_5)

def sh_milestoneref24_Reach (P : Program) (g0 tight1 s2 b3 : Value) (h : Heap) (K : Value → Heap → Prop) : Prop :=
  pBox T_api_Raw g0 h fun g4 h_1 =>
  pBin .lss s2 (.int .i64 0) fun t14 =>
  ifV t14
  (sh_milestoneref24_Reach_k1 P K h_1)
  (pField 0 g4 fun t17 =>
  pLoad h_1 t17 fun t18 =>
  pBin .geq s2 t18 fun t19 =>
  ifV t19
  (sh_milestoneref24_Reach_k1 P K h_1)
  (pBin .lss b3 (.int .i64 0) fun t23 =>
  ifV t23
  (sh_milestoneref24_Reach_k1 P K h_1)
  (pField 0 g4 fun t27 =>
  pLoad h_1 t27 fun t28 =>
  pBin .geq b3 t28 fun t29 =>
  ifV t29
  (sh_milestoneref24_Reach_k1 P K h_1)
  (pField 0 g4 fun t31 =>
  pLoad h_1 t31 fun t32 =>
  pMakeSlice T_bool 1 [(.bool false)] t32 t32 h_1 fun t33 h_3 =>
  pIdx 1 t33 s2 fun t36 =>
  pStore 1 t36 (.bool true) h_3 fun u h_4 =>
  LoopH (σ := Vals [10]) (fun x hh ZZ => sh_milestoneref24_Reach_L2 P g4 tight1 t33 b3 K x.1 hh (fun a0 hz => ZZ (a0, ()) hz)) ((.bool true), ()) h_4))))

set_option maxRecDepth 100000 in
theorem lk_milestoneref24_Reach (g0 tight1 s2 b3 : Value) {h : Heap} {K : Value → Heap → Prop} (H : sh_milestoneref24_Reach Tryz.prog g0 tight1 s2 b3 h K) : CallsH Tryz.prog F_milestoneref24_Reach [g0, tight1, s2, b3].toArray h K :=
  callsH_of (ann := (annG (Tryz.f19.body.getD .skip) 0 [(8, [10]), (13, [10, 11])]).1) (c := Tryz.f19.body.getD .skip) Tryz.func19 (by kernel_rfl) (by kernel_rfl) (by kernel_rfl) (of_decide_eq_true (by kernel_rfl))
    (Eq.mpr (by kernel_rfl) H)

/-! milestone/walk.Check -/

def sh_walk_Check_B1 (P : Program) (h_6 : Heap) (end10 weight8 : Value) (L : Loop) (t22 t23 : Value) (h_7 : Heap) (R : Exit → Heap → Prop) : Prop :=
  pBox T_api_Arc (.agg #[(.int .i64 0), (.int .i64 0), (.int .i64 0)]) h_7 fun a11 h_8 =>
  pStore 3 a11 t22 h_8 fun u_2 h_9 =>
  beginR (h_6.size + 1) L h_9 fun h_10 =>
  pUn .not t23 fun t25 =>
  ifV t25
  (pStore 1 end10 (.int .i64 (-1)) h_10 fun u_3 h_11 =>
  R (.exit 0) h_11)
  (pLoad h_10 weight8 fun t26 =>
  pField 2 a11 fun t27 =>
  pLoad h_10 t27 fun t28 =>
  pBin .add t26 t28 fun t29 =>
  pStore 1 weight8 t29 h_10 fun u_4 h_12 =>
  pField 1 a11 fun t30 =>
  pLoad h_12 t30 fun t31 =>
  pStore 1 end10 t31 h_12 fun u_5 h_13 =>
  R .normal h_13)

def sh_walk_Check_k3 (P : Program) (weight8 : Value) (h_6 : Heap) (K : Value → Heap → Prop) (h_16 : Heap) : Prop :=
  pStore 1 weight8 (.int .i64 0) h_16 fun u_6 h_17 =>
  takeM (h_6.size :: []) h_17 fun h_18 =>
  pLoad h_18 weight8 fun res_1 =>
  K (.tuple #[res_1, (.bool false)]) h_18

def sh_walk_Check_k2 (P : Program) (end10 weight8 : Value) (h_6 : Heap) (K : Value → Heap → Prop) (t2 : Value) (h_15 : Heap) : Prop :=
  pLoad h_15 end10 fun t32 =>
  pBin .lss t32 (.int .i64 0) fun t33 =>
  ifV t33
  (sh_walk_Check_k3 P weight8 h_6 K h_15)
  (pLoad h_15 end10 fun t35 =>
  pBin .neq t35 t2 fun t37 =>
  ifV t37
  (sh_walk_Check_k3 P weight8 h_6 K h_15)
  (pLoad h_15 weight8 fun t39 =>
  pStore 1 weight8 t39 h_15 fun u_7 h_19 =>
  takeM (h_6.size :: []) h_19 fun h_20 =>
  pLoad h_20 weight8 fun res_2 =>
  K (.tuple #[res_2, (.bool true)]) h_20))

def sh_walk_Check (P : Program) (n0 s1 t2 arcs3 : Value) (h : Heap) (K : Value → Heap → Prop) : Prop :=
  pBox T_int64 (.int .i64 0) h fun weight8 h_1 =>
  callS P F_walk_node [n0, s1] h_1 fun t15 h_2 =>
  pUn .not t15 fun t16 =>
  ifV t16
  (pStore 1 weight8 (.int .i64 0) h_2 fun u h_3 =>
  pLoad h_3 weight8 fun res =>
  K (.tuple #[res, (.bool false)]) h_3)
  (pBox T_int (.int .i64 0) h_2 fun end10 h_4 =>
  pStore 1 end10 s1 h_4 fun u_1 h_5 =>
  callS P F_walk_steps [n0, s1, arcs3] h_5 fun t21 h_6 =>
  rangeH P t21 [22, 23] (h_6.size + 1) (h_6.push (.deferred (some []))) (fun L x hh R => sh_walk_Check_B1 P h_6 end10 weight8 L x.1 x.2.1 hh R)
  (fun h_21 => sh_walk_Check_k2 P end10 weight8 h_6 K t2 h_21)
  (fun h_22 => takeM (h_6.size :: []) h_22 fun h_23 =>
  pLoad h_23 weight8 fun res_3 =>
  K (.tuple #[res_3, (.bool false)]) h_23)
  [(0, (fun h_14 => sh_walk_Check_k2 P end10 weight8 h_6 K t2 h_14))])

set_option maxRecDepth 100000 in
theorem lk_walk_Check (n0 s1 t2 arcs3 : Value) {h : Heap} {K : Value → Heap → Prop} (H : sh_walk_Check Tryz.prog n0 s1 t2 arcs3 h K) : CallsH Tryz.prog F_walk_Check [n0, s1, t2, arcs3].toArray h K :=
  callsH_of (ann := (annG (Tryz.f20.body.getD .skip) 0 []).1) (c := Tryz.f20.body.getD .skip) Tryz.func20 (by kernel_rfl) (by kernel_rfl) (by kernel_rfl) (of_decide_eq_true (by kernel_rfl))
    (Eq.mpr (by kernel_rfl) H)

/-! (*milestone/milestoneref07.Draft).Raw -/

def sh_milestoneref07_Draft_Raw_k7 (P : Program) (i8 : Value) (Z_2 : Value → Heap → Prop) (h_52 : Heap) : Prop :=
  pBin .add i8 (.int .i64 1) fun t83 =>
  Z_2 t83 h_52

def sh_milestoneref07_Draft_Raw_C6 (P : Program) (g3 d0 i8 : Value) (Z_2 : Value → Heap → Prop) (a9_4 : Value) (h_44 : Heap) : Prop :=
  pField 3 g3 fun t95 =>
  pLoad h_44 t95 fun t96 =>
  pLoadN 3 h_44 a9_4 fun t97 =>
  pBuildSlice T_api_Arc (zerosL [(.int .i64 0), (.int .i64 0), (.int .i64 0)] 1) [(0, 3, t97)] 1 h_44 fun t98 h_45 =>
  pAppend T_api_Arc 3 24 [(.int .i64 0), (.int .i64 0), (.int .i64 0)] t96 t98 h_45 fun t99 h_46 =>
  pField 3 g3 fun t100 =>
  pStore 1 t100 t99 h_46 fun u_10 h_47 =>
  callS P F_milestoneref07_Draft_Next [d0, (.int .i64 4)] h_47 fun t102 h_48 =>
  pBin .eql t102 (.int .i64 0) fun t103 =>
  ifV t103
  (pField 3 g3 fun t104 =>
  pLoad h_48 t104 fun t105 =>
  pField 1 a9_4 fun t106 =>
  pLoad h_48 t106 fun t107 =>
  pField 0 a9_4 fun t108 =>
  pLoad h_48 t108 fun t109 =>
  pField 2 a9_4 fun t110 =>
  pLoad h_48 t110 fun t111 =>
  pBuild [(.int .i64 0), (.int .i64 0), (.int .i64 0)] [(0, 1, t107), (1, 1, t109), (2, 1, t111)] fun t112 =>
  pBuildSlice T_api_Arc (zerosL [(.int .i64 0), (.int .i64 0), (.int .i64 0)] 1) [(0, 3, t112)] 1 h_48 fun t113 h_49 =>
  pAppend T_api_Arc 3 24 [(.int .i64 0), (.int .i64 0), (.int .i64 0)] t105 t113 h_49 fun t114 h_50 =>
  pField 3 g3 fun t115 =>
  pStore 1 t115 t114 h_50 fun u_11 h_51 =>
  sh_milestoneref07_Draft_Raw_k7 P i8 Z_2 h_51)
  (sh_milestoneref07_Draft_Raw_k7 P i8 Z_2 h_48)

def sh_milestoneref07_Draft_Raw_L5 (P : Program) (t52 g3 d0 t2 : Value) (K : Value → Heap → Prop) (i8 : Value) (h_26 : Heap) (Z_2 : Value → Heap → Prop) : Prop :=
  pBin .lss i8 t52 fun t81 =>
  ifV t81
  (cutP (σ := Vals [9]) (fun J =>
  pField 0 g3 fun t85 =>
  pLoad h_26 t85 fun t86 =>
  pField 0 g3 fun t89 =>
  pLoad h_26 t89 fun t90 =>
  (callS P F_milestoneref07_Draft_Next [d0, t86] h_26 fun t87 h_27 =>
  (pLoad h_27 t89 fun t90_1 =>
  t90_1 = t90) ∧
  ((callS P F_milestoneref07_Draft_Next [d0, t90] h_27 fun t91 h_28 =>
  (callS P F_milestoneref07_Draft_Weight [d0] h_28 fun t93 h_29 =>
  pBuild [(.int .i64 0), (.int .i64 0), (.int .i64 0)] [(0, 1, t87), (1, 1, t91), (2, 1, t93)] fun t94 =>
  pBox T_api_Arc (.agg #[(.int .i64 0), (.int .i64 0), (.int .i64 0)]) h_29 fun a9 h_30 =>
  pStore 3 a9 t94 h_30 fun u_6 h_31 =>
  J (a9, ()) h_31) ∧
  (pBox T_api_Arc (.agg #[(.int .i64 0), (.int .i64 0), (.int .i64 0)]) h_28 fun a9_1 h_32 =>
  callS P F_milestoneref07_Draft_Weight [d0] h_32 fun t93_1 h_33 =>
  pBuild [(.int .i64 0), (.int .i64 0), (.int .i64 0)] [(0, 1, t87), (1, 1, t91), (2, 1, t93_1)] fun t94_1 =>
  pStore 3 a9_1 t94_1 h_33 fun u_7 h_34 =>
  J (a9_1, ()) h_34)) ∧
  (pBox T_api_Arc (.agg #[(.int .i64 0), (.int .i64 0), (.int .i64 0)]) h_27 fun a9_2 h_35 =>
  callS P F_milestoneref07_Draft_Next [d0, t90] h_35 fun t91_1 h_36 =>
  callS P F_milestoneref07_Draft_Weight [d0] h_36 fun t93_2 h_37 =>
  pBuild [(.int .i64 0), (.int .i64 0), (.int .i64 0)] [(0, 1, t87), (1, 1, t91_1), (2, 1, t93_2)] fun t94_2 =>
  pStore 3 a9_2 t94_2 h_37 fun u_8 h_38 =>
  J (a9_2, ()) h_38))) ∧
  (pBox T_api_Arc (.agg #[(.int .i64 0), (.int .i64 0), (.int .i64 0)]) h_26 fun a9_3 h_39 =>
  callS P F_milestoneref07_Draft_Next [d0, t86] h_39 fun t87_1 h_40 =>
  (pLoad h_40 t89 fun t90_2 =>
  t90_2 = t90) ∧
  (callS P F_milestoneref07_Draft_Next [d0, t90] h_40 fun t91_2 h_41 =>
  callS P F_milestoneref07_Draft_Weight [d0] h_41 fun t93_3 h_42 =>
  pBuild [(.int .i64 0), (.int .i64 0), (.int .i64 0)] [(0, 1, t87_1), (1, 1, t91_2), (2, 1, t93_3)] fun t94_3 =>
  pStore 3 a9_3 t94_3 h_42 fun u_9 h_43 =>
  J (a9_3, ()) h_43)))
  (fun x hh => sh_milestoneref07_Draft_Raw_C6 P g3 d0 i8 Z_2 x.1 hh))
  (pLoadN 4 h_26 g3 fun t116 =>
  pStore 4 t2 t116 h_26 fun u_12 h_53 =>
  pLoadN 4 h_53 t2 fun res =>
  K res h_53)

def sh_milestoneref07_Draft_Raw_k4 (P : Program) (t52 g3 d0 t2 : Value) (K : Value → Heap → Prop) (h_25 : Heap) : Prop :=
  LoopH (σ := Vals [8]) (fun x hh ZZ => sh_milestoneref07_Draft_Raw_L5 P t52 g3 d0 t2 K x.1 hh (fun a0 hz => ZZ (a0, ()) hz)) ((.int .i64 0), ()) h_25

def sh_milestoneref07_Draft_Raw_L3 (P : Program) (g3 t55 d0 t52 t2 : Value) (K : Value → Heap → Prop) (v7 : Value) (h_20 : Heap) (Z_1 : Value → Heap → Prop) : Prop :=
  pField 0 g3 fun t57 =>
  pLoad h_20 t57 fun t58 =>
  pBin .lss v7 t58 fun t59 =>
  ifV t59
  (ifV t55
  (pField 3 g3 fun t65 =>
  pLoad h_20 t65 fun t66 =>
  pBin .add v7 (.int .i64 1) fun t69 =>
  pField 0 g3 fun t70 =>
  pLoad h_20 t70 fun t71 =>
  pBin .rem t69 t71 fun t72 =>
  callS P F_milestoneref07_Draft_Weight [d0] h_20 fun t74 h_21 =>
  (pLoad h_21 t65 fun t66_1 =>
  t66_1 = t66) ∧
  (pLoad h_21 t70 fun t71_1 =>
  t71_1 = t71) ∧
  (pBuild [(.int .i64 0), (.int .i64 0), (.int .i64 0)] [(0, 1, v7), (1, 1, t72), (2, 1, t74)] fun t75 =>
  pBuildSlice T_api_Arc (zerosL [(.int .i64 0), (.int .i64 0), (.int .i64 0)] 1) [(0, 3, t75)] 1 h_21 fun t76 h_22 =>
  pAppend T_api_Arc 3 24 [(.int .i64 0), (.int .i64 0), (.int .i64 0)] t66 t76 h_22 fun t77 h_23 =>
  pField 3 g3 fun t78 =>
  pStore 1 t78 t77 h_23 fun u_5 h_24 =>
  pBin .add v7 (.int .i64 1) fun t64 =>
  Z_1 t64 h_24))
  (sh_milestoneref07_Draft_Raw_k4 P t52 g3 d0 t2 K h_20))
  (sh_milestoneref07_Draft_Raw_k4 P t52 g3 d0 t2 K h_20)

def sh_milestoneref07_Draft_Raw_k2 (P : Program) (g3 d0 t2 : Value) (K : Value → Heap → Prop) (h_17 : Heap) : Prop :=
  pField 0 g3 fun t48 =>
  pLoad h_17 t48 fun t49 =>
  pBin .mul (.int .i64 3) t49 fun t50 =>
  pBin .add t50 (.int .i64 1) fun t51 =>
  callS P F_milestoneref07_Draft_Next [d0, t51] h_17 fun t52 h_18 =>
  callS P F_milestoneref07_Draft_Next [d0, (.int .i64 3)] h_18 fun t54 h_19 =>
  pBin .gtr t54 (.int .i64 0) fun t55 =>
  LoopH (σ := Vals [7]) (fun x hh ZZ => sh_milestoneref07_Draft_Raw_L3 P g3 t55 d0 t52 t2 K x.1 hh (fun a0 hz => ZZ (a0, ()) hz)) ((.int .i64 0), ()) h_19

def sh_milestoneref07_Draft_Raw_L1 (P : Program) (g3 d0 t2 : Value) (K : Value → Heap → Prop) (v4 : Value) (h_5 : Heap) (Z : Value → Heap → Prop) : Prop :=
  pField 0 g3 fun t15 =>
  pLoad h_5 t15 fun t16 =>
  pBin .lss v4 t16 fun t17 =>
  ifV t17
  (pField 1 g3 fun t20 =>
  pLoad h_5 t20 fun t21 =>
  callS P F_milestoneref07_Draft_Next [d0, (.int .i64 9)] h_5 fun t23 h_6 =>
  (pLoad h_6 t20 fun t21_1 =>
  t21_1 = t21) ∧
  (pBin .sub t23 (.int .i64 3) fun t24 =>
  pBuildSlice T_int64 (zerosL [(.int .i64 0)] 1) [(0, 1, t24)] 1 h_6 fun t25 h_7 =>
  pAppend T_int64 1 8 [(.int .i64 0)] t21 t25 h_7 fun t26 h_8 =>
  pField 1 g3 fun t27 =>
  pStore 1 t27 t26 h_8 fun u_1 h_9 =>
  pField 2 g3 fun t28 =>
  pLoad h_9 t28 fun t29 =>
  callS P F_milestoneref07_Draft_Next [d0, (.int .i64 7)] h_9 fun t31 h_10 =>
  (pLoad h_10 t28 fun t29_1 =>
  t29_1 = t29) ∧
  (pBuildSlice T_int64 (zerosL [(.int .i64 0)] 1) [(0, 1, t31)] 1 h_10 fun t32 h_11 =>
  pAppend T_int64 1 8 [(.int .i64 0)] t29 t32 h_11 fun t33 h_12 =>
  pField 2 g3 fun t34 =>
  pStore 1 t34 t33 h_12 fun u_2 h_13 =>
  pBin .add v4 (.int .i64 1) fun t19 =>
  Z t19 h_13)))
  (callS P F_milestoneref07_Draft_Next [d0, (.int .i64 9)] h_5 fun t36 h_14 =>
  pBin .eql t36 (.int .i64 0) fun t37 =>
  ifV t37
  (pField 1 g3 fun t38 =>
  pLoad h_14 t38 fun t39 =>
  pIdx 1 t39 (.int .i64 0) fun t40 =>
  pStore 1 t40 (.int .i64 (-2147483648)) h_14 fun u_3 h_15 =>
  pField 2 g3 fun t41 =>
  pLoad h_15 t41 fun t42 =>
  pField 0 g3 fun t43 =>
  pLoad h_15 t43 fun t44 =>
  pBin .sub t44 (.int .i64 1) fun t45 =>
  pIdx 1 t42 t45 fun t46 =>
  pStore 1 t46 (.int .i64 2147483647) h_15 fun u_4 h_16 =>
  sh_milestoneref07_Draft_Raw_k2 P g3 d0 t2 K h_16)
  (sh_milestoneref07_Draft_Raw_k2 P g3 d0 t2 K h_14))

def sh_milestoneref07_Draft_Raw (P : Program) (d0 : Value) (h : Heap) (K : Value → Heap → Prop) : Prop :=
  pBox T_api_Raw (.agg #[(.int .i64 0), (.slice none 0 0), (.slice none 0 0), (.slice none 0 0)]) h fun t2 h_1 =>
  callS P F_milestoneref07_Draft_Next [d0, (.int .i64 12)] h_1 fun t11 h_2 =>
  pBin .add (.int .i64 1) t11 fun t12 =>
  pBuild [(.int .i64 0), (.slice none 0 0), (.slice none 0 0), (.slice none 0 0)] [(0, 1, t12)] fun t13 =>
  pBox T_api_Raw (.agg #[(.int .i64 0), (.slice none 0 0), (.slice none 0 0), (.slice none 0 0)]) h_2 fun g3 h_3 =>
  pStore 4 g3 t13 h_3 fun u h_4 =>
  LoopH (σ := Vals [4]) (fun x hh ZZ => sh_milestoneref07_Draft_Raw_L1 P g3 d0 t2 K x.1 hh (fun a0 hz => ZZ (a0, ()) hz)) ((.int .i64 0), ()) h_4

set_option maxRecDepth 100000 in
theorem lk_milestoneref07_Draft_Raw (d0 : Value) {h : Heap} {K : Value → Heap → Prop} (H : sh_milestoneref07_Draft_Raw Tryz.prog d0 h K) : CallsH Tryz.prog F_milestoneref07_Draft_Raw [d0].toArray h K :=
  callsH_of (ann := (annG (Tryz.f21.body.getD .skip) 0 [(4, [4]), (16, [7]), (22, [8]), (26, [9])]).1) (c := Tryz.f21.body.getD .skip) Tryz.func21 (by kernel_rfl) (by kernel_rfl) (by kernel_rfl) (of_decide_eq_true (by kernel_rfl))
    (Eq.mpr (by kernel_rfl) H)

end Go.Proofs.YtlkcpceobicoiaaGreatDoor

namespace Go.Proofs.YtlkcpceobicoiaaGreatDoor
open Go Go.Mh
set_option maxHeartbeats 0
set_option linter.unusedVariables false

/-! milestone/net.New -/

def sh_net_New (P : Program) (raw0 : Value) (h : Heap) (K : Value → Heap → Prop) : Prop :=
  pBox T_api_Raw raw0 h fun raw1 h_1 =>
  pLoadN 4 h_1 raw1 fun t6 =>
  callS P F_graph_Check [t6] h_1 fun t7 h_2 =>
  pEq true .iface t7 .nilIface fun t9 =>
  ifV t9
  (callS P F_api_Told [t7] h_2 fun t11 h_3 =>
  pBox T_api_Fault (.agg #[(.int .i64 0), (.int .i64 0), (.int .i64 0), (.int .i64 0)]) h_3 fun f5 h_4 =>
  pStore 4 f5 t11 h_4 fun u h_5 =>
  pBuild [(.pointer none)] [(0, 1, f5)] fun t12 =>
  K (.tuple #[(.pointer none), (.iface T_net_trouble t12)]) h_5)
  (pLoadN 4 h_2 raw1 fun t14 =>
  callS P F_net_own [t14] h_2 fun t15 h_6 =>
  callS P F_net_of [t15] h_6 fun t16 h_7 =>
  K (.tuple #[t16, .nilIface]) h_7)

set_option maxRecDepth 100000 in
theorem lk_net_New (raw0 : Value) {h : Heap} {K : Value → Heap → Prop} (H : sh_net_New Tryz.prog raw0 h K) : CallsH Tryz.prog F_net_New [raw0].toArray h K :=
  callsH_of (ann := (annG (Tryz.f22.body.getD .skip) 0 []).1) (c := Tryz.f22.body.getD .skip) Tryz.func22 (by kernel_rfl) (by kernel_rfl) (by kernel_rfl) (of_decide_eq_true (by kernel_rfl))
    (Eq.mpr (by kernel_rfl) H)

/-! milestone/flood.flood -/

def sh_flood_flood_k1 (P : Program) (t8 : Value) (K : Value → Heap → Prop) (h_2 : Heap) : Prop :=
  pBuild [(.slice none 0 0), (.slice none 0 0), (.slice none 0 0)] [] fun t27 =>
  pStore 3 t8 t27 h_2 fun u h_3 =>
  pLoadN 3 h_3 t8 fun res =>
  K res h_3

def sh_flood_flood_B3 (P : Program) (h_28 : Heap) (r9 key11_1 : Value) (L : Loop) (t101 t102 : Value) (h_29 : Heap) (R : Exit → Heap → Prop) : Prop :=
  pBox T_api_Arc (.agg #[(.int .i64 0), (.int .i64 0), (.int .i64 0)]) h_29 fun a14 h_30 =>
  pStore 3 a14 t102 h_30 fun u_6 h_31 =>
  beginR (h_28.size + 1) L h_31 fun h_32 =>
  pLoad h_32 r9 fun t103 =>
  pField 1 a14 fun t104 =>
  pLoad h_32 t104 fun t105 =>
  pLoad h_32 key11_1 fun t107 =>
  pField 2 a14 fun t108 =>
  pLoad h_32 t108 fun t109 =>
  pBin .add t107 t109 fun t110 =>
  callS P F_flood_run_reach [t103, t105, t101, t110] h_32 fun t111 h_33 =>
  R .normal h_33

def sh_flood_flood_L2 (P : Program) (r9 next2 n0 end3 t8 : Value) (K : Value → Heap → Prop) (m : List Nat) (v10 key11_1 is12 : Value) (h_21 : Heap) (Z : List Nat → Value → Value → Value → Heap → Prop) : Prop :=
  ifV is12
  (pLoad h_21 r9 fun t68 =>
  pNil t68 fun t69 =>
  pField 4 t69 fun t70 =>
  pLoad h_21 t70 fun t71 =>
  pLook (.int .i64) (.int .i64 0) false h_21 t71 v10 fun t73 =>
  pBin .add t73 (.int .i64 1) fun t74 =>
  pMapSet (.int .i64) t71 v10 t74 h_21 fun u_3 h_22 =>
  pLoad h_22 r9 fun t75 =>
  pNil t75 fun t76 =>
  pField 1 t76 fun t77 =>
  pField 0 t77 fun t78 =>
  pLoad h_22 t78 fun t79 =>
  pLoad h_22 key11_1 fun t81 =>
  pIdx 1 t79 v10 fun t82 =>
  pStore 1 t82 t81 h_22 fun u_4 h_23 =>
  pLoad h_23 r9 fun t83 =>
  pLoad h_23 r9 fun t84 =>
  pNil t84 fun t85 =>
  pField 1 t85 fun t86 =>
  pField 2 t86 fun t87 =>
  pLoad h_23 t87 fun t88 =>
  pBuildSlice T_int (zerosL [(.int .i64 0)] 1) [(0, 1, v10)] 1 h_23 fun t90 h_24 =>
  pAppend T_int 1 8 [(.int .i64 0)] t88 t90 h_24 fun t91 h_25 =>
  (pLoad h_25 r9 fun t83_1 =>
  t83_1 = t83) ∧
  (pNil t83 fun t92 =>
  pField 1 t92 fun t93 =>
  pField 2 t93 fun t94 =>
  pStore 1 t94 t91 h_25 fun u_5 h_26 =>
  callV P next2 [v10].toArray h_26 fun t98 h_27 =>
  callS P F_flood_arcs [n0, t98, end3] h_27 fun t100 h_28 =>
  rangeH P t100 [101, 102] (h_28.size + 1) (h_28.push (.deferred (some []))) (fun L x hh R => sh_flood_flood_B3 P h_28 r9 key11_1 L x.1 x.2.1 hh R)
  (fun h_34 => pLoad h_34 key11_1 fun t112 =>
  pBox T_int64 (.int .i64 0) h_34 fun key11_2 h_35 =>
  pStore 1 key11_2 t112 h_35 fun u_7 h_36 =>
  pLoad h_36 r9 fun t60 =>
  pNil t60 fun t61 =>
  pField 0 t61 fun t62 =>
  pLoad h_36 t62 fun t63 =>
  callS P F_heap_Heap_Pop [t63] h_36 fun t64 h_37 =>
  pExt t64 0 fun t65 =>
  pExt t64 1 fun t66 =>
  pExt t64 2 fun t67 =>
  pStore 1 key11_2 t66 h_37 fun u_8 h_38 =>
  Z (h_28.size :: m) t65 key11_2 t67 h_38)
  (fun h_39 => takeM (h_28.size :: m) h_39 fun h_40 =>
  pLoadN 3 h_40 t8 fun res_1 =>
  K res_1 h_40)
  []))
  (pLoad h_21 r9 fun t113 =>
  pNil t113 fun t114 =>
  pField 1 t114 fun t115 =>
  pLoadN 3 h_21 t115 fun t116 =>
  pStore 3 t8 t116 h_21 fun u_9 h_41 =>
  takeM m h_41 fun h_42 =>
  pLoadN 3 h_42 t8 fun res_2 =>
  K res_2 h_42)

def sh_flood_flood (P : Program) (n0 s1 next2 end3 : Value) (h : Heap) (K : Value → Heap → Prop) : Prop :=
  pBox T_flood_Tree (.agg #[(.slice none 0 0), (.slice none 0 0), (.slice none 0 0)]) h fun t8 h_1 =>
  pEq false .ptr n0 (.pointer none) fun t16 =>
  ifV t16
  (sh_flood_flood_k1 P t8 K h_1)
  (pBin .lss s1 (.int .i64 0) fun t19 =>
  ifV t19
  (sh_flood_flood_k1 P t8 K h_1)
  (callS P F_net_Net_Nodes [n0] h_1 fun t24 h_4 =>
  pBin .geq s1 t24 fun t25 =>
  ifV t25
  (sh_flood_flood_k1 P t8 K h_4)
  (callS P F_net_Net_Nodes [n0] h_4 fun t29 h_5 =>
  callS P F_heap_New [t29] h_5 fun t30 h_6 =>
  pBuildSlice T_int64 (zerosL [(.int .i64 0)] 1) [(0, 1, (.int .i64 72057594037927936))] 1 h_6 fun t31 h_7 =>
  callS P F_net_Net_Nodes [n0] h_7 fun t33 h_8 =>
  callS P F_slices_Repeat_sl_int64_int64 [t31, t33] h_8 fun t34 h_9 =>
  pBuildSlice T_int (zerosL [(.int .i64 0)] 1) [(0, 1, (.int .i64 (-1)))] 1 h_9 fun t35 h_10 =>
  callS P F_net_Net_Nodes [n0] h_10 fun t37 h_11 =>
  callS P F_slices_Repeat_sl_int_int [t35, t37] h_11 fun t38 h_12 =>
  pBuild [(.slice none 0 0), (.slice none 0 0), (.slice none 0 0)] [(0, 1, t34), (1, 1, t38)] fun t39 =>
  pMakeMap h_12 fun t40 h_13 =>
  pBuild [(.pointer none), (.slice none 0 0), (.slice none 0 0), (.slice none 0 0), (.map none)] [(0, 1, t30), (1, 3, t39), (4, 1, t40)] fun t41 =>
  pBox T_flood_run t41 h_13 fun t42 h_14 =>
  pBox T_p_flood_run (.pointer none) h_14 fun r9 h_15 =>
  pStore 1 r9 t42 h_15 fun u_1 h_16 =>
  pLoad h_16 r9 fun t43 =>
  pNil t43 fun t44 =>
  pField 0 t44 fun t45 =>
  pLoad h_16 t45 fun t46 =>
  callS P F_heap_Heap_Push [t46, s1, (.int .i64 0)] h_16 fun t48 h_17 =>
  pLoad h_17 r9 fun t50 =>
  pNil t50 fun t51 =>
  pField 0 t51 fun t52 =>
  pLoad h_17 t52 fun t53 =>
  callS P F_heap_Heap_Pop [t53] h_17 fun t54 h_18 =>
  pExt t54 0 fun t55 =>
  pExt t54 1 fun t56 =>
  pExt t54 2 fun t57 =>
  pBox T_int64 (.int .i64 0) h_18 fun key11 h_19 =>
  pStore 1 key11 t56 h_19 fun u_2 h_20 =>
  LoopH (σ := List Nat × Vals [10, 11, 12]) (fun x hh ZZ => sh_flood_flood_L2 P r9 next2 n0 end3 t8 K x.1 x.2.1 x.2.2.1 x.2.2.2.1 hh (fun mz a0 a1 a2 hz => ZZ (mz, (a0, (a1, (a2, ())))) hz)) ([], (t55, (key11, (t57, ())))) h_20)))

set_option maxRecDepth 100000 in
theorem lk_flood_flood (n0 s1 next2 end3 : Value) {h : Heap} {K : Value → Heap → Prop} (H : sh_flood_flood Tryz.prog n0 s1 next2 end3 h K) : CallsH Tryz.prog F_flood_flood [n0, s1, next2, end3].toArray h K :=
  callsH_of (ann := (annG (Tryz.f23.body.getD .skip) 0 [(8, [10, 11, 12])]).1) (c := Tryz.f23.body.getD .skip) Tryz.func23 (by kernel_rfl) (by kernel_rfl) (by kernel_rfl) (of_decide_eq_true (by kernel_rfl))
    (Eq.mpr (by kernel_rfl) H)

/-! (*milestone/net.Net).In -/

def sh_net_Net_In (P : Program) (n0 v1 : Value) (h : Heap) (K : Value → Heap → Prop) : Prop :=
  pEq false .ptr n0 (.pointer none) fun t8 =>
  ifV t8
  (K (.slice none 0 0) h)
  (pNil n0 fun t11 =>
  pField 5 t11 fun t12 =>
  pLoad h t12 fun t13 =>
  callS P F_net_one_sl_int [t13, v1] h fun t15 h_1 =>
  pExt t15 0 fun t16 =>
  pExt t15 1 fun t17 =>
  callS P F_slices_Clone_sl_int_int [t16] h_1 fun t19 h_2 =>
  K t19 h_2)

set_option maxRecDepth 100000 in
theorem lk_net_Net_In (n0 v1 : Value) {h : Heap} {K : Value → Heap → Prop} (H : sh_net_Net_In Tryz.prog n0 v1 h K) : CallsH Tryz.prog F_net_Net_In [n0, v1].toArray h K :=
  callsH_of (ann := (annG (Tryz.f24.body.getD .skip) 0 []).1) (c := Tryz.f24.body.getD .skip) Tryz.func24 (by kernel_rfl) (by kernel_rfl) (by kernel_rfl) (of_decide_eq_true (by kernel_rfl))
    (Eq.mpr (by kernel_rfl) H)

/-! milestone/flood.To$1 -/

def sh_flood_To_1 (P : Program) (a0 : Value) (h : Heap) (K : Value → Heap → Prop) : Prop :=
  pBox T_api_Arc a0 h fun a1 h_1 =>
  pField 0 a1 fun t3 =>
  pLoad h_1 t3 fun t4 =>
  K t4 h_1

set_option maxRecDepth 100000 in
theorem lk_flood_To_1 (a0 : Value) {h : Heap} {K : Value → Heap → Prop} (H : sh_flood_To_1 Tryz.prog a0 h K) : CallsH Tryz.prog F_flood_To_1 [a0].toArray h K :=
  callsH_of (ann := (annG (Tryz.f25.body.getD .skip) 0 []).1) (c := Tryz.f25.body.getD .skip) Tryz.func25 (by kernel_rfl) (by kernel_rfl) (by kernel_rfl) (of_decide_eq_true (by kernel_rfl))
    (Eq.mpr (by kernel_rfl) H)

/-! milestone/dist.folded -/

def sh_dist_folded_L1 (P : Program) (t8 l1 keep0 : Value) (K : Value → Heap → Prop) (sum4 t9 : Value) (h_1 : Heap) (Z : Value → Value → Heap → Prop) : Prop :=
  pBin .lss t9 t8 fun t10 =>
  ifV t10
  (pIdx 1 l1 t9 fun t11 =>
  pLoad h_1 t11 fun t12 =>
  callV P keep0 [t12].toArray h_1 fun t17 h_2 =>
  pBin .add sum4 t17 fun t18 =>
  callV P keep0 [t18].toArray h_2 fun t19 h_3 =>
  pBin .add t9 (.int .i64 1) fun t20 =>
  Z t19 t20 h_3)
  (K sum4 h_1)

def sh_dist_folded (P : Program) (keep0 l1 : Value) (h : Heap) (K : Value → Heap → Prop) : Prop :=
  pLen l1 fun t8 =>
  LoopH (σ := Vals [4, 9]) (fun x hh ZZ => sh_dist_folded_L1 P t8 l1 keep0 K x.1 x.2.1 hh (fun a0 a1 hz => ZZ (a0, (a1, ())) hz)) ((.int .i64 0), ((.int .i64 0), ())) h

set_option maxRecDepth 100000 in
theorem lk_dist_folded (keep0 l1 : Value) {h : Heap} {K : Value → Heap → Prop} (H : sh_dist_folded Tryz.prog keep0 l1 h K) : CallsH Tryz.prog F_dist_folded [keep0, l1].toArray h K :=
  callsH_of (ann := (annG (Tryz.f26.body.getD .skip) 0 [(3, [4, 9])]).1) (c := Tryz.f26.body.getD .skip) Tryz.func26 (by kernel_rfl) (by kernel_rfl) (by kernel_rfl) (of_decide_eq_true (by kernel_rfl))
    (Eq.mpr (by kernel_rfl) H)

/-! milestone/dist.way -/

def sh_dist_way (P : Program) (a0 : Value) (h : Heap) (K : Value → Heap → Prop) : Prop :=
  callS P F_dist_between_int64 [(.int .i64 0), (.int .i64 72057594037927936)] h fun t3 h_1 =>
  callV P t3 [a0].toArray h_1 fun t5 h_2 =>
  K t5 h_2

set_option maxRecDepth 100000 in
theorem lk_dist_way (a0 : Value) {h : Heap} {K : Value → Heap → Prop} (H : sh_dist_way Tryz.prog a0 h K) : CallsH Tryz.prog F_dist_way [a0].toArray h K :=
  callsH_of (ann := (annG (Tryz.f27.body.getD .skip) 0 []).1) (c := Tryz.f27.body.getD .skip) Tryz.func27 (by kernel_rfl) (by kernel_rfl) (by kernel_rfl) (of_decide_eq_true (by kernel_rfl))
    (Eq.mpr (by kernel_rfl) H)

/-! (*milestone/net.Net).Arcs -/

def sh_net_Net_Arcs (P : Program) (n0 : Value) (h : Heap) (K : Value → Heap → Prop) : Prop :=
  pEq false .ptr n0 (.pointer none) fun t4 =>
  ifV t4
  (K (.int .i64 0) h)
  (pNil n0 fun t6 =>
  pField 0 t6 fun t7 =>
  pField 3 t7 fun t8 =>
  pLoad h t8 fun t9 =>
  pLen t9 fun t10 =>
  K t10 h)

set_option maxRecDepth 100000 in
theorem lk_net_Net_Arcs (n0 : Value) {h : Heap} {K : Value → Heap → Prop} (H : sh_net_Net_Arcs Tryz.prog n0 h K) : CallsH Tryz.prog F_net_Net_Arcs [n0].toArray h K :=
  callsH_of (ann := (annG (Tryz.f28.body.getD .skip) 0 []).1) (c := Tryz.f28.body.getD .skip) Tryz.func28 (by kernel_rfl) (by kernel_rfl) (by kernel_rfl) (of_decide_eq_true (by kernel_rfl))
    (Eq.mpr (by kernel_rfl) H)

/-! milestone/tight.there -/

def sh_tight_there (P : Program) (n0 v1 : Value) (h : Heap) (K : Value → Heap → Prop) : Prop :=
  pEq true .ptr n0 (.pointer none) fun t6 =>
  ifV t6
  (pBin .geq v1 (.int .i64 0) fun t9 =>
  ifV t9
  (callS P F_net_Net_Nodes [n0] h fun t14 h_1 =>
  pBin .lss v1 t14 fun t15 =>
  K t15 h_1)
  (K (.bool false) h))
  (K (.bool false) h)

set_option maxRecDepth 100000 in
theorem lk_tight_there (n0 v1 : Value) {h : Heap} {K : Value → Heap → Prop} (H : sh_tight_there Tryz.prog n0 v1 h K) : CallsH Tryz.prog F_tight_there [n0, v1].toArray h K :=
  callsH_of (ann := (annG (Tryz.f29.body.getD .skip) 0 []).1) (c := Tryz.f29.body.getD .skip) Tryz.func29 (by kernel_rfl) (by kernel_rfl) (by kernel_rfl) (of_decide_eq_true (by kernel_rfl))
    (Eq.mpr (by kernel_rfl) H)

/-! milestone/tight.put[bool] -/

def sh_tight_put_bool_B1 (P : Program) (h_2 : Heap) (l3 x5 : Value) (L : Loop) (t9 : Value) (h_3 : Heap) (R : Exit → Heap → Prop) : Prop :=
  beginR (h_2.size + 1) L h_3 fun h_4 =>
  pLoad h_4 l3 fun t10 =>
  pLoad h_4 x5 fun t12 =>
  pIdx 1 t10 t9 fun t13 =>
  pStore 1 t13 t12 h_4 fun u h_5 =>
  R .normal h_5

def sh_tight_put_bool (P : Program) (l0 at1 x2 : Value) (h : Heap) (K : Value → Heap → Prop) : Prop :=
  pBox T_sl_bool l0 h fun l3 h_1 =>
  pBox T_bool x2 h_1 fun x5 h_2 =>
  rangeH P at1 [9] (h_2.size + 1) (h_2.push (.deferred (some []))) (fun L x hh R => sh_tight_put_bool_B1 P h_2 l3 x5 L x.1 hh R)
  (fun h_6 => pLoad h_6 l3 fun t14 =>
  takeM (h_2.size :: []) h_6 fun h_7 =>
  K t14 h_7)
  (fun h_8 => takeM (h_2.size :: []) h_8 fun h_9 =>
  K (.slice none 0 0) h_9)
  []

set_option maxRecDepth 100000 in
theorem lk_tight_put_bool (l0 at1 x2 : Value) {h : Heap} {K : Value → Heap → Prop} (H : sh_tight_put_bool Tryz.prog l0 at1 x2 h K) : CallsH Tryz.prog F_tight_put_bool [l0, at1, x2].toArray h K :=
  callsH_of (ann := (annG (Tryz.f30.body.getD .skip) 0 []).1) (c := Tryz.f30.body.getD .skip) Tryz.func30 (by kernel_rfl) (by kernel_rfl) (by kernel_rfl) (of_decide_eq_true (by kernel_rfl))
    (Eq.mpr (by kernel_rfl) H)

/-! milestone/tight.marked -/

def sh_tight_marked (P : Program) (many0 holds1 : Value) (h : Heap) (K : Value → Heap → Prop) : Prop :=
  pBox T_int many0 h fun many2 h_1 =>
  pBox T_func_int_bool holds1 h_1 fun holds3 h_2 =>
  K (.func (.func F_tight_marked_1) #[] #[many2, holds3]) h_2

set_option maxRecDepth 100000 in
theorem lk_tight_marked (many0 holds1 : Value) {h : Heap} {K : Value → Heap → Prop} (H : sh_tight_marked Tryz.prog many0 holds1 h K) : CallsH Tryz.prog F_tight_marked [many0, holds1].toArray h K :=
  callsH_of (ann := (annG (Tryz.f31.body.getD .skip) 0 []).1) (c := Tryz.f31.body.getD .skip) Tryz.func31 (by kernel_rfl) (by kernel_rfl) (by kernel_rfl) (of_decide_eq_true (by kernel_rfl))
    (Eq.mpr (by kernel_rfl) H)

/-! milestone/tight.tells -/

def sh_tight_tells (P : Program) (n0 b1 : Value) (h : Heap) (K : Value → Heap → Prop) : Prop :=
  pBox T_p_net_Net n0 h fun n2 h_1 =>
  pLoad h_1 n2 fun t6 =>
  callS P F_flood_To [t6, b1] h_1 fun t8 h_2 =>
  pBox T_flood_Tree (.agg #[(.slice none 0 0), (.slice none 0 0), (.slice none 0 0)]) h_2 fun x5 h_3 =>
  pStore 3 x5 t8 h_3 fun u h_4 =>
  K (.func (.func F_tight_tells_1) #[] #[n2, x5]) h_4

set_option maxRecDepth 100000 in
theorem lk_tight_tells (n0 b1 : Value) {h : Heap} {K : Value → Heap → Prop} (H : sh_tight_tells Tryz.prog n0 b1 h K) : CallsH Tryz.prog F_tight_tells [n0, b1].toArray h K :=
  callsH_of (ann := (annG (Tryz.f32.body.getD .skip) 0 []).1) (c := Tryz.f32.body.getD .skip) Tryz.func32 (by kernel_rfl) (by kernel_rfl) (by kernel_rfl) (of_decide_eq_true (by kernel_rfl))
    (Eq.mpr (by kernel_rfl) H)

/-! (*milestone/net.Net).Out -/

def sh_net_Net_Out (P : Program) (n0 v1 : Value) (h : Heap) (K : Value → Heap → Prop) : Prop :=
  pEq false .ptr n0 (.pointer none) fun t8 =>
  ifV t8
  (K (.slice none 0 0) h)
  (pNil n0 fun t11 =>
  pField 4 t11 fun t12 =>
  pLoad h t12 fun t13 =>
  callS P F_net_one_sl_int [t13, v1] h fun t15 h_1 =>
  pExt t15 0 fun t16 =>
  pExt t15 1 fun t17 =>
  callS P F_slices_Clone_sl_int_int [t16] h_1 fun t19 h_2 =>
  K t19 h_2)

set_option maxRecDepth 100000 in
theorem lk_net_Net_Out (n0 v1 : Value) {h : Heap} {K : Value → Heap → Prop} (H : sh_net_Net_Out Tryz.prog n0 v1 h K) : CallsH Tryz.prog F_net_Net_Out [n0, v1].toArray h K :=
  callsH_of (ann := (annG (Tryz.f33.body.getD .skip) 0 []).1) (c := Tryz.f33.body.getD .skip) Tryz.func33 (by kernel_rfl) (by kernel_rfl) (by kernel_rfl) (of_decide_eq_true (by kernel_rfl))
    (Eq.mpr (by kernel_rfl) H)

/-! (*milestone/net.Net).Arc -/

def sh_net_Net_Arc (P : Program) (n0 a1 : Value) (h : Heap) (K : Value → Heap → Prop) : Prop :=
  pBox T_api_Arc (.agg #[(.int .i64 0), (.int .i64 0), (.int .i64 0)]) h fun t4 h_1 =>
  pEq false .ptr n0 (.pointer none) fun t7 =>
  ifV t7
  (pBuild [(.int .i64 0), (.int .i64 0), (.int .i64 0)] [] fun t8 =>
  pStore 3 t4 t8 h_1 fun u h_2 =>
  pLoadN 3 h_2 t4 fun res =>
  K (.tuple #[res, (.bool false)]) h_2)
  (pNil n0 fun t10 =>
  pField 0 t10 fun t11 =>
  pField 3 t11 fun t12 =>
  pLoad h_1 t12 fun t13 =>
  callS P F_net_one_api_Arc [t13, a1] h_1 fun t15 h_3 =>
  pExt t15 0 fun t16 =>
  pExt t15 1 fun t17 =>
  pStore 3 t4 t16 h_3 fun u_1 h_4 =>
  pLoadN 3 h_4 t4 fun res_1 =>
  K (.tuple #[res_1, t17]) h_4)

set_option maxRecDepth 100000 in
theorem lk_net_Net_Arc (n0 a1 : Value) {h : Heap} {K : Value → Heap → Prop} (H : sh_net_Net_Arc Tryz.prog n0 a1 h K) : CallsH Tryz.prog F_net_Net_Arc [n0, a1].toArray h K :=
  callsH_of (ann := (annG (Tryz.f34.body.getD .skip) 0 []).1) (c := Tryz.f34.body.getD .skip) Tryz.func34 (by kernel_rfl) (by kernel_rfl) (by kernel_rfl) (of_decide_eq_true (by kernel_rfl))
    (Eq.mpr (by kernel_rfl) H)

/-! slices.Reverse[[]int,int] -/

def sh_slices_Reverse_sl_int_int_L1 (P : Program) (s0 : Value) (K : Value → Heap → Prop) (i2 j3 : Value) (h_1 : Heap) (Z : Value → Value → Heap → Prop) : Prop :=
  pBin .lss i2 j3 fun t9 =>
  ifV t9
  (pIdx 1 s0 j3 fun t20 =>
  pLoad h_1 t20 fun t21 =>
  pIdx 1 s0 i2 fun t24 =>
  pLoad h_1 t24 fun t25 =>
  pIdx 1 s0 i2 fun t26 =>
  pStore 1 t26 t21 h_1 fun u h_2 =>
  pIdx 1 s0 j3 fun t27 =>
  pStore 1 t27 t25 h_2 fun u_1 h_3 =>
  pBin .add i2 (.int .i64 1) fun t11 =>
  pBin .sub j3 (.int .i64 1) fun t13 =>
  Z t11 t13 h_3)
  (K (.tuple #[]) h_1)

def sh_slices_Reverse_sl_int_int (P : Program) (s0 : Value) (h : Heap) (K : Value → Heap → Prop) : Prop :=
  pLen s0 fun t5 =>
  pBin .sub t5 (.int .i64 1) fun t6 =>
  LoopH (σ := Vals [2, 3]) (fun x hh ZZ => sh_slices_Reverse_sl_int_int_L1 P s0 K x.1 x.2.1 hh (fun a0 a1 hz => ZZ (a0, (a1, ())) hz)) ((.int .i64 0), (t6, ())) h

set_option maxRecDepth 100000 in
theorem lk_slices_Reverse_sl_int_int (s0 : Value) {h : Heap} {K : Value → Heap → Prop} (H : sh_slices_Reverse_sl_int_int Tryz.prog s0 h K) : CallsH Tryz.prog F_slices_Reverse_sl_int_int [s0].toArray h K :=
  callsH_of (ann := (annG (Tryz.f35.body.getD .skip) 0 [(1, [2, 3])]).1) (c := Tryz.f35.body.getD .skip) Tryz.func35 (by kernel_rfl) (by kernel_rfl) (by kernel_rfl) (of_decide_eq_true (by kernel_rfl))
    (Eq.mpr (by kernel_rfl) H)

/-! milestone/milestoneref10.Least -/

def sh_milestoneref10_Least_k2 (P : Program) (K : Value → Heap → Prop) (h_5 : Heap) : Prop :=
  K (.slice none 0 0) h_5

def sh_milestoneref10_Least_k6 (P : Program) (i8 : Value) (Z_2 : Value → Value → Heap → Prop) (more7_2 : Value) (h_13 : Heap) : Prop :=
  pBin .add i8 (.int .i64 1) fun t37 =>
  Z_2 more7_2 t37 h_13

def sh_milestoneref10_Least_C5 (P : Program) (a9 l5 i8 : Value) (Z_2 : Value → Value → Heap → Prop) (more7_1 t64 : Value) (h_11 : Heap) : Prop :=
  ifV t64
  (pField 1 a9 fun t66 =>
  pLoad h_11 t66 fun t67 =>
  pField 0 a9 fun t69 =>
  pLoad h_11 t69 fun t70 =>
  pIdx 1 l5 t70 fun t71 =>
  pLoad h_11 t71 fun t72 =>
  pField 2 a9 fun t73 =>
  pLoad h_11 t73 fun t74 =>
  pBin .add t72 t74 fun t75 =>
  pIdx 1 l5 t67 fun t76 =>
  pStore 1 t76 t75 h_11 fun u_2 h_12 =>
  sh_milestoneref10_Least_k6 P i8 Z_2 (.bool true) h_12)
  (sh_milestoneref10_Least_k6 P i8 Z_2 more7_1 h_11)

def sh_milestoneref10_Least_L4 (P : Program) (g2 l5 : Value) (Z_1 : Value → Heap → Prop) (more7_1 i8 : Value) (h_8 : Heap) (Z_2 : Value → Value → Heap → Prop) : Prop :=
  pField 3 g2 fun t32 =>
  pLoad h_8 t32 fun t33 =>
  pLen t33 fun t34 =>
  pBin .lss i8 t34 fun t35 =>
  ifV t35
  (pField 3 g2 fun t38 =>
  pLoad h_8 t38 fun t39 =>
  pIdx 3 t39 i8 fun t41 =>
  pLoadN 3 h_8 t41 fun t42 =>
  pBox T_api_Arc (.agg #[(.int .i64 0), (.int .i64 0), (.int .i64 0)]) h_8 fun a9 h_9 =>
  pStore 3 a9 t42 h_9 fun u_1 h_10 =>
  cutP (σ := Vals [64]) (fun J =>
  pField 0 a9 fun t44 =>
  pLoad h_10 t44 fun t45 =>
  pIdx 1 l5 t45 fun t46 =>
  pLoad h_10 t46 fun t47 =>
  pBin .lss t47 (.int .i64 72057594037927936) fun t48 =>
  ifV t48
  (pField 0 a9 fun t51 =>
  pLoad h_10 t51 fun t52 =>
  pIdx 1 l5 t52 fun t53 =>
  pLoad h_10 t53 fun t54 =>
  pField 2 a9 fun t55 =>
  pLoad h_10 t55 fun t56 =>
  pBin .add t54 t56 fun t57 =>
  pField 1 a9 fun t59 =>
  pLoad h_10 t59 fun t60 =>
  pIdx 1 l5 t60 fun t61 =>
  pLoad h_10 t61 fun t62 =>
  pBin .lss t57 t62 fun t63 =>
  J (t63, ()) h_10)
  (J ((.bool false), ()) h_10))
  (fun x hh => sh_milestoneref10_Least_C5 P a9 l5 i8 Z_2 more7_1 x.1 hh))
  (Z_1 more7_1 h_8)

def sh_milestoneref10_Least_L3 (P : Program) (g2 l5 : Value) (K : Value → Heap → Prop) (more7 : Value) (h_7 : Heap) (Z_1 : Value → Heap → Prop) : Prop :=
  ifV more7
  (LoopH (σ := Vals [7, 8]) (fun x hh ZZ => sh_milestoneref10_Least_L4 P g2 l5 Z_1 x.1 x.2.1 hh (fun a0 a1 hz => ZZ (a0, (a1, ())) hz)) ((.bool false), ((.int .i64 0), ())) h_7)
  (K l5 h_7)

def sh_milestoneref10_Least_L1 (P : Program) (g2 s1 : Value) (K : Value → Heap → Prop) (l5 v6 : Value) (h_2 : Heap) (Z : Value → Value → Heap → Prop) : Prop :=
  pField 0 g2 fun t11 =>
  pLoad h_2 t11 fun t12 =>
  pBin .lss v6 t12 fun t13 =>
  ifV t13
  (pBuildSlice T_int64 (zerosL [(.int .i64 0)] 1) [(0, 1, (.int .i64 72057594037927936))] 1 h_2 fun t17 h_3 =>
  pAppend T_int64 1 8 [(.int .i64 0)] l5 t17 h_3 fun t18 h_4 =>
  pBin .add v6 (.int .i64 1) fun t15 =>
  Z t18 t15 h_4)
  (pBin .lss s1 (.int .i64 0) fun t20 =>
  ifV t20
  (sh_milestoneref10_Least_k2 P K h_2)
  (pField 0 g2 fun t23 =>
  pLoad h_2 t23 fun t24 =>
  pBin .geq s1 t24 fun t25 =>
  ifV t25
  (sh_milestoneref10_Least_k2 P K h_2)
  (pIdx 1 l5 s1 fun t29 =>
  pStore 1 t29 (.int .i64 0) h_2 fun u h_6 =>
  LoopH (σ := Vals [7]) (fun x hh ZZ => sh_milestoneref10_Least_L3 P g2 l5 K x.1 hh (fun a0 hz => ZZ (a0, ()) hz)) ((.bool true), ()) h_6)))

def sh_milestoneref10_Least (P : Program) (g0 s1 : Value) (h : Heap) (K : Value → Heap → Prop) : Prop :=
  pBox T_api_Raw g0 h fun g2 h_1 =>
  LoopH (σ := Vals [5, 6]) (fun x hh ZZ => sh_milestoneref10_Least_L1 P g2 s1 K x.1 x.2.1 hh (fun a0 a1 hz => ZZ (a0, (a1, ())) hz)) ((.slice none 0 0), ((.int .i64 0), ())) h_1

set_option maxRecDepth 100000 in
theorem lk_milestoneref10_Least (g0 s1 : Value) {h : Heap} {K : Value → Heap → Prop} (H : sh_milestoneref10_Least Tryz.prog g0 s1 h K) : CallsH Tryz.prog F_milestoneref10_Least [g0, s1].toArray h K :=
  callsH_of (ann := (annG (Tryz.f36.body.getD .skip) 0 [(4, [5, 6]), (14, [7]), (19, [7, 8]), (24, [64])]).1) (c := Tryz.f36.body.getD .skip) Tryz.func36 (by kernel_rfl) (by kernel_rfl) (by kernel_rfl) (of_decide_eq_true (by kernel_rfl))
    (Eq.mpr (by kernel_rfl) H)

/-! milestone/milestoneref07.Turned -/

def sh_milestoneref07_Turned_L1 (P : Program) (out3 g1 t2 : Value) (K : Value → Heap → Prop) (a4 : Value) (h_6 : Heap) (Z : Value → Heap → Prop) : Prop :=
  pField 3 out3 fun t8 =>
  pLoad h_6 t8 fun t9 =>
  pLen t9 fun t10 =>
  pBin .lss a4 t10 fun t11 =>
  ifV t11
  (pField 3 out3 fun t14 =>
  pLoad h_6 t14 fun t15 =>
  pField 3 g1 fun t17 =>
  pLoad h_6 t17 fun t18 =>
  pIdx 3 t18 a4 fun t20 =>
  pField 1 t20 fun t21 =>
  pLoad h_6 t21 fun t22 =>
  pIdx 3 t15 a4 fun t23 =>
  pField 0 t23 fun t24 =>
  pStore 1 t24 t22 h_6 fun u_1 h_7 =>
  pField 3 out3 fun t25 =>
  pLoad h_7 t25 fun t26 =>
  pField 3 g1 fun t28 =>
  pLoad h_7 t28 fun t29 =>
  pIdx 3 t29 a4 fun t31 =>
  pField 0 t31 fun t32 =>
  pLoad h_7 t32 fun t33 =>
  pIdx 3 t26 a4 fun t34 =>
  pField 1 t34 fun t35 =>
  pStore 1 t35 t33 h_7 fun u_2 h_8 =>
  pBin .add a4 (.int .i64 1) fun t13 =>
  Z t13 h_8)
  (pLoadN 4 h_6 out3 fun t36 =>
  pStore 4 t2 t36 h_6 fun u_3 h_9 =>
  pLoadN 4 h_9 t2 fun res =>
  K res h_9)

def sh_milestoneref07_Turned (P : Program) (g0 : Value) (h : Heap) (K : Value → Heap → Prop) : Prop :=
  pBox T_api_Raw g0 h fun g1 h_1 =>
  pBox T_api_Raw (.agg #[(.int .i64 0), (.slice none 0 0), (.slice none 0 0), (.slice none 0 0)]) h_1 fun t2 h_2 =>
  pLoadN 4 h_2 g1 fun t5 =>
  callS P F_milestoneref07_Copy [t5] h_2 fun t6 h_3 =>
  pBox T_api_Raw (.agg #[(.int .i64 0), (.slice none 0 0), (.slice none 0 0), (.slice none 0 0)]) h_3 fun out3 h_4 =>
  pStore 4 out3 t6 h_4 fun u h_5 =>
  LoopH (σ := Vals [4]) (fun x hh ZZ => sh_milestoneref07_Turned_L1 P out3 g1 t2 K x.1 hh (fun a0 hz => ZZ (a0, ()) hz)) ((.int .i64 0), ()) h_5

set_option maxRecDepth 100000 in
theorem lk_milestoneref07_Turned (g0 : Value) {h : Heap} {K : Value → Heap → Prop} (H : sh_milestoneref07_Turned Tryz.prog g0 h K) : CallsH Tryz.prog F_milestoneref07_Turned [g0].toArray h K :=
  callsH_of (ann := (annG (Tryz.f37.body.getD .skip) 0 [(4, [4])]).1) (c := Tryz.f37.body.getD .skip) Tryz.func37 (by kernel_rfl) (by kernel_rfl) (by kernel_rfl) (of_decide_eq_true (by kernel_rfl))
    (Eq.mpr (by kernel_rfl) H)

/-! milestone/walk.node -/

def sh_walk_node (P : Program) (n0 v1 : Value) (h : Heap) (K : Value → Heap → Prop) : Prop :=
  pBin .geq v1 (.int .i64 0) fun t6 =>
  ifV t6
  (callS P F_net_Net_Nodes [n0] h fun t10 h_1 =>
  pBin .lss v1 t10 fun t11 =>
  K t11 h_1)
  (K (.bool false) h)

set_option maxRecDepth 100000 in
theorem lk_walk_node (n0 v1 : Value) {h : Heap} {K : Value → Heap → Prop} (H : sh_walk_node Tryz.prog n0 v1 h K) : CallsH Tryz.prog F_walk_node [n0, v1].toArray h K :=
  callsH_of (ann := (annG (Tryz.f38.body.getD .skip) 0 []).1) (c := Tryz.f38.body.getD .skip) Tryz.func38 (by kernel_rfl) (by kernel_rfl) (by kernel_rfl) (of_decide_eq_true (by kernel_rfl))
    (Eq.mpr (by kernel_rfl) H)

/-! milestone/walk.steps -/

def sh_walk_steps (P : Program) (n0 s1 arcs2 : Value) (h : Heap) (K : Value → Heap → Prop) : Prop :=
  pBox T_p_net_Net n0 h fun n3 h_1 =>
  pBox T_int s1 h_1 fun s4 h_2 =>
  pBox T_sl_int arcs2 h_2 fun arcs5 h_3 =>
  K (.func (.func F_walk_steps_1) #[] #[arcs5, n3, s4]) h_3

set_option maxRecDepth 100000 in
theorem lk_walk_steps (n0 s1 arcs2 : Value) {h : Heap} {K : Value → Heap → Prop} (H : sh_walk_steps Tryz.prog n0 s1 arcs2 h K) : CallsH Tryz.prog F_walk_steps [n0, s1, arcs2].toArray h K :=
  callsH_of (ann := (annG (Tryz.f39.body.getD .skip) 0 []).1) (c := Tryz.f39.body.getD .skip) Tryz.func39 (by kernel_rfl) (by kernel_rfl) (by kernel_rfl) (of_decide_eq_true (by kernel_rfl))
    (Eq.mpr (by kernel_rfl) H)

/-! (*milestone/milestoneref07.Draft).Next -/

def sh_milestoneref07_Draft_Next_k1 (P : Program) (K : Value → Heap → Prop) (h_1 : Heap) : Prop :=
  K (.int .i64 0) h_1

def sh_milestoneref07_Draft_Next (P : Program) (d0 n1 : Value) (h : Heap) (K : Value → Heap → Prop) : Prop :=
  pNil d0 fun t6 =>
  pField 0 t6 fun t7 =>
  pLoad h t7 fun t8 =>
  pLen t8 fun t9 =>
  pBin .eql t9 (.int .i64 0) fun t10 =>
  ifV t10
  (sh_milestoneref07_Draft_Next_k1 P K h)
  (pBin .lss n1 (.int .i64 1) fun t13 =>
  ifV t13
  (sh_milestoneref07_Draft_Next_k1 P K h)
  (pNil d0 fun t16 =>
  pField 1 t16 fun t17 =>
  pLoad h t17 fun t18 =>
  pBin .add t18 (.int .i64 1) fun t19 =>
  pNil d0 fun t20 =>
  pField 1 t20 fun t21 =>
  pStore 1 t21 t19 h fun u h_2 =>
  pNil d0 fun t23 =>
  pField 0 t23 fun t24 =>
  pLoad h_2 t24 fun t25 =>
  pNil d0 fun t27 =>
  pField 1 t27 fun t28 =>
  pLoad h_2 t28 fun t29 =>
  pBin .sub t29 (.int .i64 1) fun t30 =>
  pNil d0 fun t32 =>
  pField 0 t32 fun t33 =>
  pLoad h_2 t33 fun t34 =>
  pLen t34 fun t35 =>
  pBin .rem t30 t35 fun t36 =>
  pIdx 1 t25 t36 fun t37 =>
  pLoad h_2 t37 fun t38 =>
  pNil d0 fun t40 =>
  pField 1 t40 fun t41 =>
  pLoad h_2 t41 fun t42 =>
  pBin .sub t42 (.int .i64 1) fun t43 =>
  pNil d0 fun t45 =>
  pField 0 t45 fun t46 =>
  pLoad h_2 t46 fun t47 =>
  pLen t47 fun t48 =>
  pBin .quo t43 t48 fun t49 =>
  pConv .u8 t49 fun t50 =>
  pBin .add t38 t50 fun t51 =>
  pConv .i64 t51 fun t52 =>
  pBin .rem t52 n1 fun t54 =>
  K t54 h_2))

set_option maxRecDepth 100000 in
theorem lk_milestoneref07_Draft_Next (d0 n1 : Value) {h : Heap} {K : Value → Heap → Prop} (H : sh_milestoneref07_Draft_Next Tryz.prog d0 n1 h K) : CallsH Tryz.prog F_milestoneref07_Draft_Next [d0, n1].toArray h K :=
  callsH_of (ann := (annG (Tryz.f40.body.getD .skip) 0 []).1) (c := Tryz.f40.body.getD .skip) Tryz.func40 (by kernel_rfl) (by kernel_rfl) (by kernel_rfl) (of_decide_eq_true (by kernel_rfl))
    (Eq.mpr (by kernel_rfl) H)

/-! (*milestone/milestoneref07.Draft).Weight -/

def sh_milestoneref07_Draft_Weight (P : Program) (d0 : Value) (h : Heap) (K : Value → Heap → Prop) : Prop :=
  callS P F_milestoneref07_Draft_Next [d0, (.int .i64 12)] h fun t5 h_1 =>
  pBin .lss t5 (.int .i64 3) fun t8 =>
  ifV t8
  (K (.int .i64 0) h_1)
  (pBin .lss t5 (.int .i64 10) fun t11 =>
  ifV t11
  (callS P F_milestoneref07_Draft_Next [d0, (.int .i64 9)] h_1 fun t13 h_2 =>
  pBin .add (.int .i64 1) t13 fun t14 =>
  K t14 h_2)
  (pBin .lss t5 (.int .i64 11) fun t17 =>
  ifV t17
  (callS P F_milestoneref07_Draft_Next [d0, (.int .i64 20)] h_1 fun t19 h_3 =>
  pBin .mul (.int .i64 100) t19 fun t20 =>
  K t20 h_3)
  (callS P F_milestoneref07_Draft_Next [d0, (.int .i64 2)] h_1 fun t22 h_4 =>
  pBin .sub (.int .i64 2147483647) t22 fun t23 =>
  K t23 h_4)))

set_option maxRecDepth 100000 in
theorem lk_milestoneref07_Draft_Weight (d0 : Value) {h : Heap} {K : Value → Heap → Prop} (H : sh_milestoneref07_Draft_Weight Tryz.prog d0 h K) : CallsH Tryz.prog F_milestoneref07_Draft_Weight [d0].toArray h K :=
  callsH_of (ann := (annG (Tryz.f41.body.getD .skip) 0 []).1) (c := Tryz.f41.body.getD .skip) Tryz.func41 (by kernel_rfl) (by kernel_rfl) (by kernel_rfl) (of_decide_eq_true (by kernel_rfl))
    (Eq.mpr (by kernel_rfl) H)

/-! milestone/graph.Check -/

def sh_graph_Check (P : Program) (r0 : Value) (h : Heap) (K : Value → Heap → Prop) : Prop :=
  pBox T_api_Raw r0 h fun r1 h_1 =>
  pBox T_error .nilIface h_1 fun err2 h_2 =>
  pLoadN 4 h_2 r1 fun t4 =>
  callS P F_graph_look [t4] h_2 fun t5 h_3 =>
  pStore 1 err2 .nilIface h_3 fun u h_4 =>
  DeferS P F_graph_Check_1 #[err2] h_4 fun h_5 =>
  pLoad h_5 err2 fun res =>
  K res h_5

set_option maxRecDepth 100000 in
theorem lk_graph_Check (r0 : Value) {h : Heap} {K : Value → Heap → Prop} (H : sh_graph_Check Tryz.prog r0 h K) : CallsH Tryz.prog F_graph_Check [r0].toArray h K :=
  callsH_defer (g := F_graph_Check_1) (A := cL (Tryz.f42.body.getD .skip)) (B := cR (cR (Tryz.f42.body.getD .skip))) (annA := (annG (cL (Tryz.f42.body.getD .skip)) 0 []).1) (annB := (annG (cR (cR (Tryz.f42.body.getD .skip))) 0 []).1) (id := cId (cL (cR (Tryz.f42.body.getD .skip)))) (o1 := cO 0 (cL (cR (Tryz.f42.body.getD .skip)))) (o2 := cO 1 (cL (cR (Tryz.f42.body.getD .skip)))) (s := 3) (caps := #[(.tmp 2)]) (c := { callee := .value (.tmp 3), args := #[], argTypes := #[] })
    Tryz.func42 (by kernel_rfl) (by kernel_rfl) (by kernel_rfl) (of_decide_eq_true (by kernel_rfl)) (by kernel_rfl) (by kernel_rfl) (by kernel_rfl) (by kernel_rfl) rfl rfl (by kernel_rfl) (by kernel_rfl)
    (Eq.mpr (by kernel_rfl) H)

end Go.Proofs.YtlkcpceobicoiaaGreatDoor

namespace Go.Proofs.YtlkcpceobicoiaaGreatDoor
open Go Go.Mh
set_option maxHeartbeats 0
set_option linter.unusedVariables false

/-! milestone/net.of -/

def sh_net_of (P : Program) (raw0 : Value) (h : Heap) (K : Value → Heap → Prop) : Prop :=
  pBox T_api_Raw raw0 h fun raw1 h_1 =>
  pLoadN 4 h_1 raw1 fun t5 =>
  pBuild [(.int .i64 0), (.slice none 0 0), (.slice none 0 0), (.slice none 0 0), (.slice none 0 0), (.slice none 0 0)] [(0, 4, t5)] fun t6 =>
  pBox T_net_Net t6 h_1 fun t7 h_2 =>
  callV P (.func (.func F_net_of_1) #[] #[raw1]) [(.func (.func F_net_of_2) #[] #[])].toArray h_2 fun t12 h_3 =>
  callV P (.func (.func F_net_of_1) #[] #[raw1]) [(.func (.func F_net_of_3) #[] #[])].toArray h_3 fun t14 h_4 =>
  pNil t7 fun t15 =>
  pField 4 t15 fun t16 =>
  pStore 1 t16 t12 h_4 fun u h_5 =>
  pNil t7 fun t17 =>
  pField 5 t17 fun t18 =>
  pStore 1 t18 t14 h_5 fun u_1 h_6 =>
  K t7 h_6

set_option maxRecDepth 100000 in
theorem lk_net_of (raw0 : Value) {h : Heap} {K : Value → Heap → Prop} (H : sh_net_of Tryz.prog raw0 h K) : CallsH Tryz.prog F_net_of [raw0].toArray h K :=
  callsH_of (ann := (annG (Tryz.f44.body.getD .skip) 0 []).1) (c := Tryz.f44.body.getD .skip) Tryz.func44 (by kernel_rfl) (by kernel_rfl) (by kernel_rfl) (of_decide_eq_true (by kernel_rfl))
    (Eq.mpr (by kernel_rfl) H)

/-! milestone/net.own -/

def sh_net_own (P : Program) (raw0 : Value) (h : Heap) (K : Value → Heap → Prop) : Prop :=
  pBox T_api_Raw raw0 h fun raw1 h_1 =>
  pBox T_api_Raw (.agg #[(.int .i64 0), (.slice none 0 0), (.slice none 0 0), (.slice none 0 0)]) h_1 fun t2 h_2 =>
  pField 1 raw1 fun t3 =>
  pLoad h_2 t3 fun t4 =>
  pField 2 raw1 fun t6 =>
  pLoad h_2 t6 fun t7 =>
  pField 3 raw1 fun t9 =>
  pLoad h_2 t9 fun t10 =>
  callS P F_slices_Clone_sl_int64_int64 [t4] h_2 fun t5 h_3 =>
  (pLoad h_3 t6 fun t7_1 =>
  t7_1 = t7) ∧
  (pLoad h_3 t9 fun t10_1 =>
  t10_1 = t10) ∧
  (pField 1 raw1 fun t12 =>
  callS P F_slices_Clone_sl_int64_int64 [t7] h_3 fun t8 h_4 =>
  (pLoad h_4 t9 fun t10_2 =>
  t10_2 = t10) ∧
  (callS P F_slices_Clone_sl_api_Arc_api_Arc [t10] h_4 fun t11 h_5 =>
  pStore 1 t12 t5 h_5 fun u h_6 =>
  pField 2 raw1 fun t13 =>
  pStore 1 t13 t8 h_6 fun u_1 h_7 =>
  pField 3 raw1 fun t14 =>
  pStore 1 t14 t11 h_7 fun u_2 h_8 =>
  pLoadN 4 h_8 raw1 fun t15 =>
  pStore 4 t2 t15 h_8 fun u_3 h_9 =>
  pLoadN 4 h_9 t2 fun res =>
  K res h_9))

set_option maxRecDepth 100000 in
theorem lk_net_own (raw0 : Value) {h : Heap} {K : Value → Heap → Prop} (H : sh_net_own Tryz.prog raw0 h K) : CallsH Tryz.prog F_net_own [raw0].toArray h K :=
  callsH_of (ann := (annG (Tryz.f45.body.getD .skip) 0 []).1) (c := Tryz.f45.body.getD .skip) Tryz.func45 (by kernel_rfl) (by kernel_rfl) (by kernel_rfl) (of_decide_eq_true (by kernel_rfl))
    (Eq.mpr (by kernel_rfl) H)

/-! (*milestone/net.Net).Nodes -/

def sh_net_Net_Nodes (P : Program) (n0 : Value) (h : Heap) (K : Value → Heap → Prop) : Prop :=
  pEq false .ptr n0 (.pointer none) fun t4 =>
  ifV t4
  (K (.int .i64 0) h)
  (pNil n0 fun t6 =>
  pField 0 t6 fun t7 =>
  pField 0 t7 fun t8 =>
  pLoad h t8 fun t9 =>
  K t9 h)

set_option maxRecDepth 100000 in
theorem lk_net_Net_Nodes (n0 : Value) {h : Heap} {K : Value → Heap → Prop} (H : sh_net_Net_Nodes Tryz.prog n0 h K) : CallsH Tryz.prog F_net_Net_Nodes [n0].toArray h K :=
  callsH_of (ann := (annG (Tryz.f46.body.getD .skip) 0 []).1) (c := Tryz.f46.body.getD .skip) Tryz.func46 (by kernel_rfl) (by kernel_rfl) (by kernel_rfl) (of_decide_eq_true (by kernel_rfl))
    (Eq.mpr (by kernel_rfl) H)

/-! milestone/heap.New -/

def sh_heap_New (P : Program) (n0 : Value) (h : Heap) (K : Value → Heap → Prop) : Prop :=
  pMakeMap h fun t3 h_1 =>
  pBuild [(.slice none 0 0), (.map none)] [(1, 1, t3)] fun t4 =>
  pMax n0 (.int .i64 0) fun t6 =>
  pBuild [(.slice none 0 0), (.map none), (.int .i64 0)] [(0, 2, t4), (2, 1, t6)] fun t7 =>
  pBox T_heap_Heap t7 h_1 fun t8 h_2 =>
  K t8 h_2

set_option maxRecDepth 100000 in
theorem lk_heap_New (n0 : Value) {h : Heap} {K : Value → Heap → Prop} (H : sh_heap_New Tryz.prog n0 h K) : CallsH Tryz.prog F_heap_New [n0].toArray h K :=
  callsH_of (ann := (annG (Tryz.f47.body.getD .skip) 0 []).1) (c := Tryz.f47.body.getD .skip) Tryz.func47 (by kernel_rfl) (by kernel_rfl) (by kernel_rfl) (of_decide_eq_true (by kernel_rfl))
    (Eq.mpr (by kernel_rfl) H)

/-! slices.Repeat[[]int64,int64] -/

def sh_slices_Repeat_sl_int64_int64_k1 (P : Program) (h_2 : Heap) : Prop :=
  False

def sh_slices_Repeat_sl_int64_int64_L2 (P : Program) (t30 : Value) (K : Value → Heap → Prop) (n8 : Value) (h_5 : Heap) (Z : Value → Heap → Prop) : Prop :=
  pLen t30 fun t36 =>
  pBin .lss n8 t36 fun t37 =>
  ifV t37
  (pSlice 1 t30 (some n8) none none fun t41 =>
  pSlice 1 t30 none (some n8) none fun t44 =>
  pCopy 1 t41 t44 h_5 fun t45 h_6 =>
  pBin .add n8 t45 fun t46 =>
  Z t46 h_6)
  (K t30 h_5)

def sh_slices_Repeat_sl_int64_int64 (P : Program) (x0 count1 : Value) (h : Heap) (K : Value → Heap → Prop) : Prop :=
  pBin .lss count1 (.int .i64 0) fun t10 =>
  ifV t10
  (False)
  (pLen x0 fun t14 =>
  pConv .u64 t14 fun t15 =>
  pConv .u64 count1 fun t17 =>
  callS P F_math_bits_Mul [t15, t17] h fun t18 h_1 =>
  pExt t18 0 fun t19 =>
  pExt t18 1 fun t20 =>
  pBin .gtr t19 (.int .u64 0) fun t22 =>
  ifV t22
  (sh_slices_Repeat_sl_int64_int64_k1 P h_1)
  (pBin .gtr t20 (.int .u64 9223372036854775807) fun t25 =>
  ifV t25
  (sh_slices_Repeat_sl_int64_int64_k1 P h_1)
  (pConv .i64 t20 fun t29 =>
  pMakeSlice T_int64 8 [(.int .i64 0)] t29 t29 h_1 fun t30 h_3 =>
  pCopy 1 t30 x0 h_3 fun t33 h_4 =>
  LoopH (σ := Vals [8]) (fun x hh ZZ => sh_slices_Repeat_sl_int64_int64_L2 P t30 K x.1 hh (fun a0 hz => ZZ (a0, ()) hz)) (t33, ()) h_4)))

set_option maxRecDepth 100000 in
theorem lk_slices_Repeat_sl_int64_int64 (x0 count1 : Value) {h : Heap} {K : Value → Heap → Prop} (H : sh_slices_Repeat_sl_int64_int64 Tryz.prog x0 count1 h K) : CallsH Tryz.prog F_slices_Repeat_sl_int64_int64 [x0, count1].toArray h K :=
  callsH_of (ann := (annG (Tryz.f48.body.getD .skip) 0 [(9, [8])]).1) (c := Tryz.f48.body.getD .skip) Tryz.func48 (by kernel_rfl) (by kernel_rfl) (by kernel_rfl) (of_decide_eq_true (by kernel_rfl))
    (Eq.mpr (by kernel_rfl) H)

/-! slices.Repeat[[]int,int] -/

def sh_slices_Repeat_sl_int_int_k1 (P : Program) (h_2 : Heap) : Prop :=
  False

def sh_slices_Repeat_sl_int_int_L2 (P : Program) (t30 : Value) (K : Value → Heap → Prop) (n8 : Value) (h_5 : Heap) (Z : Value → Heap → Prop) : Prop :=
  pLen t30 fun t36 =>
  pBin .lss n8 t36 fun t37 =>
  ifV t37
  (pSlice 1 t30 (some n8) none none fun t41 =>
  pSlice 1 t30 none (some n8) none fun t44 =>
  pCopy 1 t41 t44 h_5 fun t45 h_6 =>
  pBin .add n8 t45 fun t46 =>
  Z t46 h_6)
  (K t30 h_5)

def sh_slices_Repeat_sl_int_int (P : Program) (x0 count1 : Value) (h : Heap) (K : Value → Heap → Prop) : Prop :=
  pBin .lss count1 (.int .i64 0) fun t10 =>
  ifV t10
  (False)
  (pLen x0 fun t14 =>
  pConv .u64 t14 fun t15 =>
  pConv .u64 count1 fun t17 =>
  callS P F_math_bits_Mul [t15, t17] h fun t18 h_1 =>
  pExt t18 0 fun t19 =>
  pExt t18 1 fun t20 =>
  pBin .gtr t19 (.int .u64 0) fun t22 =>
  ifV t22
  (sh_slices_Repeat_sl_int_int_k1 P h_1)
  (pBin .gtr t20 (.int .u64 9223372036854775807) fun t25 =>
  ifV t25
  (sh_slices_Repeat_sl_int_int_k1 P h_1)
  (pConv .i64 t20 fun t29 =>
  pMakeSlice T_int 8 [(.int .i64 0)] t29 t29 h_1 fun t30 h_3 =>
  pCopy 1 t30 x0 h_3 fun t33 h_4 =>
  LoopH (σ := Vals [8]) (fun x hh ZZ => sh_slices_Repeat_sl_int_int_L2 P t30 K x.1 hh (fun a0 hz => ZZ (a0, ()) hz)) (t33, ()) h_4)))

set_option maxRecDepth 100000 in
theorem lk_slices_Repeat_sl_int_int (x0 count1 : Value) {h : Heap} {K : Value → Heap → Prop} (H : sh_slices_Repeat_sl_int_int Tryz.prog x0 count1 h K) : CallsH Tryz.prog F_slices_Repeat_sl_int_int [x0, count1].toArray h K :=
  callsH_of (ann := (annG (Tryz.f49.body.getD .skip) 0 [(9, [8])]).1) (c := Tryz.f49.body.getD .skip) Tryz.func49 (by kernel_rfl) (by kernel_rfl) (by kernel_rfl) (of_decide_eq_true (by kernel_rfl))
    (Eq.mpr (by kernel_rfl) H)

/-! (*milestone/heap.Heap).Push -/

def sh_heap_Heap_Push_k1 (P : Program) (K : Value → Heap → Prop) (h_1 : Heap) : Prop :=
  K (.int .i64 2) h_1

def sh_heap_Heap_Push (P : Program) (h0 id1 key2 : Value) (h : Heap) (K : Value → Heap → Prop) : Prop :=
  pEq false .ptr h0 (.pointer none) fun t10 =>
  ifV t10
  (K (.int .i64 1) h)
  (pNil h0 fun t13 =>
  pField 0 t13 fun t14 =>
  pField 1 t14 fun t15 =>
  pLoad h t15 fun t16 =>
  pLook (.int .i64) (.int .i64 0) true h t16 id1 fun t18 =>
  pExt t18 0 fun t19 =>
  pExt t18 1 fun t20 =>
  ifV t20
  (sh_heap_Heap_Push_k1 P K h)
  (pBin .lss id1 (.int .i64 0) fun t24 =>
  ifV t24
  (sh_heap_Heap_Push_k1 P K h)
  (pNil h0 fun t29 =>
  pField 2 t29 fun t30 =>
  pLoad h t30 fun t31 =>
  pBin .geq id1 t31 fun t32 =>
  ifV t32
  (sh_heap_Heap_Push_k1 P K h)
  (pNil h0 fun t35 =>
  pField 0 t35 fun t36 =>
  pField 1 t36 fun t37 =>
  pLoad h t37 fun t38 =>
  pNil h0 fun t41 =>
  pField 0 t41 fun t42 =>
  pField 0 t42 fun t43 =>
  pLoad h t43 fun t44 =>
  pLen t44 fun t45 =>
  pMapSet (.int .i64) t38 id1 t45 h fun u h_2 =>
  pNil h0 fun t48 =>
  pField 0 t48 fun t49 =>
  pField 0 t49 fun t50 =>
  pLoad h_2 t50 fun t51 =>
  pBuild [(.int .i64 0), (.int .i64 0)] [(0, 1, id1), (1, 1, key2)] fun t54 =>
  pBuildSlice T_heap_held (zerosL [(.int .i64 0), (.int .i64 0)] 1) [(0, 2, t54)] 1 h_2 fun t55 h_3 =>
  pAppend T_heap_held 2 16 [(.int .i64 0), (.int .i64 0)] t51 t55 h_3 fun t56 h_4 =>
  pNil h0 fun t57 =>
  pField 0 t57 fun t58 =>
  pField 0 t58 fun t59 =>
  pStore 1 t59 t56 h_4 fun u_1 h_5 =>
  pNil h0 fun t61 =>
  pField 0 t61 fun t62 =>
  pNil h0 fun t64 =>
  pField 0 t64 fun t65 =>
  pField 0 t65 fun t66 =>
  pLoad h_5 t66 fun t67 =>
  pLen t67 fun t68 =>
  pBin .sub t68 (.int .i64 1) fun t69 =>
  callS P F_heap_row_up [t62, t69] h_5 fun t70 h_6 =>
  K (.int .i64 0) h_6))))

set_option maxRecDepth 100000 in
theorem lk_heap_Heap_Push (h0 id1 key2 : Value) {h : Heap} {K : Value → Heap → Prop} (H : sh_heap_Heap_Push Tryz.prog h0 id1 key2 h K) : CallsH Tryz.prog F_heap_Heap_Push [h0, id1, key2].toArray h K :=
  callsH_of (ann := (annG (Tryz.f50.body.getD .skip) 0 []).1) (c := Tryz.f50.body.getD .skip) Tryz.func50 (by kernel_rfl) (by kernel_rfl) (by kernel_rfl) (of_decide_eq_true (by kernel_rfl))
    (Eq.mpr (by kernel_rfl) H)

/-! (*milestone/heap.Heap).Pop -/

def sh_heap_Heap_Pop (P : Program) (h0 : Value) (h : Heap) (K : Value → Heap → Prop) : Prop :=
  callS P F_heap_Heap_Len [h0] h fun t8 h_1 =>
  pBin .eql t8 (.int .i64 0) fun t9 =>
  ifV t9
  (K (.tuple #[(.int .i64 0), (.int .i64 0), (.bool false)]) h_1)
  (pNil h0 fun t11 =>
  pField 0 t11 fun t12 =>
  pField 0 t12 fun t13 =>
  pLoad h_1 t13 fun t14 =>
  pIdx 2 t14 (.int .i64 0) fun t15 =>
  pLoadN 2 h_1 t15 fun t16 =>
  pNil h0 fun t18 =>
  pField 0 t18 fun t19 =>
  pField 0 t19 fun t20 =>
  pLoad h_1 t20 fun t21 =>
  pLen t21 fun t22 =>
  pBin .sub t22 (.int .i64 1) fun t23 =>
  pBox T_heap_held (.agg #[(.int .i64 0), (.int .i64 0)]) h_1 fun first5 h_2 =>
  pStore 2 first5 t16 h_2 fun u h_3 =>
  (pLoad h_3 t20 fun t21_1 =>
  t21_1 = t21) ∧
  (pNil h0 fun t25 =>
  pField 0 t25 fun t26 =>
  callS P F_heap_row_swap [t26, (.int .i64 0), t23] h_3 fun t28 h_4 =>
  pNil h0 fun t31 =>
  pField 0 t31 fun t32 =>
  pField 0 t32 fun t33 =>
  pLoad h_4 t33 fun t34 =>
  pSlice 2 t34 none (some t23) none fun t36 =>
  pNil h0 fun t37 =>
  pField 0 t37 fun t38 =>
  pField 0 t38 fun t39 =>
  pStore 1 t39 t36 h_4 fun u_1 h_5 =>
  pNil h0 fun t41 =>
  pField 0 t41 fun t42 =>
  pField 1 t42 fun t43 =>
  pLoad h_5 t43 fun t44 =>
  pField 0 first5 fun t45 =>
  pLoad h_5 t45 fun t46 =>
  pDelete (.int .i64) t44 t46 h_5 fun u_2 h_6 =>
  pNil h0 fun t48 =>
  pField 0 t48 fun t49 =>
  callS P F_heap_row_down [t49, (.int .i64 0)] h_6 fun t50 h_7 =>
  pField 0 first5 fun t51 =>
  pLoad h_7 t51 fun t52 =>
  pField 1 first5 fun t53 =>
  pLoad h_7 t53 fun t54 =>
  K (.tuple #[t52, t54, (.bool true)]) h_7))

set_option maxRecDepth 100000 in
theorem lk_heap_Heap_Pop (h0 : Value) {h : Heap} {K : Value → Heap → Prop} (H : sh_heap_Heap_Pop Tryz.prog h0 h K) : CallsH Tryz.prog F_heap_Heap_Pop [h0].toArray h K :=
  callsH_of (ann := (annG (Tryz.f51.body.getD .skip) 0 []).1) (c := Tryz.f51.body.getD .skip) Tryz.func51 (by kernel_rfl) (by kernel_rfl) (by kernel_rfl) (of_decide_eq_true (by kernel_rfl))
    (Eq.mpr (by kernel_rfl) H)

/-! milestone/flood.arcs -/

def sh_flood_arcs (P : Program) (n0 l1 end2 : Value) (h : Heap) (K : Value → Heap → Prop) : Prop :=
  pBox T_p_net_Net n0 h fun n3 h_1 =>
  pBox T_sl_int l1 h_1 fun l4 h_2 =>
  pBox T_func_api_Arc_int end2 h_2 fun end5 h_3 =>
  K (.func (.func F_flood_arcs_1) #[] #[l4, n3, end5]) h_3

set_option maxRecDepth 100000 in
theorem lk_flood_arcs (n0 l1 end2 : Value) {h : Heap} {K : Value → Heap → Prop} (H : sh_flood_arcs Tryz.prog n0 l1 end2 h K) : CallsH Tryz.prog F_flood_arcs [n0, l1, end2].toArray h K :=
  callsH_of (ann := (annG (Tryz.f52.body.getD .skip) 0 []).1) (c := Tryz.f52.body.getD .skip) Tryz.func52 (by kernel_rfl) (by kernel_rfl) (by kernel_rfl) (of_decide_eq_true (by kernel_rfl))
    (Eq.mpr (by kernel_rfl) H)

/-! (*milestone/flood.run).reach -/

def sh_flood_run_reach_k2 (P : Program) (r0 v1 arc2 : Value) (K : Value → Heap → Prop) (h_4 : Heap) : Prop :=
  pNil r0 fun t52 =>
  pField 1 t52 fun t53 =>
  pField 1 t53 fun t54 =>
  pLoad h_4 t54 fun t55 =>
  pIdx 1 t55 v1 fun t58 =>
  pStore 1 t58 arc2 h_4 fun u h_5 =>
  K (.tuple #[]) h_5

def sh_flood_run_reach_k1 (P : Program) (t18 r0 v1 far3 arc2 : Value) (K : Value → Heap → Prop) (h_2 : Heap) : Prop :=
  ifV t18
  (pNil r0 fun t45 =>
  pField 0 t45 fun t46 =>
  pLoad h_2 t46 fun t47 =>
  callS P F_heap_Heap_Lower [t47, v1, far3] h_2 fun t50 h_3 =>
  sh_flood_run_reach_k2 P r0 v1 arc2 K h_3)
  (pNil r0 fun t20 =>
  pField 0 t20 fun t21 =>
  pLoad h_2 t21 fun t22 =>
  callS P F_heap_Heap_Push [t22, v1, far3] h_2 fun t25 h_6 =>
  sh_flood_run_reach_k2 P r0 v1 arc2 K h_6)

def sh_flood_run_reach (P : Program) (r0 v1 arc2 far3 : Value) (h : Heap) (K : Value → Heap → Prop) : Prop :=
  pNil r0 fun t12 =>
  pField 0 t12 fun t13 =>
  pLoad h t13 fun t14 =>
  callS P F_heap_Heap_Key [t14, v1] h fun t16 h_1 =>
  pExt t16 0 fun t17 =>
  pExt t16 1 fun t18 =>
  pNil r0 fun t28 =>
  pField 4 t28 fun t29 =>
  pLoad h_1 t29 fun t30 =>
  pLook (.int .i64) (.int .i64 0) false h_1 t30 v1 fun t32 =>
  pBin .gtr t32 (.int .i64 0) fun t33 =>
  ifV t33
  (K (.tuple #[]) h_1)
  (ifV t18
  (pBin .leq t17 far3 fun t39 =>
  ifV t39
  (K (.tuple #[]) h_1)
  (sh_flood_run_reach_k1 P t18 r0 v1 far3 arc2 K h_1))
  (sh_flood_run_reach_k1 P t18 r0 v1 far3 arc2 K h_1))

set_option maxRecDepth 100000 in
theorem lk_flood_run_reach (r0 v1 arc2 far3 : Value) {h : Heap} {K : Value → Heap → Prop} (H : sh_flood_run_reach Tryz.prog r0 v1 arc2 far3 h K) : CallsH Tryz.prog F_flood_run_reach [r0, v1, arc2, far3].toArray h K :=
  callsH_of (ann := (annG (Tryz.f53.body.getD .skip) 0 []).1) (c := Tryz.f53.body.getD .skip) Tryz.func53 (by kernel_rfl) (by kernel_rfl) (by kernel_rfl) (of_decide_eq_true (by kernel_rfl))
    (Eq.mpr (by kernel_rfl) H)

/-! milestone/net.one[[]int] -/

def sh_net_one_sl_int_k1 (P : Program) (K : Value → Heap → Prop) (h_1 : Heap) : Prop :=
  K (.tuple #[(.slice none 0 0), (.bool false)]) h_1

def sh_net_one_sl_int (P : Program) (l0 i1 : Value) (h : Heap) (K : Value → Heap → Prop) : Prop :=
  pBin .lss i1 (.int .i64 0) fun t7 =>
  ifV t7
  (sh_net_one_sl_int_k1 P K h)
  (pLen l0 fun t11 =>
  pBin .geq i1 t11 fun t12 =>
  ifV t12
  (sh_net_one_sl_int_k1 P K h)
  (pIdx 1 l0 i1 fun t17 =>
  pLoad h t17 fun t18 =>
  K (.tuple #[t18, (.bool true)]) h))

set_option maxRecDepth 100000 in
theorem lk_net_one_sl_int (l0 i1 : Value) {h : Heap} {K : Value → Heap → Prop} (H : sh_net_one_sl_int Tryz.prog l0 i1 h K) : CallsH Tryz.prog F_net_one_sl_int [l0, i1].toArray h K :=
  callsH_of (ann := (annG (Tryz.f54.body.getD .skip) 0 []).1) (c := Tryz.f54.body.getD .skip) Tryz.func54 (by kernel_rfl) (by kernel_rfl) (by kernel_rfl) (of_decide_eq_true (by kernel_rfl))
    (Eq.mpr (by kernel_rfl) H)

/-! slices.Clone[[]int,int] -/

def sh_slices_Clone_sl_int_int (P : Program) (s0 : Value) (h : Heap) (K : Value → Heap → Prop) : Prop :=
  pEq false .slice s0 (.slice none 0 0) fun t4 =>
  ifV t4
  (K (.slice none 0 0) h)
  (pBuildSlice T_int (zerosL [(.int .i64 0)] 0) [] 0 h fun t5 h_1 =>
  pAppend T_int 1 8 [(.int .i64 0)] t5 s0 h_1 fun t7 h_2 =>
  K t7 h_2)

set_option maxRecDepth 100000 in
theorem lk_slices_Clone_sl_int_int (s0 : Value) {h : Heap} {K : Value → Heap → Prop} (H : sh_slices_Clone_sl_int_int Tryz.prog s0 h K) : CallsH Tryz.prog F_slices_Clone_sl_int_int [s0].toArray h K :=
  callsH_of (ann := (annG (Tryz.f55.body.getD .skip) 0 []).1) (c := Tryz.f55.body.getD .skip) Tryz.func55 (by kernel_rfl) (by kernel_rfl) (by kernel_rfl) (of_decide_eq_true (by kernel_rfl))
    (Eq.mpr (by kernel_rfl) H)

/-! milestone/dist.between[int64] -/

def sh_dist_between_int64 (P : Program) (least0 greatest1 : Value) (h : Heap) (K : Value → Heap → Prop) : Prop :=
  pBox T_int64 least0 h fun least2 h_1 =>
  pBox T_int64 greatest1 h_1 fun greatest3 h_2 =>
  K (.func (.func F_dist_between_int64_1) #[] #[least2, greatest3]) h_2

set_option maxRecDepth 100000 in
theorem lk_dist_between_int64 (least0 greatest1 : Value) {h : Heap} {K : Value → Heap → Prop} (H : sh_dist_between_int64 Tryz.prog least0 greatest1 h K) : CallsH Tryz.prog F_dist_between_int64 [least0, greatest1].toArray h K :=
  callsH_of (ann := (annG (Tryz.f56.body.getD .skip) 0 []).1) (c := Tryz.f56.body.getD .skip) Tryz.func56 (by kernel_rfl) (by kernel_rfl) (by kernel_rfl) (of_decide_eq_true (by kernel_rfl))
    (Eq.mpr (by kernel_rfl) H)

/-! milestone/tight.marked$1 -/

def sh_tight_marked_1_k2 (P : Program) (t6 : Value) (Z : Value → Heap → Prop) (h_4 : Heap) : Prop :=
  pBin .add t6 (.int .i64 1) fun t18 =>
  Z t18 h_4

def sh_tight_marked_1_L1 (P : Program) (t5 t2 yield0 : Value) (K : Value → Heap → Prop) (t6 : Value) (h_1 : Heap) (Z : Value → Heap → Prop) : Prop :=
  pBin .lss t6 t5 fun t7 =>
  ifV t7
  (pLoad h_1 t2 fun t9 =>
  callV P t9 [t6].toArray h_1 fun t11 h_2 =>
  ifV t11
  (callV P yield0 [t6].toArray h_2 fun t15 h_3 =>
  pUn .not t15 fun t16 =>
  ifV t16
  (K (.tuple #[]) h_3)
  (sh_tight_marked_1_k2 P t6 Z h_3))
  (sh_tight_marked_1_k2 P t6 Z h_2))
  (K (.tuple #[]) h_1)

def sh_tight_marked_1 (P : Program) (yield0 t1 t2 : Value) (h : Heap) (K : Value → Heap → Prop) : Prop :=
  pLoad h t1 fun t5 =>
  LoopH (σ := Vals [6]) (fun x hh ZZ => sh_tight_marked_1_L1 P t5 t2 yield0 K x.1 hh (fun a0 hz => ZZ (a0, ()) hz)) ((.int .i64 0), ()) h

set_option maxRecDepth 100000 in
theorem lk_tight_marked_1 (yield0 t1 t2 : Value) {h : Heap} {K : Value → Heap → Prop} (H : sh_tight_marked_1 Tryz.prog yield0 t1 t2 h K) : CallsH Tryz.prog F_tight_marked_1 [yield0, t1, t2].toArray h K :=
  callsH_of (ann := (annG (Tryz.f57.body.getD .skip) 0 [(1, [6])]).1) (c := Tryz.f57.body.getD .skip) Tryz.func57 (by kernel_rfl) (by kernel_rfl) (by kernel_rfl) (of_decide_eq_true (by kernel_rfl))
    (Eq.mpr (by kernel_rfl) H)

/-! milestone/tight.tells$1 -/

def sh_tight_tells_1 (P : Program) (arc0 t1 t2 : Value) (h : Heap) (K : Value → Heap → Prop) : Prop :=
  pLoad h t1 fun t9 =>
  callS P F_net_Net_Arc [t9, arc0] h fun t11 h_1 =>
  pExt t11 0 fun t12 =>
  pExt t11 1 fun t13 =>
  pBox T_api_Arc (.agg #[(.int .i64 0), (.int .i64 0), (.int .i64 0)]) h_1 fun a5 h_2 =>
  pStore 3 a5 t12 h_2 fun u h_3 =>
  pField 0 t2 fun t14 =>
  pLoad h_3 t14 fun t15 =>
  pField 1 a5 fun t16 =>
  pLoad h_3 t16 fun t17 =>
  pIdx 1 t15 t17 fun t18 =>
  pLoad h_3 t18 fun t19 =>
  pField 2 a5 fun t20 =>
  pLoad h_3 t20 fun t21 =>
  callS P F_dist_Add [t19, t21] h_3 fun t22 h_4 =>
  callS P F_dist_Finite [t22] h_4 fun t24 h_5 =>
  ifV t24
  (pField 0 t2 fun t27 =>
  pLoad h_5 t27 fun t28 =>
  pField 0 a5 fun t29 =>
  pLoad h_5 t29 fun t30 =>
  pIdx 1 t28 t30 fun t31 =>
  pLoad h_5 t31 fun t32 =>
  pBin .eql t22 t32 fun t33 =>
  K t33 h_5)
  (K (.bool false) h_5)

set_option maxRecDepth 100000 in
theorem lk_tight_tells_1 (arc0 t1 t2 : Value) {h : Heap} {K : Value → Heap → Prop} (H : sh_tight_tells_1 Tryz.prog arc0 t1 t2 h K) : CallsH Tryz.prog F_tight_tells_1 [arc0, t1, t2].toArray h K :=
  callsH_of (ann := (annG (Tryz.f58.body.getD .skip) 0 []).1) (c := Tryz.f58.body.getD .skip) Tryz.func58 (by kernel_rfl) (by kernel_rfl) (by kernel_rfl) (of_decide_eq_true (by kernel_rfl))
    (Eq.mpr (by kernel_rfl) H)

/-! milestone/dist.Finite -/

def sh_dist_Finite (P : Program) (a0 : Value) (h : Heap) (K : Value → Heap → Prop) : Prop :=
  callS P F_dist_way [a0] h fun t4 h_1 =>
  pBin .lss t4 (.int .i64 72057594037927936) fun t5 =>
  K t5 h_1

set_option maxRecDepth 100000 in
theorem lk_dist_Finite (a0 : Value) {h : Heap} {K : Value → Heap → Prop} (H : sh_dist_Finite Tryz.prog a0 h K) : CallsH Tryz.prog F_dist_Finite [a0].toArray h K :=
  callsH_of (ann := (annG (Tryz.f59.body.getD .skip) 0 []).1) (c := Tryz.f59.body.getD .skip) Tryz.func59 (by kernel_rfl) (by kernel_rfl) (by kernel_rfl) (of_decide_eq_true (by kernel_rfl))
    (Eq.mpr (by kernel_rfl) H)

/-! milestone/net.one[milestone/api.Arc] -/

def sh_net_one_api_Arc_k1 (P : Program) (x4 : Value) (K : Value → Heap → Prop) (h_2 : Heap) : Prop :=
  pLoadN 3 h_2 x4 fun t14 =>
  pStore 3 x4 t14 h_2 fun u h_3 =>
  pLoadN 3 h_3 x4 fun res =>
  K (.tuple #[res, (.bool false)]) h_3

def sh_net_one_api_Arc (P : Program) (l0 i1 : Value) (h : Heap) (K : Value → Heap → Prop) : Prop :=
  pBox T_api_Arc (.agg #[(.int .i64 0), (.int .i64 0), (.int .i64 0)]) h fun x4 h_1 =>
  pBin .lss i1 (.int .i64 0) fun t7 =>
  ifV t7
  (sh_net_one_api_Arc_k1 P x4 K h_1)
  (pLen l0 fun t11 =>
  pBin .geq i1 t11 fun t12 =>
  ifV t12
  (sh_net_one_api_Arc_k1 P x4 K h_1)
  (pIdx 3 l0 i1 fun t17 =>
  pLoadN 3 h_1 t17 fun t18 =>
  pStore 3 x4 t18 h_1 fun u_1 h_4 =>
  pLoadN 3 h_4 x4 fun res_1 =>
  K (.tuple #[res_1, (.bool true)]) h_4))

set_option maxRecDepth 100000 in
theorem lk_net_one_api_Arc (l0 i1 : Value) {h : Heap} {K : Value → Heap → Prop} (H : sh_net_one_api_Arc Tryz.prog l0 i1 h K) : CallsH Tryz.prog F_net_one_api_Arc [l0, i1].toArray h K :=
  callsH_of (ann := (annG (Tryz.f60.body.getD .skip) 0 []).1) (c := Tryz.f60.body.getD .skip) Tryz.func60 (by kernel_rfl) (by kernel_rfl) (by kernel_rfl) (of_decide_eq_true (by kernel_rfl))
    (Eq.mpr (by kernel_rfl) H)

/-! milestone/milestoneref07.Copy -/

def sh_milestoneref07_Copy_C1 (P : Program) (t2 : Value) (K : Value → Heap → Prop) (h_85 : Heap) : Prop :=
  pLoadN 4 h_85 t2 fun res =>
  K res h_85

def sh_milestoneref07_Copy (P : Program) (g0 : Value) (h : Heap) (K : Value → Heap → Prop) : Prop :=
  pBox T_api_Raw g0 h fun g1 h_1 =>
  pBox T_api_Raw (.agg #[(.int .i64 0), (.slice none 0 0), (.slice none 0 0), (.slice none 0 0)]) h_1 fun t2 h_2 =>
  cutP (σ := Vals []) (fun J =>
  pField 0 g1 fun t3 =>
  pLoad h_2 t3 fun t4 =>
  pField 1 g1 fun t6 =>
  pLoad h_2 t6 fun t7 =>
  pField 2 g1 fun t10 =>
  pLoad h_2 t10 fun t11 =>
  pField 3 g1 fun t14 =>
  pLoad h_2 t14 fun t15 =>
  (pBuildSlice T_int64 (zerosL [(.int .i64 0)] 0) [] 0 h_2 fun t5 h_3 =>
  (pAppend T_int64 1 8 [(.int .i64 0)] t5 t7 h_3 fun t8 h_4 =>
  (pLoad h_4 t3 fun t4_1 =>
  t4_1 = t4) ∧
  (pLoad h_4 t10 fun t11_1 =>
  t11_1 = t11) ∧
  (pLoad h_4 t14 fun t15_1 =>
  t15_1 = t15) ∧
  ((pBuildSlice T_int64 (zerosL [(.int .i64 0)] 0) [] 0 h_4 fun t9 h_5 =>
  (pAppend T_int64 1 8 [(.int .i64 0)] t9 t11 h_5 fun t12 h_6 =>
  (pLoad h_6 t3 fun t4_2 =>
  t4_2 = t4) ∧
  (pLoad h_6 t14 fun t15_2 =>
  t15_2 = t15) ∧
  (pBuildSlice T_api_Arc (zerosL [(.int .i64 0), (.int .i64 0), (.int .i64 0)] 0) [] 0 h_6 fun t13 h_7 =>
  pAppend T_api_Arc 3 24 [(.int .i64 0), (.int .i64 0), (.int .i64 0)] t13 t15 h_7 fun t16 h_8 =>
  (pLoad h_8 t3 fun t4_3 =>
  t4_3 = t4) ∧
  (pBuild [(.int .i64 0), (.slice none 0 0), (.slice none 0 0), (.slice none 0 0)] [(0, 1, t4), (1, 1, t8), (2, 1, t12), (3, 1, t16)] fun t17 =>
  pStore 4 t2 t17 h_8 fun u h_9 =>
  J () h_9))) ∧
  (pBuildSlice T_api_Arc (zerosL [(.int .i64 0), (.int .i64 0), (.int .i64 0)] 0) [] 0 h_5 fun t13_1 h_10 =>
  pAppend T_int64 1 8 [(.int .i64 0)] t9 t11 h_10 fun t12_1 h_11 =>
  (pLoad h_11 t3 fun t4_4 =>
  t4_4 = t4) ∧
  (pLoad h_11 t14 fun t15_3 =>
  t15_3 = t15) ∧
  (pAppend T_api_Arc 3 24 [(.int .i64 0), (.int .i64 0), (.int .i64 0)] t13_1 t15 h_11 fun t16_1 h_12 =>
  (pLoad h_12 t3 fun t4_5 =>
  t4_5 = t4) ∧
  (pBuild [(.int .i64 0), (.slice none 0 0), (.slice none 0 0), (.slice none 0 0)] [(0, 1, t4), (1, 1, t8), (2, 1, t12_1), (3, 1, t16_1)] fun t17_1 =>
  pStore 4 t2 t17_1 h_12 fun u_1 h_13 =>
  J () h_13)))) ∧
  (pBuildSlice T_api_Arc (zerosL [(.int .i64 0), (.int .i64 0), (.int .i64 0)] 0) [] 0 h_4 fun t13_2 h_14 =>
  pBuildSlice T_int64 (zerosL [(.int .i64 0)] 0) [] 0 h_14 fun t9_1 h_15 =>
  pAppend T_int64 1 8 [(.int .i64 0)] t9_1 t11 h_15 fun t12_2 h_16 =>
  (pLoad h_16 t3 fun t4_6 =>
  t4_6 = t4) ∧
  (pLoad h_16 t14 fun t15_4 =>
  t15_4 = t15) ∧
  (pAppend T_api_Arc 3 24 [(.int .i64 0), (.int .i64 0), (.int .i64 0)] t13_2 t15 h_16 fun t16_2 h_17 =>
  (pLoad h_17 t3 fun t4_7 =>
  t4_7 = t4) ∧
  (pBuild [(.int .i64 0), (.slice none 0 0), (.slice none 0 0), (.slice none 0 0)] [(0, 1, t4), (1, 1, t8), (2, 1, t12_2), (3, 1, t16_2)] fun t17_2 =>
  pStore 4 t2 t17_2 h_17 fun u_2 h_18 =>
  J () h_18))))) ∧
  (pBuildSlice T_int64 (zerosL [(.int .i64 0)] 0) [] 0 h_3 fun t9_2 h_19 =>
  (pAppend T_int64 1 8 [(.int .i64 0)] t5 t7 h_19 fun t8_1 h_20 =>
  (pLoad h_20 t3 fun t4_8 =>
  t4_8 = t4) ∧
  (pLoad h_20 t10 fun t11_2 =>
  t11_2 = t11) ∧
  (pLoad h_20 t14 fun t15_5 =>
  t15_5 = t15) ∧
  ((pAppend T_int64 1 8 [(.int .i64 0)] t9_2 t11 h_20 fun t12_3 h_21 =>
  (pLoad h_21 t3 fun t4_9 =>
  t4_9 = t4) ∧
  (pLoad h_21 t14 fun t15_6 =>
  t15_6 = t15) ∧
  (pBuildSlice T_api_Arc (zerosL [(.int .i64 0), (.int .i64 0), (.int .i64 0)] 0) [] 0 h_21 fun t13_3 h_22 =>
  pAppend T_api_Arc 3 24 [(.int .i64 0), (.int .i64 0), (.int .i64 0)] t13_3 t15 h_22 fun t16_3 h_23 =>
  (pLoad h_23 t3 fun t4_10 =>
  t4_10 = t4) ∧
  (pBuild [(.int .i64 0), (.slice none 0 0), (.slice none 0 0), (.slice none 0 0)] [(0, 1, t4), (1, 1, t8_1), (2, 1, t12_3), (3, 1, t16_3)] fun t17_3 =>
  pStore 4 t2 t17_3 h_23 fun u_3 h_24 =>
  J () h_24))) ∧
  (pBuildSlice T_api_Arc (zerosL [(.int .i64 0), (.int .i64 0), (.int .i64 0)] 0) [] 0 h_20 fun t13_4 h_25 =>
  pAppend T_int64 1 8 [(.int .i64 0)] t9_2 t11 h_25 fun t12_4 h_26 =>
  (pLoad h_26 t3 fun t4_11 =>
  t4_11 = t4) ∧
  (pLoad h_26 t14 fun t15_7 =>
  t15_7 = t15) ∧
  (pAppend T_api_Arc 3 24 [(.int .i64 0), (.int .i64 0), (.int .i64 0)] t13_4 t15 h_26 fun t16_4 h_27 =>
  (pLoad h_27 t3 fun t4_12 =>
  t4_12 = t4) ∧
  (pBuild [(.int .i64 0), (.slice none 0 0), (.slice none 0 0), (.slice none 0 0)] [(0, 1, t4), (1, 1, t8_1), (2, 1, t12_4), (3, 1, t16_4)] fun t17_4 =>
  pStore 4 t2 t17_4 h_27 fun u_4 h_28 =>
  J () h_28))))) ∧
  (pBuildSlice T_api_Arc (zerosL [(.int .i64 0), (.int .i64 0), (.int .i64 0)] 0) [] 0 h_19 fun t13_5 h_29 =>
  pAppend T_int64 1 8 [(.int .i64 0)] t5 t7 h_29 fun t8_2 h_30 =>
  (pLoad h_30 t3 fun t4_13 =>
  t4_13 = t4) ∧
  (pLoad h_30 t10 fun t11_3 =>
  t11_3 = t11) ∧
  (pLoad h_30 t14 fun t15_8 =>
  t15_8 = t15) ∧
  (pAppend T_int64 1 8 [(.int .i64 0)] t9_2 t11 h_30 fun t12_5 h_31 =>
  (pLoad h_31 t3 fun t4_14 =>
  t4_14 = t4) ∧
  (pLoad h_31 t14 fun t15_9 =>
  t15_9 = t15) ∧
  (pAppend T_api_Arc 3 24 [(.int .i64 0), (.int .i64 0), (.int .i64 0)] t13_5 t15 h_31 fun t16_5 h_32 =>
  (pLoad h_32 t3 fun t4_15 =>
  t4_15 = t4) ∧
  (pBuild [(.int .i64 0), (.slice none 0 0), (.slice none 0 0), (.slice none 0 0)] [(0, 1, t4), (1, 1, t8_2), (2, 1, t12_5), (3, 1, t16_5)] fun t17_5 =>
  pStore 4 t2 t17_5 h_32 fun u_5 h_33 =>
  J () h_33))))) ∧
  (pBuildSlice T_api_Arc (zerosL [(.int .i64 0), (.int .i64 0), (.int .i64 0)] 0) [] 0 h_3 fun t13_6 h_34 =>
  (pAppend T_int64 1 8 [(.int .i64 0)] t5 t7 h_34 fun t8_3 h_35 =>
  (pLoad h_35 t3 fun t4_16 =>
  t4_16 = t4) ∧
  (pLoad h_35 t10 fun t11_4 =>
  t11_4 = t11) ∧
  (pLoad h_35 t14 fun t15_10 =>
  t15_10 = t15) ∧
  (pBuildSlice T_int64 (zerosL [(.int .i64 0)] 0) [] 0 h_35 fun t9_3 h_36 =>
  pAppend T_int64 1 8 [(.int .i64 0)] t9_3 t11 h_36 fun t12_6 h_37 =>
  (pLoad h_37 t3 fun t4_17 =>
  t4_17 = t4) ∧
  (pLoad h_37 t14 fun t15_11 =>
  t15_11 = t15) ∧
  (pAppend T_api_Arc 3 24 [(.int .i64 0), (.int .i64 0), (.int .i64 0)] t13_6 t15 h_37 fun t16_6 h_38 =>
  (pLoad h_38 t3 fun t4_18 =>
  t4_18 = t4) ∧
  (pBuild [(.int .i64 0), (.slice none 0 0), (.slice none 0 0), (.slice none 0 0)] [(0, 1, t4), (1, 1, t8_3), (2, 1, t12_6), (3, 1, t16_6)] fun t17_6 =>
  pStore 4 t2 t17_6 h_38 fun u_6 h_39 =>
  J () h_39)))) ∧
  (pBuildSlice T_int64 (zerosL [(.int .i64 0)] 0) [] 0 h_34 fun t9_4 h_40 =>
  pAppend T_int64 1 8 [(.int .i64 0)] t5 t7 h_40 fun t8_4 h_41 =>
  (pLoad h_41 t3 fun t4_19 =>
  t4_19 = t4) ∧
  (pLoad h_41 t10 fun t11_5 =>
  t11_5 = t11) ∧
  (pLoad h_41 t14 fun t15_12 =>
  t15_12 = t15) ∧
  (pAppend T_int64 1 8 [(.int .i64 0)] t9_4 t11 h_41 fun t12_7 h_42 =>
  (pLoad h_42 t3 fun t4_20 =>
  t4_20 = t4) ∧
  (pLoad h_42 t14 fun t15_13 =>
  t15_13 = t15) ∧
  (pAppend T_api_Arc 3 24 [(.int .i64 0), (.int .i64 0), (.int .i64 0)] t13_6 t15 h_42 fun t16_7 h_43 =>
  (pLoad h_43 t3 fun t4_21 =>
  t4_21 = t4) ∧
  (pBuild [(.int .i64 0), (.slice none 0 0), (.slice none 0 0), (.slice none 0 0)] [(0, 1, t4), (1, 1, t8_4), (2, 1, t12_7), (3, 1, t16_7)] fun t17_7 =>
  pStore 4 t2 t17_7 h_43 fun u_7 h_44 =>
  J () h_44)))))) ∧
  (pBuildSlice T_int64 (zerosL [(.int .i64 0)] 0) [] 0 h_2 fun t9_5 h_45 =>
  (pBuildSlice T_int64 (zerosL [(.int .i64 0)] 0) [] 0 h_45 fun t5_1 h_46 =>
  (pAppend T_int64 1 8 [(.int .i64 0)] t5_1 t7 h_46 fun t8_5 h_47 =>
  (pLoad h_47 t3 fun t4_22 =>
  t4_22 = t4) ∧
  (pLoad h_47 t10 fun t11_6 =>
  t11_6 = t11) ∧
  (pLoad h_47 t14 fun t15_14 =>
  t15_14 = t15) ∧
  ((pAppend T_int64 1 8 [(.int .i64 0)] t9_5 t11 h_47 fun t12_8 h_48 =>
  (pLoad h_48 t3 fun t4_23 =>
  t4_23 = t4) ∧
  (pLoad h_48 t14 fun t15_15 =>
  t15_15 = t15) ∧
  (pBuildSlice T_api_Arc (zerosL [(.int .i64 0), (.int .i64 0), (.int .i64 0)] 0) [] 0 h_48 fun t13_7 h_49 =>
  pAppend T_api_Arc 3 24 [(.int .i64 0), (.int .i64 0), (.int .i64 0)] t13_7 t15 h_49 fun t16_8 h_50 =>
  (pLoad h_50 t3 fun t4_24 =>
  t4_24 = t4) ∧
  (pBuild [(.int .i64 0), (.slice none 0 0), (.slice none 0 0), (.slice none 0 0)] [(0, 1, t4), (1, 1, t8_5), (2, 1, t12_8), (3, 1, t16_8)] fun t17_8 =>
  pStore 4 t2 t17_8 h_50 fun u_8 h_51 =>
  J () h_51))) ∧
  (pBuildSlice T_api_Arc (zerosL [(.int .i64 0), (.int .i64 0), (.int .i64 0)] 0) [] 0 h_47 fun t13_8 h_52 =>
  pAppend T_int64 1 8 [(.int .i64 0)] t9_5 t11 h_52 fun t12_9 h_53 =>
  (pLoad h_53 t3 fun t4_25 =>
  t4_25 = t4) ∧
  (pLoad h_53 t14 fun t15_16 =>
  t15_16 = t15) ∧
  (pAppend T_api_Arc 3 24 [(.int .i64 0), (.int .i64 0), (.int .i64 0)] t13_8 t15 h_53 fun t16_9 h_54 =>
  (pLoad h_54 t3 fun t4_26 =>
  t4_26 = t4) ∧
  (pBuild [(.int .i64 0), (.slice none 0 0), (.slice none 0 0), (.slice none 0 0)] [(0, 1, t4), (1, 1, t8_5), (2, 1, t12_9), (3, 1, t16_9)] fun t17_9 =>
  pStore 4 t2 t17_9 h_54 fun u_9 h_55 =>
  J () h_55))))) ∧
  (pBuildSlice T_api_Arc (zerosL [(.int .i64 0), (.int .i64 0), (.int .i64 0)] 0) [] 0 h_46 fun t13_9 h_56 =>
  pAppend T_int64 1 8 [(.int .i64 0)] t5_1 t7 h_56 fun t8_6 h_57 =>
  (pLoad h_57 t3 fun t4_27 =>
  t4_27 = t4) ∧
  (pLoad h_57 t10 fun t11_7 =>
  t11_7 = t11) ∧
  (pLoad h_57 t14 fun t15_17 =>
  t15_17 = t15) ∧
  (pAppend T_int64 1 8 [(.int .i64 0)] t9_5 t11 h_57 fun t12_10 h_58 =>
  (pLoad h_58 t3 fun t4_28 =>
  t4_28 = t4) ∧
  (pLoad h_58 t14 fun t15_18 =>
  t15_18 = t15) ∧
  (pAppend T_api_Arc 3 24 [(.int .i64 0), (.int .i64 0), (.int .i64 0)] t13_9 t15 h_58 fun t16_10 h_59 =>
  (pLoad h_59 t3 fun t4_29 =>
  t4_29 = t4) ∧
  (pBuild [(.int .i64 0), (.slice none 0 0), (.slice none 0 0), (.slice none 0 0)] [(0, 1, t4), (1, 1, t8_6), (2, 1, t12_10), (3, 1, t16_10)] fun t17_10 =>
  pStore 4 t2 t17_10 h_59 fun u_10 h_60 =>
  J () h_60))))) ∧
  (pBuildSlice T_api_Arc (zerosL [(.int .i64 0), (.int .i64 0), (.int .i64 0)] 0) [] 0 h_45 fun t13_10 h_61 =>
  pBuildSlice T_int64 (zerosL [(.int .i64 0)] 0) [] 0 h_61 fun t5_2 h_62 =>
  pAppend T_int64 1 8 [(.int .i64 0)] t5_2 t7 h_62 fun t8_7 h_63 =>
  (pLoad h_63 t3 fun t4_30 =>
  t4_30 = t4) ∧
  (pLoad h_63 t10 fun t11_8 =>
  t11_8 = t11) ∧
  (pLoad h_63 t14 fun t15_19 =>
  t15_19 = t15) ∧
  (pAppend T_int64 1 8 [(.int .i64 0)] t9_5 t11 h_63 fun t12_11 h_64 =>
  (pLoad h_64 t3 fun t4_31 =>
  t4_31 = t4) ∧
  (pLoad h_64 t14 fun t15_20 =>
  t15_20 = t15) ∧
  (pAppend T_api_Arc 3 24 [(.int .i64 0), (.int .i64 0), (.int .i64 0)] t13_10 t15 h_64 fun t16_11 h_65 =>
  (pLoad h_65 t3 fun t4_32 =>
  t4_32 = t4) ∧
  (pBuild [(.int .i64 0), (.slice none 0 0), (.slice none 0 0), (.slice none 0 0)] [(0, 1, t4), (1, 1, t8_7), (2, 1, t12_11), (3, 1, t16_11)] fun t17_11 =>
  pStore 4 t2 t17_11 h_65 fun u_11 h_66 =>
  J () h_66))))) ∧
  (pBuildSlice T_api_Arc (zerosL [(.int .i64 0), (.int .i64 0), (.int .i64 0)] 0) [] 0 h_2 fun t13_11 h_67 =>
  (pBuildSlice T_int64 (zerosL [(.int .i64 0)] 0) [] 0 h_67 fun t5_3 h_68 =>
  (pAppend T_int64 1 8 [(.int .i64 0)] t5_3 t7 h_68 fun t8_8 h_69 =>
  (pLoad h_69 t3 fun t4_33 =>
  t4_33 = t4) ∧
  (pLoad h_69 t10 fun t11_9 =>
  t11_9 = t11) ∧
  (pLoad h_69 t14 fun t15_21 =>
  t15_21 = t15) ∧
  (pBuildSlice T_int64 (zerosL [(.int .i64 0)] 0) [] 0 h_69 fun t9_6 h_70 =>
  pAppend T_int64 1 8 [(.int .i64 0)] t9_6 t11 h_70 fun t12_12 h_71 =>
  (pLoad h_71 t3 fun t4_34 =>
  t4_34 = t4) ∧
  (pLoad h_71 t14 fun t15_22 =>
  t15_22 = t15) ∧
  (pAppend T_api_Arc 3 24 [(.int .i64 0), (.int .i64 0), (.int .i64 0)] t13_11 t15 h_71 fun t16_12 h_72 =>
  (pLoad h_72 t3 fun t4_35 =>
  t4_35 = t4) ∧
  (pBuild [(.int .i64 0), (.slice none 0 0), (.slice none 0 0), (.slice none 0 0)] [(0, 1, t4), (1, 1, t8_8), (2, 1, t12_12), (3, 1, t16_12)] fun t17_12 =>
  pStore 4 t2 t17_12 h_72 fun u_12 h_73 =>
  J () h_73)))) ∧
  (pBuildSlice T_int64 (zerosL [(.int .i64 0)] 0) [] 0 h_68 fun t9_7 h_74 =>
  pAppend T_int64 1 8 [(.int .i64 0)] t5_3 t7 h_74 fun t8_9 h_75 =>
  (pLoad h_75 t3 fun t4_36 =>
  t4_36 = t4) ∧
  (pLoad h_75 t10 fun t11_10 =>
  t11_10 = t11) ∧
  (pLoad h_75 t14 fun t15_23 =>
  t15_23 = t15) ∧
  (pAppend T_int64 1 8 [(.int .i64 0)] t9_7 t11 h_75 fun t12_13 h_76 =>
  (pLoad h_76 t3 fun t4_37 =>
  t4_37 = t4) ∧
  (pLoad h_76 t14 fun t15_24 =>
  t15_24 = t15) ∧
  (pAppend T_api_Arc 3 24 [(.int .i64 0), (.int .i64 0), (.int .i64 0)] t13_11 t15 h_76 fun t16_13 h_77 =>
  (pLoad h_77 t3 fun t4_38 =>
  t4_38 = t4) ∧
  (pBuild [(.int .i64 0), (.slice none 0 0), (.slice none 0 0), (.slice none 0 0)] [(0, 1, t4), (1, 1, t8_9), (2, 1, t12_13), (3, 1, t16_13)] fun t17_13 =>
  pStore 4 t2 t17_13 h_77 fun u_13 h_78 =>
  J () h_78))))) ∧
  (pBuildSlice T_int64 (zerosL [(.int .i64 0)] 0) [] 0 h_67 fun t9_8 h_79 =>
  pBuildSlice T_int64 (zerosL [(.int .i64 0)] 0) [] 0 h_79 fun t5_4 h_80 =>
  pAppend T_int64 1 8 [(.int .i64 0)] t5_4 t7 h_80 fun t8_10 h_81 =>
  (pLoad h_81 t3 fun t4_39 =>
  t4_39 = t4) ∧
  (pLoad h_81 t10 fun t11_11 =>
  t11_11 = t11) ∧
  (pLoad h_81 t14 fun t15_25 =>
  t15_25 = t15) ∧
  (pAppend T_int64 1 8 [(.int .i64 0)] t9_8 t11 h_81 fun t12_14 h_82 =>
  (pLoad h_82 t3 fun t4_40 =>
  t4_40 = t4) ∧
  (pLoad h_82 t14 fun t15_26 =>
  t15_26 = t15) ∧
  (pAppend T_api_Arc 3 24 [(.int .i64 0), (.int .i64 0), (.int .i64 0)] t13_11 t15 h_82 fun t16_14 h_83 =>
  (pLoad h_83 t3 fun t4_41 =>
  t4_41 = t4) ∧
  (pBuild [(.int .i64 0), (.slice none 0 0), (.slice none 0 0), (.slice none 0 0)] [(0, 1, t4), (1, 1, t8_10), (2, 1, t12_14), (3, 1, t16_14)] fun t17_14 =>
  pStore 4 t2 t17_14 h_83 fun u_14 h_84 =>
  J () h_84))))))
  (fun x hh => sh_milestoneref07_Copy_C1 P t2 K hh)

set_option maxRecDepth 100000 in
theorem lk_milestoneref07_Copy (g0 : Value) {h : Heap} {K : Value → Heap → Prop} (H : sh_milestoneref07_Copy Tryz.prog g0 h K) : CallsH Tryz.prog F_milestoneref07_Copy [g0].toArray h K :=
  callsH_of (ann := (annG (Tryz.f61.body.getD .skip) 0 [(1, [])]).1) (c := Tryz.f61.body.getD .skip) Tryz.func61 (by kernel_rfl) (by kernel_rfl) (by kernel_rfl) (of_decide_eq_true (by kernel_rfl))
    (Eq.mpr (by kernel_rfl) H)

end Go.Proofs.YtlkcpceobicoiaaGreatDoor

namespace Go.Proofs.YtlkcpceobicoiaaGreatDoor
open Go Go.Mh
set_option maxHeartbeats 0
set_option linter.unusedVariables false

/-! milestone/walk.steps$1 -/

def sh_walk_steps_1_k2 (P : Program) (K : Value → Heap → Prop) (a7 t3 t11 : Value) (Z : Value → Heap → Prop) (t31_1 : Value) (h_6 : Heap) : Prop :=
  ifV t31_1
  (K (.tuple #[]) h_6)
  (pField 1 a7 fun t32 =>
  pLoad h_6 t32 fun t33 =>
  pStore 1 t3 t33 h_6 fun u_1 h_7 =>
  pBin .add t11 (.int .i64 1) fun t34 =>
  Z t34 h_7)

def sh_walk_steps_1_L1 (P : Program) (t10 t9 t2 t3 yield0 : Value) (K : Value → Heap → Prop) (t11 : Value) (h_1 : Heap) (Z : Value → Heap → Prop) : Prop :=
  pBin .lss t11 t10 fun t12 =>
  ifV t12
  (pIdx 1 t9 t11 fun t13 =>
  pLoad h_1 t13 fun t14 =>
  pLoad h_1 t2 fun t16 =>
  callS P F_net_Net_Arc [t16, t14] h_1 fun t18 h_2 =>
  pExt t18 0 fun t19 =>
  pExt t18 1 fun t20 =>
  pBox T_api_Arc (.agg #[(.int .i64 0), (.int .i64 0), (.int .i64 0)]) h_2 fun a7 h_3 =>
  pStore 3 a7 t19 h_3 fun u h_4 =>
  pLoadN 3 h_4 a7 fun t22 =>
  ifV t20
  (pField 0 a7 fun t25 =>
  pLoad h_4 t25 fun t26 =>
  pLoad h_4 t3 fun t27 =>
  pBin .eql t26 t27 fun t28 =>
  callV P yield0 [t22, t28].toArray h_4 fun t30 h_5 =>
  pUn .not t30 fun t31 =>
  sh_walk_steps_1_k2 P K a7 t3 t11 Z t31 h_5)
  (callV P yield0 [t22, (.bool false)].toArray h_4 fun t30_1 h_8 =>
  pUn .not t30_1 fun t31_2 =>
  sh_walk_steps_1_k2 P K a7 t3 t11 Z t31_2 h_8))
  (K (.tuple #[]) h_1)

def sh_walk_steps_1 (P : Program) (yield0 t1 t2 t3 : Value) (h : Heap) (K : Value → Heap → Prop) : Prop :=
  pLoad h t1 fun t9 =>
  pLen t9 fun t10 =>
  LoopH (σ := Vals [11]) (fun x hh ZZ => sh_walk_steps_1_L1 P t10 t9 t2 t3 yield0 K x.1 hh (fun a0 hz => ZZ (a0, ()) hz)) ((.int .i64 0), ()) h

set_option maxRecDepth 100000 in
theorem lk_walk_steps_1 (yield0 t1 t2 t3 : Value) {h : Heap} {K : Value → Heap → Prop} (H : sh_walk_steps_1 Tryz.prog yield0 t1 t2 t3 h K) : CallsH Tryz.prog F_walk_steps_1 [yield0, t1, t2, t3].toArray h K :=
  callsH_of (ann := (annG (Tryz.f62.body.getD .skip) 0 [(1, [11])]).1) (c := Tryz.f62.body.getD .skip) Tryz.func62 (by kernel_rfl) (by kernel_rfl) (by kernel_rfl) (of_decide_eq_true (by kernel_rfl))
    (Eq.mpr (by kernel_rfl) H)

/-! milestone/graph.look -/

def sh_graph_look_k3 (P : Program) (p4 phase2 : Value) (h_11 : Heap) : Prop :=
  pField 2 p4 fun t32 =>
  pLoad h_11 t32 fun t33 =>
  pLoad h_11 phase2 fun t34 =>
  pField 0 p4 fun t35 =>
  pLoad h_11 t35 fun t36 =>
  pField 1 p4 fun t37 =>
  pLoad h_11 t37 fun t38 =>
  pBuild [(.int .i64 0), (.int .i64 0), (.int .i64 0), (.int .i64 0)] [(0, 1, t33), (1, 1, t34), (2, 1, t36), (3, 1, t38)] fun t39 =>
  pBox T_api_Fault t39 h_11 fun t40 h_12 =>
  pBuild [(.pointer none)] [(0, 1, t40)] fun t41 =>
  False

def sh_graph_look_B2 (P : Program) (h_6 : Heap) (phase2 : Value) (L : Loop) (t19 : Value) (h_7 : Heap) (R : Exit → Heap → Prop) : Prop :=
  pBox T_graph_place (.agg #[(.int .i64 0), (.int .i64 0), (.int .i64 0), (.int .i64 0), (.int .i64 0), (.int .i64 0)]) h_7 fun p4 h_8 =>
  pStore 6 p4 t19 h_8 fun u_1 h_9 =>
  beginR (h_6.size + 1) L h_9 fun h_10 =>
  pField 3 p4 fun t20 =>
  pLoad h_10 t20 fun t21 =>
  pField 4 p4 fun t22 =>
  pLoad h_10 t22 fun t23 =>
  pBin .lss t21 t23 fun t24 =>
  ifV t24
  (sh_graph_look_k3 P p4 phase2 h_10)
  (pField 3 p4 fun t26 =>
  pLoad h_10 t26 fun t27 =>
  pField 5 p4 fun t28 =>
  pLoad h_10 t28 fun t29 =>
  pBin .geq t27 t29 fun t30 =>
  ifV t30
  (sh_graph_look_k3 P p4 phase2 h_10)
  (R .normal h_10))

def sh_graph_look_L1 (P : Program) (t11 t10 : Value) (K : Value → Heap → Prop) (m : List Nat) (t12 : Value) (h_3 : Heap) (Z : List Nat → Value → Heap → Prop) : Prop :=
  pBin .lss t12 t11 fun t13 =>
  ifV t13
  (pIdx 1 t10 t12 fun t15 =>
  pLoad h_3 t15 fun t16 =>
  pBox T_int (.int .i64 0) h_3 fun phase2 h_4 =>
  pStore 1 phase2 t12 h_4 fun u h_5 =>
  callV P t16 [].toArray h_5 fun t18 h_6 =>
  rangeH P t18 [19] (h_6.size + 1) (h_6.push (.deferred (some []))) (fun L x hh R => sh_graph_look_B2 P h_6 phase2 L x.1 hh R)
  (fun h_13 => pBin .add t12 (.int .i64 1) fun t43 =>
  Z (h_6.size :: m) t43 h_13)
  (fun h_14 => takeM (h_6.size :: m) h_14 fun h_15 =>
  K (.tuple #[]) h_15)
  [])
  (takeM m h_3 fun h_16 =>
  K (.tuple #[]) h_16)

def sh_graph_look (P : Program) (r0 : Value) (h : Heap) (K : Value → Heap → Prop) : Prop :=
  pBox T_api_Raw r0 h fun r1 h_1 =>
  pBuildSlice T_func_iter_Seq_graph_place (zerosL [.nilFunc] 5) [(0, 1, (.func (.func F_graph_look_1) #[] #[r1])), (1, 1, (.func (.func F_graph_look_2) #[] #[r1])), (2, 1, (.func (.func F_graph_look_3) #[] #[r1])), (3, 1, (.func (.func F_graph_look_4) #[] #[r1])), (4, 1, (.func (.func F_graph_look_5) #[] #[r1]))] 5 h_1 fun t10 h_2 =>
  pLen t10 fun t11 =>
  LoopH (σ := List Nat × Vals [12]) (fun x hh ZZ => sh_graph_look_L1 P t11 t10 K x.1 x.2.1 hh (fun mz a0 hz => ZZ (mz, (a0, ())) hz)) ([], ((.int .i64 0), ())) h_2

set_option maxRecDepth 100000 in
theorem lk_graph_look (r0 : Value) {h : Heap} {K : Value → Heap → Prop} (H : sh_graph_look Tryz.prog r0 h K) : CallsH Tryz.prog F_graph_look [r0].toArray h K :=
  callsH_of (ann := (annG (Tryz.f64.body.getD .skip) 0 [(2, [12])]).1) (c := Tryz.f64.body.getD .skip) Tryz.func64 (by kernel_rfl) (by kernel_rfl) (by kernel_rfl) (of_decide_eq_true (by kernel_rfl))
    (Eq.mpr (by kernel_rfl) H)

/-! milestone/net.of$1 -/

def sh_net_of_1_C5 (P : Program) (t64 : Value) (Z_2 : Value → Heap → Prop) (h_31 : Heap) : Prop :=
  pBin .add t64 (.int .i64 1) fun t83 =>
  Z_2 t83 h_31

def sh_net_of_1_L4 (P : Program) (t63 t62 end0 rows8 : Value) (K : Value → Heap → Prop) (t64 : Value) (h_14 : Heap) (Z_2 : Value → Heap → Prop) : Prop :=
  pBin .lss t64 t63 fun t65 =>
  ifV t65
  (cutP (σ := Vals []) (fun J_1 =>
  pIdx 3 t62 t64 fun t67 =>
  pLoadN 3 h_14 t67 fun t68 =>
  pBox T_api_Arc (.agg #[(.int .i64 0), (.int .i64 0), (.int .i64 0)]) h_14 fun a13 h_15 =>
  pStore 3 a13 t68 h_15 fun u_3 h_16 =>
  pLoadN 3 h_16 a13 fun t71 =>
  pLoadN 3 h_16 a13 fun t75 =>
  (callV P end0 [t71].toArray h_16 fun t72 h_17 =>
  (pLoadN 3 h_17 a13 fun t75_1 =>
  t75_1 = t75) ∧
  ((callV P end0 [t75].toArray h_17 fun t76 h_18 =>
  pIdx 1 rows8 t76 fun t77 =>
  pLoad h_18 t77 fun t78 =>
  pBuildSlice T_int (zerosL [(.int .i64 0)] 1) [(0, 1, t64)] 1 h_18 fun t80 h_19 =>
  pAppend T_int 1 8 [(.int .i64 0)] t78 t80 h_19 fun t81 h_20 =>
  pIdx 1 rows8 t72 fun t82 =>
  pStore 1 t82 t81 h_20 fun u_4 h_21 =>
  J_1 () h_21) ∧
  (pBuildSlice T_int (zerosL [(.int .i64 0)] 1) [(0, 1, t64)] 1 h_17 fun t80_1 h_22 =>
  callV P end0 [t75].toArray h_22 fun t76_1 h_23 =>
  pIdx 1 rows8 t76_1 fun t77_1 =>
  pLoad h_23 t77_1 fun t78_1 =>
  pAppend T_int 1 8 [(.int .i64 0)] t78_1 t80_1 h_23 fun t81_1 h_24 =>
  pIdx 1 rows8 t72 fun t82_1 =>
  pStore 1 t82_1 t81_1 h_24 fun u_5 h_25 =>
  J_1 () h_25))) ∧
  (pBuildSlice T_int (zerosL [(.int .i64 0)] 1) [(0, 1, t64)] 1 h_16 fun t80_2 h_26 =>
  callV P end0 [t71].toArray h_26 fun t72_1 h_27 =>
  (pLoadN 3 h_27 a13 fun t75_2 =>
  t75_2 = t75) ∧
  (callV P end0 [t75].toArray h_27 fun t76_2 h_28 =>
  pIdx 1 rows8 t76_2 fun t77_2 =>
  pLoad h_28 t77_2 fun t78_2 =>
  pAppend T_int 1 8 [(.int .i64 0)] t78_2 t80_2 h_28 fun t81_2 h_29 =>
  pIdx 1 rows8 t72_1 fun t82_2 =>
  pStore 1 t82_2 t81_2 h_29 fun u_6 h_30 =>
  J_1 () h_30)))
  (fun x hh => sh_net_of_1_C5 P t64 Z_2 hh))
  (K rows8 h_14)

def sh_net_of_1_L3 (P : Program) (t41 t16 all7 rows8 t1 end0 : Value) (K : Value → Heap → Prop) (at9 t42 : Value) (h_12 : Heap) (Z_1 : Value → Value → Heap → Prop) : Prop :=
  pBin .lss t42 t41 fun t43 =>
  ifV t43
  (pIdx 1 t16 t42 fun t45 =>
  pLoad h_12 t45 fun t46 =>
  pBin .add at9 t46 fun t54 =>
  pSlice 1 all7 (some at9) (some at9) (some t54) fun t55 =>
  pIdx 1 rows8 t42 fun t56 =>
  pStore 1 t56 t55 h_12 fun u_2 h_13 =>
  pBin .add at9 t46 fun t59 =>
  pBin .add t42 (.int .i64 1) fun t60 =>
  Z_1 t59 t60 h_13)
  (pField 3 t1 fun t61 =>
  pLoad h_12 t61 fun t62 =>
  pLen t62 fun t63 =>
  LoopH (σ := Vals [64]) (fun x hh ZZ => sh_net_of_1_L4 P t63 t62 end0 rows8 K x.1 hh (fun a0 hz => ZZ (a0, ()) hz)) ((.int .i64 0), ()) h_12)

def sh_net_of_1_C2 (P : Program) (t16 t1 end0 : Value) (K : Value → Heap → Prop) (all7 rows8 : Value) (h_11 : Heap) : Prop :=
  pLen t16 fun t41 =>
  LoopH (σ := Vals [9, 42]) (fun x hh ZZ => sh_net_of_1_L3 P t41 t16 all7 rows8 t1 end0 K x.1 x.2.1 hh (fun a0 a1 hz => ZZ (a0, (a1, ())) hz)) ((.int .i64 0), ((.int .i64 0), ())) h_11

def sh_net_of_1_L1 (P : Program) (t19 t18 end0 t16 t1 : Value) (K : Value → Heap → Prop) (t20 : Value) (h_2 : Heap) (Z : Value → Heap → Prop) : Prop :=
  pBin .lss t20 t19 fun t21 =>
  ifV t21
  (pIdx 3 t18 t20 fun t22 =>
  pLoadN 3 h_2 t22 fun t23 =>
  pBox T_api_Arc (.agg #[(.int .i64 0), (.int .i64 0), (.int .i64 0)]) h_2 fun a6 h_3 =>
  pStore 3 a6 t23 h_3 fun u h_4 =>
  pLoadN 3 h_4 a6 fun t26 =>
  callV P end0 [t26].toArray h_4 fun t27 h_5 =>
  pIdx 1 t16 t27 fun t28 =>
  pLoad h_5 t28 fun t29 =>
  pBin .add t29 (.int .i64 1) fun t30 =>
  pIdx 1 t16 t27 fun t31 =>
  pStore 1 t31 t30 h_5 fun u_1 h_6 =>
  pBin .add t20 (.int .i64 1) fun t32 =>
  Z t32 h_6)
  (cutP (σ := Vals [7, 8]) (fun J =>
  pField 3 t1 fun t33 =>
  pLoad h_2 t33 fun t34 =>
  pLen t34 fun t35 =>
  pField 0 t1 fun t37 =>
  pLoad h_2 t37 fun t38 =>
  (pMakeSlice T_int 8 [(.int .i64 0)] t35 t35 h_2 fun t36 h_7 =>
  pMakeSlice T_sl_int 24 [(.slice none 0 0)] t38 t38 h_7 fun t39 h_8 =>
  J (t36, (t39, ())) h_8) ∧
  (pMakeSlice T_sl_int 24 [(.slice none 0 0)] t38 t38 h_2 fun t39_1 h_9 =>
  pMakeSlice T_int 8 [(.int .i64 0)] t35 t35 h_9 fun t36_1 h_10 =>
  J (t36_1, (t39_1, ())) h_10))
  (fun x hh => sh_net_of_1_C2 P t16 t1 end0 K x.1 x.2.1 hh))

def sh_net_of_1 (P : Program) (end0 t1 : Value) (h : Heap) (K : Value → Heap → Prop) : Prop :=
  pField 0 t1 fun t14 =>
  pLoad h t14 fun t15 =>
  pMakeSlice T_int 8 [(.int .i64 0)] t15 t15 h fun t16 h_1 =>
  pField 3 t1 fun t17 =>
  pLoad h_1 t17 fun t18 =>
  pLen t18 fun t19 =>
  LoopH (σ := Vals [20]) (fun x hh ZZ => sh_net_of_1_L1 P t19 t18 end0 t16 t1 K x.1 hh (fun a0 hz => ZZ (a0, ()) hz)) ((.int .i64 0), ()) h_1

set_option maxRecDepth 100000 in
theorem lk_net_of_1 (end0 t1 : Value) {h : Heap} {K : Value → Heap → Prop} (H : sh_net_of_1 Tryz.prog end0 t1 h K) : CallsH Tryz.prog F_net_of_1 [end0, t1].toArray h K :=
  callsH_of (ann := (annG (Tryz.f66.body.getD .skip) 0 [(4, [20]), (9, [7, 8]), (13, [9, 42]), (21, [64]), (24, [])]).1) (c := Tryz.f66.body.getD .skip) Tryz.func66 (by kernel_rfl) (by kernel_rfl) (by kernel_rfl) (of_decide_eq_true (by kernel_rfl))
    (Eq.mpr (by kernel_rfl) H)

/-! milestone/net.of$2 -/

def sh_net_of_2 (P : Program) (a0 : Value) (h : Heap) (K : Value → Heap → Prop) : Prop :=
  pBox T_api_Arc a0 h fun a1 h_1 =>
  pField 0 a1 fun t3 =>
  pLoad h_1 t3 fun t4 =>
  K t4 h_1

set_option maxRecDepth 100000 in
theorem lk_net_of_2 (a0 : Value) {h : Heap} {K : Value → Heap → Prop} (H : sh_net_of_2 Tryz.prog a0 h K) : CallsH Tryz.prog F_net_of_2 [a0].toArray h K :=
  callsH_of (ann := (annG (Tryz.f67.body.getD .skip) 0 []).1) (c := Tryz.f67.body.getD .skip) Tryz.func67 (by kernel_rfl) (by kernel_rfl) (by kernel_rfl) (of_decide_eq_true (by kernel_rfl))
    (Eq.mpr (by kernel_rfl) H)

/-! milestone/net.of$3 -/

def sh_net_of_3 (P : Program) (a0 : Value) (h : Heap) (K : Value → Heap → Prop) : Prop :=
  pBox T_api_Arc a0 h fun a1 h_1 =>
  pField 1 a1 fun t3 =>
  pLoad h_1 t3 fun t4 =>
  K t4 h_1

set_option maxRecDepth 100000 in
theorem lk_net_of_3 (a0 : Value) {h : Heap} {K : Value → Heap → Prop} (H : sh_net_of_3 Tryz.prog a0 h K) : CallsH Tryz.prog F_net_of_3 [a0].toArray h K :=
  callsH_of (ann := (annG (Tryz.f68.body.getD .skip) 0 []).1) (c := Tryz.f68.body.getD .skip) Tryz.func68 (by kernel_rfl) (by kernel_rfl) (by kernel_rfl) (of_decide_eq_true (by kernel_rfl))
    (Eq.mpr (by kernel_rfl) H)

/-! slices.Clone[[]int64,int64] -/

def sh_slices_Clone_sl_int64_int64 (P : Program) (s0 : Value) (h : Heap) (K : Value → Heap → Prop) : Prop :=
  pEq false .slice s0 (.slice none 0 0) fun t4 =>
  ifV t4
  (K (.slice none 0 0) h)
  (pBuildSlice T_int64 (zerosL [(.int .i64 0)] 0) [] 0 h fun t5 h_1 =>
  pAppend T_int64 1 8 [(.int .i64 0)] t5 s0 h_1 fun t7 h_2 =>
  K t7 h_2)

set_option maxRecDepth 100000 in
theorem lk_slices_Clone_sl_int64_int64 (s0 : Value) {h : Heap} {K : Value → Heap → Prop} (H : sh_slices_Clone_sl_int64_int64 Tryz.prog s0 h K) : CallsH Tryz.prog F_slices_Clone_sl_int64_int64 [s0].toArray h K :=
  callsH_of (ann := (annG (Tryz.f69.body.getD .skip) 0 []).1) (c := Tryz.f69.body.getD .skip) Tryz.func69 (by kernel_rfl) (by kernel_rfl) (by kernel_rfl) (of_decide_eq_true (by kernel_rfl))
    (Eq.mpr (by kernel_rfl) H)

/-! slices.Clone[[]milestone/api.Arc,milestone/api.Arc] -/

def sh_slices_Clone_sl_api_Arc_api_Arc (P : Program) (s0 : Value) (h : Heap) (K : Value → Heap → Prop) : Prop :=
  pEq false .slice s0 (.slice none 0 0) fun t4 =>
  ifV t4
  (K (.slice none 0 0) h)
  (pBuildSlice T_api_Arc (zerosL [(.int .i64 0), (.int .i64 0), (.int .i64 0)] 0) [] 0 h fun t5 h_1 =>
  pAppend T_api_Arc 3 24 [(.int .i64 0), (.int .i64 0), (.int .i64 0)] t5 s0 h_1 fun t7 h_2 =>
  K t7 h_2)

set_option maxRecDepth 100000 in
theorem lk_slices_Clone_sl_api_Arc_api_Arc (s0 : Value) {h : Heap} {K : Value → Heap → Prop} (H : sh_slices_Clone_sl_api_Arc_api_Arc Tryz.prog s0 h K) : CallsH Tryz.prog F_slices_Clone_sl_api_Arc_api_Arc [s0].toArray h K :=
  callsH_of (ann := (annG (Tryz.f70.body.getD .skip) 0 []).1) (c := Tryz.f70.body.getD .skip) Tryz.func70 (by kernel_rfl) (by kernel_rfl) (by kernel_rfl) (of_decide_eq_true (by kernel_rfl))
    (Eq.mpr (by kernel_rfl) H)

/-! math/bits.Mul -/

def sh_math_bits_Mul (P : Program) (x0 y1 : Value) (h : Heap) (K : Value → Heap → Prop) : Prop :=
  callS P F_math_bits_Mul64 [x0, y1] h fun t25 h_1 =>
  pExt t25 0 fun t26 =>
  pExt t25 1 fun t27 =>
  K (.tuple #[t26, t27]) h_1

set_option maxRecDepth 100000 in
theorem lk_math_bits_Mul (x0 y1 : Value) {h : Heap} {K : Value → Heap → Prop} (H : sh_math_bits_Mul Tryz.prog x0 y1 h K) : CallsH Tryz.prog F_math_bits_Mul [x0, y1].toArray h K :=
  callsH_of (ann := (annG (Tryz.f71.body.getD .skip) 0 []).1) (c := Tryz.f71.body.getD .skip) Tryz.func71 (by kernel_rfl) (by kernel_rfl) (by kernel_rfl) (of_decide_eq_true (by kernel_rfl))
    (Eq.mpr (by kernel_rfl) H)

/-! (*milestone/heap.row).up -/

def sh_heap_row_up_L1 (P : Program) (r0 : Value) (K : Value → Heap → Prop) (i1_1 : Value) (h_1 : Heap) (Z : Value → Heap → Prop) : Prop :=
  pBin .gtr i1_1 (.int .i64 0) fun t5 =>
  ifV t5
  (pBin .sub i1_1 (.int .i64 1) fun t10 =>
  pBin .quo t10 (.int .i64 4) fun t11 =>
  callS P F_heap_row_ahead [r0, i1_1, t11] h_1 fun t12 h_2 =>
  ifV t12
  (pBin .sub i1_1 (.int .i64 1) fun t17 =>
  pBin .quo t17 (.int .i64 4) fun t18 =>
  callS P F_heap_row_swap [r0, i1_1, t18] h_2 fun t19 h_3 =>
  pBin .sub i1_1 (.int .i64 1) fun t21 =>
  pBin .quo t21 (.int .i64 4) fun t22 =>
  Z t22 h_3)
  (K (.tuple #[]) h_2))
  (K (.tuple #[]) h_1)

def sh_heap_row_up (P : Program) (r0 i1 : Value) (h : Heap) (K : Value → Heap → Prop) : Prop :=
  LoopH (σ := Vals [1]) (fun x hh ZZ => sh_heap_row_up_L1 P r0 K x.1 hh (fun a0 hz => ZZ (a0, ()) hz)) (i1, ()) h

set_option maxRecDepth 100000 in
theorem lk_heap_row_up (r0 i1 : Value) {h : Heap} {K : Value → Heap → Prop} (H : sh_heap_row_up Tryz.prog r0 i1 h K) : CallsH Tryz.prog F_heap_row_up [r0, i1].toArray h K :=
  callsH_of (ann := (annG (Tryz.f72.body.getD .skip) 0 [(0, [1])]).1) (c := Tryz.f72.body.getD .skip) Tryz.func72 (by kernel_rfl) (by kernel_rfl) (by kernel_rfl) (of_decide_eq_true (by kernel_rfl))
    (Eq.mpr (by kernel_rfl) H)

/-! (*milestone/heap.Heap).Len -/

def sh_heap_Heap_Len (P : Program) (h0 : Value) (h : Heap) (K : Value → Heap → Prop) : Prop :=
  pEq false .ptr h0 (.pointer none) fun t4 =>
  ifV t4
  (K (.int .i64 0) h)
  (pNil h0 fun t6 =>
  pField 0 t6 fun t7 =>
  pField 0 t7 fun t8 =>
  pLoad h t8 fun t9 =>
  pLen t9 fun t10 =>
  K t10 h)

set_option maxRecDepth 100000 in
theorem lk_heap_Heap_Len (h0 : Value) {h : Heap} {K : Value → Heap → Prop} (H : sh_heap_Heap_Len Tryz.prog h0 h K) : CallsH Tryz.prog F_heap_Heap_Len [h0].toArray h K :=
  callsH_of (ann := (annG (Tryz.f73.body.getD .skip) 0 []).1) (c := Tryz.f73.body.getD .skip) Tryz.func73 (by kernel_rfl) (by kernel_rfl) (by kernel_rfl) (of_decide_eq_true (by kernel_rfl))
    (Eq.mpr (by kernel_rfl) H)

/-! (*milestone/heap.row).swap -/

def sh_heap_row_swap (P : Program) (r0 i1 k2 : Value) (h : Heap) (K : Value → Heap → Prop) : Prop :=
  pNil r0 fun t7 =>
  pField 0 t7 fun t8 =>
  pLoad h t8 fun t9 =>
  pNil r0 fun t12 =>
  pField 0 t12 fun t13 =>
  pLoad h t13 fun t14 =>
  pNil r0 fun t17 =>
  pField 0 t17 fun t18 =>
  pLoad h t18 fun t19 =>
  pIdx 2 t19 k2 fun t21 =>
  pLoadN 2 h t21 fun t22 =>
  pNil r0 fun t24 =>
  pField 0 t24 fun t25 =>
  pLoad h t25 fun t26 =>
  pIdx 2 t26 i1 fun t28 =>
  pLoadN 2 h t28 fun t29 =>
  pIdx 2 t9 i1 fun t30 =>
  pStore 2 t30 t22 h fun u h_1 =>
  pIdx 2 t14 k2 fun t31 =>
  pStore 2 t31 t29 h_1 fun u_1 h_2 =>
  pNil r0 fun t33 =>
  pField 1 t33 fun t34 =>
  pLoad h_2 t34 fun t35 =>
  pNil r0 fun t37 =>
  pField 0 t37 fun t38 =>
  pLoad h_2 t38 fun t39 =>
  pIdx 2 t39 i1 fun t41 =>
  pField 0 t41 fun t42 =>
  pLoad h_2 t42 fun t43 =>
  pNil r0 fun t45 =>
  pField 1 t45 fun t46 =>
  pLoad h_2 t46 fun t47 =>
  pNil r0 fun t49 =>
  pField 0 t49 fun t50 =>
  pLoad h_2 t50 fun t51 =>
  pIdx 2 t51 k2 fun t53 =>
  pField 0 t53 fun t54 =>
  pLoad h_2 t54 fun t55 =>
  pMapEntry (.int .i64) (.int .i64 0) t35 t43 h_2 fun t58 h_3 =>
  pExt t58 1 fun t59 =>
  pEntryStore t35 t59 i1 h_3 fun u_2 h_4 =>
  pMapEntry (.int .i64) (.int .i64 0) t47 t55 h_4 fun t60 h_5 =>
  pExt t60 1 fun t61 =>
  pEntryStore t47 t61 k2 h_5 fun u_3 h_6 =>
  K (.tuple #[]) h_6

set_option maxRecDepth 100000 in
theorem lk_heap_row_swap (r0 i1 k2 : Value) {h : Heap} {K : Value → Heap → Prop} (H : sh_heap_row_swap Tryz.prog r0 i1 k2 h K) : CallsH Tryz.prog F_heap_row_swap [r0, i1, k2].toArray h K :=
  callsH_of (ann := (annG (Tryz.f74.body.getD .skip) 0 []).1) (c := Tryz.f74.body.getD .skip) Tryz.func74 (by kernel_rfl) (by kernel_rfl) (by kernel_rfl) (of_decide_eq_true (by kernel_rfl))
    (Eq.mpr (by kernel_rfl) H)

/-! (*milestone/heap.row).down -/

def sh_heap_row_down_B2 (P : Program) (h_6 : Heap) (first4 best5 : Value) (L : Loop) (t13 : Value) (h_7 : Heap) (R : Exit → Heap → Prop) : Prop :=
  beginR (h_6.size + 1) L h_7 fun h_8 =>
  pLoad h_8 first4 fun t14 =>
  pLoad h_8 best5 fun t16 =>
  callV P t14 [t13, t16].toArray h_8 fun t17 h_9 =>
  ifV t17
  (pStore 1 best5 t13 h_9 fun u_2 h_10 =>
  R .normal h_10)
  (R .normal h_9)

def sh_heap_row_down_L1 (P : Program) (r0 first4 : Value) (K : Value → Heap → Prop) (m : List Nat) (i1_1 : Value) (h_3 : Heap) (Z : List Nat → Value → Heap → Prop) : Prop :=
  pBox T_int (.int .i64 0) h_3 fun best5 h_4 =>
  pStore 1 best5 i1_1 h_4 fun u_1 h_5 =>
  callS P F_heap_row_below [r0, i1_1] h_5 fun t12 h_6 =>
  rangeH P t12 [13] (h_6.size + 1) (h_6.push (.deferred (some []))) (fun L x hh R => sh_heap_row_down_B2 P h_6 first4 best5 L x.1 hh R)
  (fun h_11 => pLoad h_11 best5 fun t19 =>
  pBin .eql t19 i1_1 fun t21 =>
  ifV t21
  (takeM (h_6.size :: m) h_11 fun h_12 =>
  K (.tuple #[]) h_12)
  (pLoad h_11 best5 fun t24 =>
  callS P F_heap_row_swap [r0, i1_1, t24] h_11 fun t25 h_13 =>
  pLoad h_13 best5 fun t26 =>
  Z (h_6.size :: m) t26 h_13))
  (fun h_14 => takeM (h_6.size :: m) h_14 fun h_15 =>
  K (.tuple #[]) h_15)
  []

def sh_heap_row_down (P : Program) (r0 i1 : Value) (h : Heap) (K : Value → Heap → Prop) : Prop :=
  pBox T_func_int_int_bool .nilFunc h fun first4 h_1 =>
  pStore 1 first4 (.func (.func F_heap_row_ahead) #[r0] #[]) h_1 fun u h_2 =>
  LoopH (σ := List Nat × Vals [1]) (fun x hh ZZ => sh_heap_row_down_L1 P r0 first4 K x.1 x.2.1 hh (fun mz a0 hz => ZZ (mz, (a0, ())) hz)) ([], (i1, ())) h_2

set_option maxRecDepth 100000 in
theorem lk_heap_row_down (r0 i1 : Value) {h : Heap} {K : Value → Heap → Prop} (H : sh_heap_row_down Tryz.prog r0 i1 h K) : CallsH Tryz.prog F_heap_row_down [r0, i1].toArray h K :=
  callsH_of (ann := (annG (Tryz.f75.body.getD .skip) 0 [(1, [1])]).1) (c := Tryz.f75.body.getD .skip) Tryz.func75 (by kernel_rfl) (by kernel_rfl) (by kernel_rfl) (of_decide_eq_true (by kernel_rfl))
    (Eq.mpr (by kernel_rfl) H)

/-! milestone/flood.arcs$1 -/

def sh_flood_arcs_1_L1 (P : Program) (t10 t9 t2 t3 yield0 : Value) (K : Value → Heap → Prop) (t11 : Value) (h_1 : Heap) (Z : Value → Heap → Prop) : Prop :=
  pBin .lss t11 t10 fun t12 =>
  ifV t12
  (pIdx 1 t9 t11 fun t13 =>
  pLoad h_1 t13 fun t14 =>
  pLoad h_1 t2 fun t16 =>
  callS P F_net_Net_Arc [t16, t14] h_1 fun t18 h_2 =>
  pExt t18 0 fun t19 =>
  pExt t18 1 fun t20 =>
  pBox T_api_Arc (.agg #[(.int .i64 0), (.int .i64 0), (.int .i64 0)]) h_2 fun a7 h_3 =>
  pStore 3 a7 t19 h_3 fun u h_4 =>
  pLoad h_4 t3 fun t23 =>
  pLoadN 3 h_4 a7 fun t24 =>
  pField 2 a7 fun t26 =>
  pLoad h_4 t26 fun t27 =>
  callV P t23 [t24].toArray h_4 fun t25 h_5 =>
  (pLoad h_5 t26 fun t27_1 =>
  t27_1 = t27) ∧
  (pBuild [(.int .i64 0), (.int .i64 0), (.int .i64 0)] [(1, 1, t25), (2, 1, t27)] fun t28 =>
  callV P yield0 [t14, t28].toArray h_5 fun t29 h_6 =>
  pUn .not t29 fun t30 =>
  ifV t30
  (K (.tuple #[]) h_6)
  (pBin .add t11 (.int .i64 1) fun t31 =>
  Z t31 h_6)))
  (K (.tuple #[]) h_1)

def sh_flood_arcs_1 (P : Program) (yield0 t1 t2 t3 : Value) (h : Heap) (K : Value → Heap → Prop) : Prop :=
  pLoad h t1 fun t9 =>
  pLen t9 fun t10 =>
  LoopH (σ := Vals [11]) (fun x hh ZZ => sh_flood_arcs_1_L1 P t10 t9 t2 t3 yield0 K x.1 hh (fun a0 hz => ZZ (a0, ()) hz)) ((.int .i64 0), ()) h

set_option maxRecDepth 100000 in
theorem lk_flood_arcs_1 (yield0 t1 t2 t3 : Value) {h : Heap} {K : Value → Heap → Prop} (H : sh_flood_arcs_1 Tryz.prog yield0 t1 t2 t3 h K) : CallsH Tryz.prog F_flood_arcs_1 [yield0, t1, t2, t3].toArray h K :=
  callsH_of (ann := (annG (Tryz.f76.body.getD .skip) 0 [(1, [11])]).1) (c := Tryz.f76.body.getD .skip) Tryz.func76 (by kernel_rfl) (by kernel_rfl) (by kernel_rfl) (of_decide_eq_true (by kernel_rfl))
    (Eq.mpr (by kernel_rfl) H)

/-! (*milestone/heap.Heap).Key -/

def sh_heap_Heap_Key (P : Program) (h0 id1 : Value) (h : Heap) (K : Value → Heap → Prop) : Prop :=
  callS P F_heap_Heap_Len [h0] h fun t9 h_1 =>
  pBin .eql t9 (.int .i64 0) fun t10 =>
  ifV t10
  (K (.tuple #[(.int .i64 0), (.bool false)]) h_1)
  (pNil h0 fun t13 =>
  pField 0 t13 fun t14 =>
  pField 1 t14 fun t15 =>
  pLoad h_1 t15 fun t16 =>
  pLook (.int .i64) (.int .i64 0) true h_1 t16 id1 fun t18 =>
  pExt t18 0 fun t19 =>
  pExt t18 1 fun t20 =>
  pUn .not t20 fun t22 =>
  ifV t22
  (K (.tuple #[(.int .i64 0), (.bool false)]) h_1)
  (pNil h0 fun t24 =>
  pField 0 t24 fun t25 =>
  pField 0 t25 fun t26 =>
  pLoad h_1 t26 fun t27 =>
  pIdx 2 t27 t19 fun t29 =>
  pField 1 t29 fun t30 =>
  pLoad h_1 t30 fun t31 =>
  K (.tuple #[t31, (.bool true)]) h_1))

set_option maxRecDepth 100000 in
theorem lk_heap_Heap_Key (h0 id1 : Value) {h : Heap} {K : Value → Heap → Prop} (H : sh_heap_Heap_Key Tryz.prog h0 id1 h K) : CallsH Tryz.prog F_heap_Heap_Key [h0, id1].toArray h K :=
  callsH_of (ann := (annG (Tryz.f77.body.getD .skip) 0 []).1) (c := Tryz.f77.body.getD .skip) Tryz.func77 (by kernel_rfl) (by kernel_rfl) (by kernel_rfl) (of_decide_eq_true (by kernel_rfl))
    (Eq.mpr (by kernel_rfl) H)

/-! (*milestone/heap.Heap).Lower -/

def sh_heap_Heap_Lower_k1 (P : Program) (K : Value → Heap → Prop) (h_1 : Heap) : Prop :=
  K (.int .i64 2) h_1

def sh_heap_Heap_Lower (P : Program) (h0 id1 key2 : Value) (h : Heap) (K : Value → Heap → Prop) : Prop :=
  pEq false .ptr h0 (.pointer none) fun t10 =>
  ifV t10
  (K (.int .i64 1) h)
  (pNil h0 fun t13 =>
  pField 0 t13 fun t14 =>
  pField 1 t14 fun t15 =>
  pLoad h t15 fun t16 =>
  pLook (.int .i64) (.int .i64 0) true h t16 id1 fun t18 =>
  pExt t18 0 fun t19 =>
  pExt t18 1 fun t20 =>
  pBin .lss id1 (.int .i64 0) fun t23 =>
  ifV t23
  (sh_heap_Heap_Lower_k1 P K h)
  (pNil h0 fun t27 =>
  pField 2 t27 fun t28 =>
  pLoad h t28 fun t29 =>
  pBin .geq id1 t29 fun t30 =>
  ifV t30
  (sh_heap_Heap_Lower_k1 P K h)
  (pUn .not t20 fun t34 =>
  ifV t34
  (K (.int .i64 20) h)
  (pNil h0 fun t37 =>
  pField 0 t37 fun t38 =>
  pField 0 t38 fun t39 =>
  pLoad h t39 fun t40 =>
  pIdx 2 t40 t19 fun t42 =>
  pField 1 t42 fun t43 =>
  pLoad h t43 fun t44 =>
  pBin .lss t44 key2 fun t46 =>
  ifV t46
  (K (.int .i64 2) h)
  (pNil h0 fun t48 =>
  pField 0 t48 fun t49 =>
  pField 0 t49 fun t50 =>
  pLoad h t50 fun t51 =>
  pIdx 2 t51 t19 fun t54 =>
  pField 1 t54 fun t55 =>
  pStore 1 t55 key2 h fun u h_2 =>
  pNil h0 fun t57 =>
  pField 0 t57 fun t58 =>
  callS P F_heap_row_up [t58, t19] h_2 fun t60 h_3 =>
  K (.int .i64 0) h_3)))))

set_option maxRecDepth 100000 in
theorem lk_heap_Heap_Lower (h0 id1 key2 : Value) {h : Heap} {K : Value → Heap → Prop} (H : sh_heap_Heap_Lower Tryz.prog h0 id1 key2 h K) : CallsH Tryz.prog F_heap_Heap_Lower [h0, id1, key2].toArray h K :=
  callsH_of (ann := (annG (Tryz.f78.body.getD .skip) 0 []).1) (c := Tryz.f78.body.getD .skip) Tryz.func78 (by kernel_rfl) (by kernel_rfl) (by kernel_rfl) (of_decide_eq_true (by kernel_rfl))
    (Eq.mpr (by kernel_rfl) H)

/-! milestone/dist.between[int64]$1 -/

def sh_dist_between_int64_1 (P : Program) (x0 t1 t2 : Value) (h : Heap) (K : Value → Heap → Prop) : Prop :=
  pLoad h t1 fun t6 =>
  pMax x0 t6 fun t7 =>
  pLoad h t2 fun t8 =>
  pMin t7 t8 fun t9 =>
  K t9 h

set_option maxRecDepth 100000 in
theorem lk_dist_between_int64_1 (x0 t1 t2 : Value) {h : Heap} {K : Value → Heap → Prop} (H : sh_dist_between_int64_1 Tryz.prog x0 t1 t2 h K) : CallsH Tryz.prog F_dist_between_int64_1 [x0, t1, t2].toArray h K :=
  callsH_of (ann := (annG (Tryz.f79.body.getD .skip) 0 []).1) (c := Tryz.f79.body.getD .skip) Tryz.func79 (by kernel_rfl) (by kernel_rfl) (by kernel_rfl) (of_decide_eq_true (by kernel_rfl))
    (Eq.mpr (by kernel_rfl) H)

/-! milestone/graph.look$1 -/

def sh_graph_look_1 (P : Program) (t0 : Value) (h : Heap) (K : Value → Heap → Prop) : Prop :=
  pField 0 t0 fun t2 =>
  pLoad h t2 fun t3 =>
  callS P F_graph_one [(.int .i64 5), t3, (.int .i64 1), (.int .i64 16777217)] h fun t4 h_1 =>
  K t4 h_1

set_option maxRecDepth 100000 in
theorem lk_graph_look_1 (t0 : Value) {h : Heap} {K : Value → Heap → Prop} (H : sh_graph_look_1 Tryz.prog t0 h K) : CallsH Tryz.prog F_graph_look_1 [t0].toArray h K :=
  callsH_of (ann := (annG (Tryz.f80.body.getD .skip) 0 []).1) (c := Tryz.f80.body.getD .skip) Tryz.func80 (by kernel_rfl) (by kernel_rfl) (by kernel_rfl) (of_decide_eq_true (by kernel_rfl))
    (Eq.mpr (by kernel_rfl) H)

/-! milestone/graph.one -/

def sh_graph_one (P : Program) (code0 n1 least2 end3 : Value) (h : Heap) (K : Value → Heap → Prop) : Prop :=
  pBuild [(.int .i64 0), (.int .i64 0), (.int .i64 0), (.int .i64 0), (.int .i64 0), (.int .i64 0)] [(0, 1, (.int .i64 0)), (1, 1, (.int .i64 0)), (2, 1, code0), (3, 1, n1), (4, 1, least2), (5, 1, end3)] fun t13 =>
  pBuildSlice T_graph_place (zerosL [(.int .i64 0), (.int .i64 0), (.int .i64 0), (.int .i64 0), (.int .i64 0), (.int .i64 0)] 1) [(0, 6, t13)] 1 h fun t14 h_1 =>
  callS P F_slices_Values_sl_graph_place_graph_place [t14] h_1 fun t15 h_2 =>
  K t15 h_2

set_option maxRecDepth 100000 in
theorem lk_graph_one (code0 n1 least2 end3 : Value) {h : Heap} {K : Value → Heap → Prop} (H : sh_graph_one Tryz.prog code0 n1 least2 end3 h K) : CallsH Tryz.prog F_graph_one [code0, n1, least2, end3].toArray h K :=
  callsH_of (ann := (annG (Tryz.f81.body.getD .skip) 0 []).1) (c := Tryz.f81.body.getD .skip) Tryz.func81 (by kernel_rfl) (by kernel_rfl) (by kernel_rfl) (of_decide_eq_true (by kernel_rfl))
    (Eq.mpr (by kernel_rfl) H)

/-! milestone/graph.look$2 -/

def sh_graph_look_2 (P : Program) (t0 : Value) (h : Heap) (K : Value → Heap → Prop) : Prop :=
  pLoadN 4 h t0 fun t2 =>
  callS P F_graph_shapes [t2] h fun t3 h_1 =>
  K t3 h_1

set_option maxRecDepth 100000 in
theorem lk_graph_look_2 (t0 : Value) {h : Heap} {K : Value → Heap → Prop} (H : sh_graph_look_2 Tryz.prog t0 h K) : CallsH Tryz.prog F_graph_look_2 [t0].toArray h K :=
  callsH_of (ann := (annG (Tryz.f82.body.getD .skip) 0 []).1) (c := Tryz.f82.body.getD .skip) Tryz.func82 (by kernel_rfl) (by kernel_rfl) (by kernel_rfl) (of_decide_eq_true (by kernel_rfl))
    (Eq.mpr (by kernel_rfl) H)

/-! milestone/graph.shapes -/

def sh_graph_shapes (P : Program) (r0 : Value) (h : Heap) (K : Value → Heap → Prop) : Prop :=
  pBox T_api_Raw r0 h fun r1 h_1 =>
  pField 0 r1 fun t4 =>
  pLoad h_1 t4 fun t5 =>
  pField 1 r1 fun t6 =>
  pLoad h_1 t6 fun t7 =>
  pLen t7 fun t8 =>
  pBin .add t5 (.int .i64 1) fun t11 =>
  pBuild [(.int .i64 0), (.int .i64 0), (.int .i64 0), (.int .i64 0), (.int .i64 0), (.int .i64 0)] [(0, 1, (.int .i64 0)), (1, 1, (.int .i64 0)), (2, 1, (.int .i64 6)), (3, 1, t8), (4, 1, t5), (5, 1, t11)] fun t12 =>
  pField 2 r1 fun t13 =>
  pLoad h_1 t13 fun t14 =>
  pLen t14 fun t15 =>
  pBin .add t5 (.int .i64 1) fun t18 =>
  pBuild [(.int .i64 0), (.int .i64 0), (.int .i64 0), (.int .i64 0), (.int .i64 0), (.int .i64 0)] [(0, 1, (.int .i64 0)), (1, 1, (.int .i64 1)), (2, 1, (.int .i64 6)), (3, 1, t15), (4, 1, t5), (5, 1, t18)] fun t19 =>
  pBuildSlice T_graph_place (zerosL [(.int .i64 0), (.int .i64 0), (.int .i64 0), (.int .i64 0), (.int .i64 0), (.int .i64 0)] 2) [(0, 6, t12), (6, 6, t19)] 2 h_1 fun t20 h_2 =>
  callS P F_slices_Values_sl_graph_place_graph_place [t20] h_2 fun t21 h_3 =>
  K t21 h_3

set_option maxRecDepth 100000 in
theorem lk_graph_shapes (r0 : Value) {h : Heap} {K : Value → Heap → Prop} (H : sh_graph_shapes Tryz.prog r0 h K) : CallsH Tryz.prog F_graph_shapes [r0].toArray h K :=
  callsH_of (ann := (annG (Tryz.f83.body.getD .skip) 0 []).1) (c := Tryz.f83.body.getD .skip) Tryz.func83 (by kernel_rfl) (by kernel_rfl) (by kernel_rfl) (of_decide_eq_true (by kernel_rfl))
    (Eq.mpr (by kernel_rfl) H)

/-! milestone/graph.look$3 -/

def sh_graph_look_3 (P : Program) (t0 : Value) (h : Heap) (K : Value → Heap → Prop) : Prop :=
  pLoadN 4 h t0 fun t2 =>
  callS P F_graph_nodes [t2] h fun t3 h_1 =>
  K t3 h_1

set_option maxRecDepth 100000 in
theorem lk_graph_look_3 (t0 : Value) {h : Heap} {K : Value → Heap → Prop} (H : sh_graph_look_3 Tryz.prog t0 h K) : CallsH Tryz.prog F_graph_look_3 [t0].toArray h K :=
  callsH_of (ann := (annG (Tryz.f84.body.getD .skip) 0 []).1) (c := Tryz.f84.body.getD .skip) Tryz.func84 (by kernel_rfl) (by kernel_rfl) (by kernel_rfl) (of_decide_eq_true (by kernel_rfl))
    (Eq.mpr (by kernel_rfl) H)

end Go.Proofs.YtlkcpceobicoiaaGreatDoor
